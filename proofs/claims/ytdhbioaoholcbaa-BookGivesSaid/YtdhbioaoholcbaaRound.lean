/- This text proves that what the plain walk shows of a region holds in a round of a range over a function, too. It has no conditions but those that it states. -/
import Derived.Test.YtdhbioaoholcbaaRange
import Derived.Test.YtdhbioaoholcbaaMid
import Derived.OrdersIn
namespace Go.Proofs.Ytdhbioaoholcbaa
set_option linter.unusedVariables false
open Go.RowKit
def calmB (ops : Array Oper) : Bool := ops.all fun o => match o.op with | .defer _ => false | _ => true
theorem calmB_spec {ops : Array Oper} (h : calmB ops = true) {i : Nat} {o : Oper} (hi : ops[i]? = some o) : ∀ c, o.op ≠ .defer c := by
  intro c hc
  obtain ⟨hlt, rfl⟩ := Array.getElem?_eq_some_iff.1 hi
  have := Array.all_eq_true.1 h i hlt
  simp [hc] at this
section
variable {n l : Nat} {P : Program} {ops : Array Oper} {Q : Exit → Act → World → Prop}
theorem op_round {o : Oper} {a : Act} {w : World} {K : Act → World → Prop} (hd : ∀ c, o.op ≠ .defer c) (h : o.wp P a w K Q) : o.wpIn (Fence.wide.inRound l) n P a w K Q := by
  refine ⟨fun _ _ => trivial, ?_⟩
  rw [Oper.semAt_eq _ _ _ hd]
  unfold Oper.wp at h
  have hdep : (Fence.wide.inRound l).depth.isSome = true → 1 ≤ n := fun h => by simp [Fence.wide, Fence.inRound] at h
  generalize (execOp a.eval o).run P w = r at *
  cases r with
  | ok x w' =>
    cases x
    case value v => exact h
    case skip => exact h
    case defer d => exact h
    case enter f args => exact ⟨hdep, CallsIn.inRound l (callsIn_wide.2 h)⟩
    case row row args => exact ⟨hdep, fun c cs _ => (h c cs).elim fun v h => h.elim fun w2 h => ⟨v, w2, h.1, stepsIn_wide.2 h.2⟩⟩
    all_goals exact h.elim
  | halt x w' =>
    cases x <;> first | exact h | exact h.elim
theorem any_round (hc : calmB ops = true) (hQ : ¬ LetsOut Q) : ∀ (fuel : Nat) (listed : Array Bool) (a : Act) (w : World), wpAny P .any ops Q fuel listed a w → wpAnyIn (Fence.wide.inRound l) n P .any ops Q fuel listed a w
  | 0, _, _, _, h => h
  | fuel + 1, listed, a, w, h => ⟨h.1, fun i hi => by
    have h1 := h.2 i hi
    unfold wpOp at h1
    unfold wpOpIn
    split
    · rename_i ho
      simp only [ho] at h1
      exact any_round hc hQ fuel _ _ _ h1
    · rename_i o ho
      simp only [ho] at h1
      split
      · rename_i hw
        rw [if_pos hw] at h1
        rcases h1 with h1 | h1
        · exact Oper.wpIn_mono (fun a w h => any_round hc hQ fuel _ a w h) (op_round (calmB_spec hc ho) h1)
        · exact absurd h1.2 hQ
      · rename_i hw
        rw [if_neg hw] at h1
        exact ⟨fun _ _ => trivial, any_round hc hQ fuel _ _ _ h1⟩⟩
theorem list_round (hQ : ¬ LetsOut Q) : ∀ (r : List Oper) (a : Act) (w : World), (∀ o ∈ r, ∀ c, o.op ≠ .defer c) → wpList P ops Q r a w → wpListIn (Fence.wide.inRound l) n P ops Q r a w
  | [], _, _, _, h => h
  | o :: r, a, w, hd, h => by
    unfold wpList at h
    unfold wpListIn
    split
    · rename_i hw
      rw [if_pos hw] at h
      rcases h with h | h
      · exact Oper.wpIn_mono (fun a w h => list_round hQ r a w (fun o ho => hd o (List.mem_cons_of_mem _ ho)) h) (op_round (hd o (List.mem_cons_self ..)) h)
      · exact absurd h.2 hQ
    · rename_i hw
      rw [if_neg hw] at h
      exact ⟨fun _ _ => trivial, list_round hQ r _ _ (fun o ho => hd o (List.mem_cons_of_mem _ ho)) h⟩
theorem round_region_any {id : Nat} {a : Act} {w : World} (hm : P.follows .mixedOrders = true) (hc : calmB ops = true) (hQ : ¬ LetsOut Q)
    (h : wpAny P .any ops Q ops.size (Array.replicate ops.size false) a { w with drawn := w.drawn + 1 }) : (Code.region id ops true).wpIn (Fence.wide.inRound l) n P Q a w :=
  wpIn_region_any hm (any_round hc hQ _ _ _ _ h)
end
section
variable {n l : Nat} {P : Program} {Q : Exit → Act → World → Prop}
/-- A region that does not draw. -/
theorem round_region_lit {id : Nat} {a : Act} {w : World} {ops : List Oper} (hc : calmB ops.toArray = true) (hQ : ¬ LetsOut Q) (h : wpList P ops.toArray Q ops a w) : (Code.region id ops.toArray false).wpIn (Fence.wide.inRound l) n P Q a w :=
  wpIn_region_lit (list_round hQ ops a w (fun o ho c hc' => by
    obtain ⟨i, hi⟩ := List.mem_iff_getElem?.1 ho
    exact calmB_spec hc (i := i) (by simpa using hi) c hc') h)
/-- A region that draws, whose operations leave the world as it is. -/
theorem round_region_below_lit {id : Nat} {a : Act} {w : World} {ops : List Oper} (hm : P.follows .mixedOrders = true) (hc : calmB ops.toArray = true) (hQ : ¬ LetsOut Q) (hB : Region.lexB .any ops.toArray = true)
    (h : wpQuiet P ops.toArray (fun w' => Ext w w') (fun a' => ∀ w', Below w.heap.size w w' → Q .normal a' w') ops a) : (Code.region id ops.toArray true).wpIn (Fence.wide.inRound l) n P Q a w := by
  simp only [Region.lexB, Bool.and_eq_true] at hB
  refine round_region_any hm hc hQ (wpAny_of_quiet (C := fun w' => Ext w w') (Q := fun a' => ∀ w', Below w.heap.size w w' → Q .normal a' w') (fun _ w' hw' h => h w' hw'.out) _ _ _ _ (Below.refl _ _).drew ?_)
  have := wpAnyQ_lex (C := fun w' => Ext w w') (md := .any) hB.1 ops 0 (Array.replicate ops.toArray.size false) a (by simp) (by simpa using hB.2) h
  simpa using this
end
end Go.Proofs.Ytdhbioaoholcbaa
