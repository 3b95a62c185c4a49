/- This text proves a law for a region whose order is open: a head that leaves a class of worlds alone, one call that waits for all of it and that all others wait for, and a rest that leaves another class alone. It has no conditions of its own. This text proves that what the plain walk shows of a region holds in a round of a range over a function, too. It has no conditions but those that it states. This text proves small general laws: a region's rest in a round, and results that lie in cells. It has no conditions but those that it states. This text proves laws for a region whose order is open and that holds one call that makes memory: loads that need not stand ahead of it, and quiet operations behind it. It has no conditions but those that it states. -/
import Derived.Test.YtacpjpkhmdcagaaGreatQuiet
import Derived.Test.YtacpjpkhmdcagaaGreatRangeH
import Derived.OrdersIn
import Derived.Test.YtacpjpkhmdcagaaGreatSink
namespace Go.Proofs.YtacpjpkhmdcagaaGreat
set_option linter.unusedVariables false
open Go.RowKit
section
variable {P : Program} {ops : Array Oper} {md : Region.Mode} {C : World → Prop}
/-- Each operation behind number n waits for n, or for one behind n. -/
def behindB (md : Region.Mode) (ops : Array Oper) (n : Nat) : Bool :=
  (List.range ops.size).all fun t => decide (t ≤ n) || (List.range t).any fun s => decide (n ≤ s) && Region.waitsFor md ops t s
theorem mid_waits {n : Nat} {listed : Array Bool} (hs : Region.sinkB md ops n = true) (hc : behindB md ops n = true) (inv : HeadInv md ops n listed) :
    ∀ (d i : Nat), n - i = d → i < n → listed.getD i true = false → ∀ t, n ≤ t → t ∉ Region.ready md ops listed := by
  intro d
  induction d using Nat.strongRecOn with
  | _ d ih =>
    intro i hd hi hun t ht hr
    obtain ⟨_, ot, hot, hall⟩ := mem_ready.1 hr
    have htlt : t < ops.size := (Array.getElem?_eq_some_iff.1 hot).1
    by_cases htn : t = n
    · subst htn
      have h1 := List.all_eq_true.1 hs i (List.mem_range.2 hi)
      obtain ⟨j, hj, hj2⟩ := List.any_eq_true.1 h1
      simp only [Bool.and_eq_true, decide_eq_true_eq] at hj2
      obtain ⟨oj, hoj, e, he, hb, hon⟩ := Region.waitsFor_spec hj2.2
      have hjle : j ≤ t := by have := List.mem_range.1 hj; omega
      by_cases hjt : j = t
      · subst hjt
        have : oj = ot := Option.some.inj (hoj.symm.trans hot)
        subst this
        have h2 := hall e he hb
        rw [hon, getD_both hun] at h2
        cases h2
      · cases hl : listed.getD j false with
        | true =>
          have h2 := inv.closed j oj hoj hl e he hb
          rw [hon, getD_both hun] at h2
          cases h2
        | false =>
          have hjs : j < listed.size := by rw [inv.size]; omega
          exact ih (t - j) (by omega) j rfl (by omega) (getD_in hjs hl) t (Nat.le_refl _) hr
    · have h1 := List.all_eq_true.1 hc t (List.mem_range.2 htlt)
      simp only [Bool.or_eq_true, decide_eq_true_eq] at h1
      rcases h1 with h1 | h1
      · omega
      · obtain ⟨s, hs1, hs2⟩ := List.any_eq_true.1 h1
        simp only [Bool.and_eq_true, decide_eq_true_eq] at hs2
        have hst := List.mem_range.1 hs1
        obtain ⟨o', ho', e, he, hb, hon⟩ := Region.waitsFor_spec hs2.2
        have : o' = ot := Option.some.inj (ho'.symm.trans hot)
        subst this
        have h2 := hall e he hb
        rw [hon, getD_both (inv.tail s hs2.1 (by omega))] at h2
        cases h2
theorem headM_first {n i : Nat} {oi : Oper} {v : Value} {L : Array Bool → Act → Prop} (hi : ops[i]? = some oi) (hsel : Region.noSelect ops = true)
    (hs : Region.sinkB md ops n = true) (hc : behindB md ops n = true) (hin : i < n) (hdone : ∀ done a, L done a → ∀ j ∈ Region.ready md ops done, n ≤ j) :
    ∀ (f : Nat) (done : Array Bool) (a : Act), HeadInv md ops n done →
      (∀ j oj, ops[j]? = some oj → j ≠ i → done.getD j true = false → (∀ e ∈ oj.after, Region.binds md e = true → e.on ≠ i) → oi.apart ops oj = true) →
      i ∈ Region.ready md ops done → YieldsIn P ops C oi v a →
      headQ P md ops C n L f (done.setIfInBounds i true) (a.put oi.dst v) → headQ P md ops C n L (f + 1) done a := by
  have sel := Region.noSelect_spec hsel
  intro f
  induction f with
  | zero =>
    intro done a inv _ hr hy H
    refine ⟨fun h => (by rw [h] at hr; cases hr), fun j hj => ?_⟩
    have hjn : j < n := Nat.lt_of_not_le fun h => mid_waits hs hc inv _ i rfl hin (mem_ready.1 hr).1 j h hj
    refine ⟨hjn, ?_⟩
    by_cases hji : j = i
    · subst hji
      exact hy.qOp hi H
    · exact absurd (hdone _ _ H j (ready_mono hj hji)) (by omega)
  | succ f ih =>
    intro done a inv hfree hr hy H
    refine ⟨fun h => (by rw [h] at hr; cases hr), fun j hj => ?_⟩
    have hun := (mem_ready.1 hr).1
    have hjn : j < n := Nat.lt_of_not_le fun h => mid_waits hs hc inv _ i rfl hin hun j h hj
    refine ⟨hjn, ?_⟩
    by_cases hji : j = i
    · subst hji
      exact hy.qOp hi H
    · obtain ⟨hju, oj, hoj, hall⟩ := mem_ready.1 hj
      have hno : ∀ e ∈ oj.after, Region.binds md e = true → e.on ≠ i := by
        rintro e he hb rfl
        have h1 := hall e he hb
        rw [getD_both hun] at h1
        cases h1
      have h2 := qOp_put hoj (hfree j oj hoj hji hju hno) (fun cs b => sel i oi cs b hi) (fun cs b => sel j oj cs b hoj) hy (H.2 j (ready_mono hj hji)).2
      refine qOp_mono (fun a' h3 => ih (done.setIfInBounds j true) a' (inv.set hj hjn) (fun k ok hk hki hu hw => hfree k ok hk hki ?_ hw) (ready_mono hr (Ne.symm hji)) h3.1 ?_) h2
      · by_cases hjk : j = k
        · subst hjk
          exact hju
        · rwa [getD_set_ne true hjk] at hu
      · rw [Array.setIfInBounds_comm _ _ hji]
        exact h3.2
/-- The head in the order of the text; behind it n is ready, and nothing else. -/
def lexMid (md : Region.Mode) (ops : Array Oper) (n : Nat) : Nat → Nat → Array Bool → Bool
  | 0, _, done => Region.ready md ops done == [n]
  | f + 1, k, done => (Region.ready md ops done).contains k && (Region.free md ops done k && lexMid md ops n f (k + 1) (done.setIfInBounds k true))
def setN : Nat → Nat → Array Bool → Array Bool
  | 0, _, d => d
  | f + 1, k, d => setN f (k + 1) (d.setIfInBounds k true)
theorem headM_lex {n : Nat} {Lq : Act → Prop} (hsel : Region.noSelect ops = true) (hs : Region.sinkB md ops n = true) (hc : behindB md ops n = true) :
    ∀ (l : List Oper) (k : Nat) (done : Array Bool) (a : Act), (∀ j, j < l.length → l[j]? = ops[k + j]?) → k + l.length = n → HeadInv md ops n done →
    lexMid md ops n l.length k done = true → wpQuiet P ops C Lq l a → headQ P md ops C n (fun done' a' => (done' = setN l.length k done ∧ Region.ready md ops done' = [n]) ∧ Lq a') l.length done a
  | [], k, done, a, _, hk, _, hB, h => ⟨⟨rfl, by simpa [lexMid] using hB⟩, h⟩
  | o :: l, k, done, a, hl, hk, inv, hB, h => by
    simp only [List.length_cons] at hk
    have h0 : ops[k]? = some o := by simpa using (hl 0 (by simp)).symm
    simp only [List.length_cons, lexMid, Bool.and_eq_true] at hB
    have hr : k ∈ Region.ready md ops done := by simpa using hB.1
    have hq : qOp P ops C k (wpQuiet P ops C Lq l) a := by unfold qOp; simp only [h0]; exact h
    obtain ⟨v, hy, hK⟩ := yieldsIn_of_qOp h0 hq
    have rest := headM_lex hsel hs hc l (k + 1) (done.setIfInBounds k true) (a.put o.dst v) (fun j hj => by
      have := hl (j + 1) (by simp; omega)
      rw [show k + (j + 1) = k + 1 + j by omega] at this
      simpa using this) (by omega) (inv.set hr (by omega)) hB.2.2 hK
    exact headM_first h0 hsel hs hc (by omega) (fun done' a' hL j hj => by
      rw [hL.1.2] at hj
      simp at hj
      omega) l.length done a inv (Region.free_spec h0 hB.2.1) hr hy rest
def midB (md : Region.Mode) (l : List Oper) (n : Nat) : Bool :=
  Region.noSelect l.toArray && (decide (n < l.length) && (Region.sinkB md l.toArray n && (behindB md l.toArray n && (lexMid md l.toArray n n 0 (Array.replicate l.length false) && Region.lexFrom md l.toArray (l.drop (n + 1)).length (n + 1) ((setN n 0 (Array.replicate l.length false)).setIfInBounds n true)))))
theorem wp_region_mid {id : Nat} {Q : Exit → Act → World → Prop} {a : Act} {w : World} {l : List Oper} (n : Nat) (o : Oper) (hm : P.follows .mixedOrders = true) (hB : midB .any l n = true) (hn : l[n]? = some o) (hg : o.guard = none) (hC : C { w with drawn := w.drawn + 1 })
    (h : wpQuiet P l.toArray C (fun a' => ∀ w', C w' → o.wp P a' w' (fun a2 w2 => wpQuiet P l.toArray (fun W => Ext w2 W) (fun a3 => ∀ w3, Below w2.heap.size w2 w3 → Q .normal a3 w3) (l.drop (n + 1)) a2) Q) (l.take n) a) : (Code.region id l.toArray true).wp P Q a w := by
  simp only [midB, Bool.and_eq_true, decide_eq_true_eq] at hB
  obtain ⟨hsel, hn', hs, hc, hlex, hlex2⟩ := hB
  have htl : (l.take n).length = n := by simp; omega
  have hdl : (l.drop (n + 1)).length = l.length - (n + 1) := by simp
  have inv0 : HeadInv .any l.toArray n (Array.replicate l.toArray.size false) :=
    ⟨by simp, fun j oj _ hl => (by rw [getD_replicate_false] at hl; cases hl), fun t _ ht => getD_in (by simpa using ht) (getD_replicate_false _ _)⟩
  have H := headM_lex (P := P) (C := C) (md := .any) hsel hs hc (l.take n) 0 _ a (fun j hj => by
    rw [htl] at hj
    simp [hj]) (by omega) inv0 (by rw [htl]; simpa using hlex) h
  have K := headQ_wp (Q := Q) (g := (l.drop (n + 1)).length + 1) (fun done a' w' hw' hL => by
    obtain ⟨⟨hd, hr⟩, hL⟩ := hL
    refine ⟨fun h0 => (by rw [hr] at h0; cases h0), fun i hi => ?_⟩
    rw [hr] at hi
    simp only [List.mem_cons, List.not_mem_nil, or_false] at hi
    subst hi
    have hw := hL w' hw'
    unfold wpOp
    simp only [List.getElem?_toArray, hn]
    rw [if_pos (by simp [Region.wanted, hg])]
    left
    refine Oper.wp_mono (fun a2 w2 h2 => ?_) hw
    refine wpAny_of_quiet (C := fun W => Ext w2 W) (Q := fun a3 => ∀ w3, Below w2.heap.size w2 w3 → Q .normal a3 w3) (fun a3 w3 hw3 h3 => h3 w3 hw3.out) _ _ _ _ (show Ext w2 w2 from Below.refl _ _) ?_
    have hset : done = setN i 0 (Array.replicate l.length false) := by rw [hd, htl]; simp
    rw [hset]
    exact wpAnyQ_lex hsel (l.drop (i + 1)) (i + 1) _ _ (fun j => by simp [List.getElem?_drop]) hlex2 h2) _ _ a _ hC H
  rw [htl, show n + ((l.drop (n + 1)).length + 1) = l.toArray.size by rw [hdl]; simp; omega] at K
  exact wp_region_any hm K
theorem wp_enter {o : Oper} {a : Act} {w : World} {Q : Exit → Act → World → Prop} {K : Act → World → Prop} {F : FuncId} {args : Array Value} {v : Value} (hx : (execOp a.eval o).run P w = .ok (.enter F args) w)
    (h : Calls P F args w fun e w' => e = .returned v ∧ K (a.put o.dst v) w') : o.wp P a w K Q := by
  unfold Oper.wp
  rw [hx, Oper.upon_enter]
  refine h.mono ?_
  rintro e w' ⟨rfl, hk⟩
  exact hk
end
end Go.Proofs.YtacpjpkhmdcagaaGreat
namespace Go.Proofs.YtacpjpkhmdcagaaGreat
set_option linter.unusedVariables false
open Go.RowKit
def calmB (ops : Array Oper) : Bool := ops.all fun o => match o.op with | .defer _ => false | _ => true
theorem calmB_spec {ops : Array Oper} (h : calmB ops = true) {i : Nat} {o : Oper} (hi : ops[i]? = some o) : ∀ c, o.op ≠ .defer c := by
  intro c hc
  obtain ⟨hlt, rfl⟩ := Array.getElem?_eq_some_iff.1 hi
  have := Array.all_eq_true.1 h i hlt
  simp [hc] at this
section
variable {n l : Nat} {P : Program} {ops : Array Oper} {Q : Exit → Act → World → Prop}
theorem op_round {o : Oper} {a : Act} {w : World} {K : Act → World → Prop} (hd : ∀ c, o.op ≠ .defer c) (h : o.wp P a w K Q) : o.wpIn (Fence.wide.inRound l) n P a w K Q := by
  refine ⟨fun _ _ => trivial, ?_⟩
  rw [Oper.semAt_eq _ _ _ hd]
  unfold Oper.wp at h
  have hdep : (Fence.wide.inRound l).depth.isSome = true → 1 ≤ n := fun h => by simp [Fence.wide, Fence.inRound] at h
  generalize (execOp a.eval o).run P w = r at *
  cases r with
  | ok x w' =>
    cases x
    case value v => exact h
    case skip => exact h
    case defer d => exact h
    case enter f args => exact ⟨hdep, CallsIn.inRound l (callsIn_wide.2 h)⟩
    case row row args => exact ⟨hdep, fun c cs _ => (h c cs).elim fun v h => h.elim fun w2 h => ⟨v, w2, h.1, stepsIn_wide.2 h.2⟩⟩
    all_goals exact h.elim
  | halt x w' =>
    cases x <;> first | exact h | exact h.elim
theorem any_round (hc : calmB ops = true) (hQ : ¬ LetsOut Q) : ∀ (fuel : Nat) (listed : Array Bool) (a : Act) (w : World), wpAny P .any ops Q fuel listed a w → wpAnyIn (Fence.wide.inRound l) n P .any ops Q fuel listed a w
  | 0, _, _, _, h => h
  | fuel + 1, listed, a, w, h => ⟨h.1, fun i hi => by
    have h1 := h.2 i hi
    unfold wpOp at h1
    unfold wpOpIn
    split
    · rename_i ho
      simp only [ho] at h1
      exact any_round hc hQ fuel _ _ _ h1
    · rename_i o ho
      simp only [ho] at h1
      split
      · rename_i hw
        rw [if_pos hw] at h1
        rcases h1 with h1 | h1
        · exact Oper.wpIn_mono (fun a w h => any_round hc hQ fuel _ a w h) (op_round (calmB_spec hc ho) h1)
        · exact absurd h1.2 hQ
      · rename_i hw
        rw [if_neg hw] at h1
        exact ⟨fun _ _ => trivial, any_round hc hQ fuel _ _ _ h1⟩⟩
theorem list_round (hQ : ¬ LetsOut Q) : ∀ (r : List Oper) (a : Act) (w : World), (∀ o ∈ r, ∀ c, o.op ≠ .defer c) → wpList P ops Q r a w → wpListIn (Fence.wide.inRound l) n P ops Q r a w
  | [], _, _, _, h => h
  | o :: r, a, w, hd, h => by
    unfold wpList at h
    unfold wpListIn
    split
    · rename_i hw
      rw [if_pos hw] at h
      rcases h with h | h
      · exact Oper.wpIn_mono (fun a w h => list_round hQ r a w (fun o ho => hd o (List.mem_cons_of_mem _ ho)) h) (op_round (hd o (List.mem_cons_self ..)) h)
      · exact absurd h.2 hQ
    · rename_i hw
      rw [if_neg hw] at h
      exact ⟨fun _ _ => trivial, list_round hQ r _ _ (fun o ho => hd o (List.mem_cons_of_mem _ ho)) h⟩
theorem round_region_any {id : Nat} {a : Act} {w : World} (hm : P.follows .mixedOrders = true) (hc : calmB ops = true) (hQ : ¬ LetsOut Q)
    (h : wpAny P .any ops Q ops.size (Array.replicate ops.size false) a { w with drawn := w.drawn + 1 }) : (Code.region id ops true).wpIn (Fence.wide.inRound l) n P Q a w :=
  wpIn_region_any hm (any_round hc hQ _ _ _ _ h)
end
section
variable {n l : Nat} {P : Program} {Q : Exit → Act → World → Prop}
/-- A region that does not draw. -/
theorem round_region_lit {id : Nat} {a : Act} {w : World} {ops : List Oper} (hc : calmB ops.toArray = true) (hQ : ¬ LetsOut Q) (h : wpList P ops.toArray Q ops a w) : (Code.region id ops.toArray false).wpIn (Fence.wide.inRound l) n P Q a w :=
  wpIn_region_lit (list_round hQ ops a w (fun o ho c hc' => by
    obtain ⟨i, hi⟩ := List.mem_iff_getElem?.1 ho
    exact calmB_spec hc (i := i) (by simpa using hi) c hc') h)
/-- A region that draws, whose operations leave the world as it is. -/
theorem round_region_below_lit {id : Nat} {a : Act} {w : World} {ops : List Oper} (hm : P.follows .mixedOrders = true) (hc : calmB ops.toArray = true) (hQ : ¬ LetsOut Q) (hB : Region.lexB .any ops.toArray = true)
    (h : wpQuiet P ops.toArray (fun w' => Ext w w') (fun a' => ∀ w', Below w.heap.size w w' → Q .normal a' w') ops a) : (Code.region id ops.toArray true).wpIn (Fence.wide.inRound l) n P Q a w := by
  simp only [Region.lexB, Bool.and_eq_true] at hB
  refine round_region_any hm hc hQ (wpAny_of_quiet (C := fun w' => Ext w w') (Q := fun a' => ∀ w', Below w.heap.size w w' → Q .normal a' w') (fun _ w' hw' h => h w' hw'.out) _ _ _ _ (Below.refl _ _).drew ?_)
  have := wpAnyQ_lex (C := fun w' => Ext w w') (md := .any) hB.1 ops 0 (Array.replicate ops.toArray.size false) a (by simp) (by simpa using hB.2) h
  simpa using this
end
end Go.Proofs.YtacpjpkhmdcagaaGreat
namespace Go.Proofs.YtacpjpkhmdcagaaGreat
set_option linter.unusedVariables false
open Go.RowKit
theorem list_roundB {n l : Nat} {P : Program} {ops : Array Oper} {Q : Exit → Act → World → Prop} {r : List Oper} {a : Act} {w : World} (hQ : ¬ LetsOut Q) (hc : calmB r.toArray = true) (h : wpList P ops Q r a w) : wpListIn (Fence.wide.inRound l) n P ops Q r a w :=
  list_round hQ r a w (fun o ho c hc' => by
    obtain ⟨i, hi⟩ := List.mem_iff_getElem?.1 ho
    exact calmB_spec hc (i := i) (by simpa using hi) c hc') h
theorem results_cell_sc {fn : Func} {p : Tmp} {ty : TypeId} (h : fn.results = #[.cell p ty]) (tmps : Array Value) (P : Program) (w : World) (g i : Nat) (v : Value) (hp : tmps.getD p undef = .pointer (some ⟨g, i, none⟩)) (hs : scalarB P ty = true) (hc : w.cell? ⟨g, i, none⟩ = some v) :
    (results fn tmps).run P w = .ok v w := by
  have hp' : tmps[p]?.getD undef = .pointer (some ⟨g, i, none⟩) := by simpa using hp
  have h1 := run_load_scalar (P := P) w ty ⟨g, i, none⟩ v hs hc
  simp only [Instr.loadAt, Instr.sureAddr, Sem.run_bind, Sem.run_pure, Result.andThen_ok] at h1
  simp [results, h, hp', asAddr, h1]
theorem results_two {fn : Func} {p q : Tmp} {t u : TypeId} (h : fn.results = #[.cell p t, .cell q u]) (tmps : Array Value) (P : Program) (w : World) (g i g2 i2 : Nat) (x y : Value) (hp : tmps.getD p undef = .pointer (some ⟨g, i, none⟩)) (hq : tmps.getD q undef = .pointer (some ⟨g2, i2, none⟩)) (hs : scalarB P t = true) (hs2 : scalarB P u = true) (hc : w.cell? ⟨g, i, none⟩ = some x) (hc2 : w.cell? ⟨g2, i2, none⟩ = some y) :
    (results fn tmps).run P w = .ok (.tuple #[x, y]) w := by
  have hp' : tmps[p]?.getD undef = .pointer (some ⟨g, i, none⟩) := by simpa using hp
  have hq' : tmps[q]?.getD undef = .pointer (some ⟨g2, i2, none⟩) := by simpa using hq
  have h1 := run_load_scalar (P := P) w t ⟨g, i, none⟩ x hs hc
  have h2 := run_load_scalar (P := P) w u ⟨g2, i2, none⟩ y hs2 hc2
  simp only [Instr.loadAt, Instr.sureAddr, Sem.run_bind, Sem.run_pure, Result.andThen_ok] at h1 h2
  simp [results, h, hp', hq', asAddr, h1, h2]
end Go.Proofs.YtacpjpkhmdcagaaGreat
namespace Go.Proofs.YtacpjpkhmdcagaaGreat
set_option linter.unusedVariables false
open Go.RowKit
section
variable {P : Program} {md : Region.Mode} {S C : World → Prop} {n : Nat} {Q' : Exit → Act → World → Prop}
theorem wpAnyT_of_quiet {ops : Array Oper} {Q : Act → Prop} (hCS : ∀ w, C w → S w) (hQ : ∀ a w, C w → Q a → Q' .normal a w) : ∀ (fuel : Nat) (listed : Array Bool) (a : Act) (w : World), C w →
    wpAnyQ P md ops C Q fuel listed a → wpAnyT P md ops Q' S n fuel listed a w
  | 0, _, _, _, hw, h => ⟨h.1, hQ _ _ hw h.2⟩
  | fuel + 1, _, _, _, hw, h => ⟨fun h0 => hQ _ _ hw (h.1 h0), fun i hi => wpOp_of_qOp hw (fun a' w' hw' h' => ⟨.inr (hCS _ hw'), wpAnyT_of_quiet hCS hQ fuel _ a' w' hw' h'⟩) (h.2 i hi)⟩
/-- Behind the call: quiet operations in the order of the text. -/
theorem T_rest {l : List Oper} (k : Nat) {fuel : Nat} {listed : Array Bool} {a : Act} {w2 : World} (hf : fuel = (l.drop k).length) (hB : (Region.noSelect l.toArray && Region.lexFrom md l.toArray (l.drop k).length k listed) = true) (hCS : ∀ W, Below w2.heap.size w2 W → S W)
    (h : wpQuiet P l.toArray (fun W => Ext w2 W) (fun a' => ∀ w3, Below w2.heap.size w2 w3 → Q' .normal a' w3) (l.drop k) a) : wpAnyT P md l.toArray Q' S n fuel listed a w2 := by
  subst hf
  simp only [Bool.and_eq_true] at hB
  refine wpAnyT_of_quiet (C := fun W => Ext w2 W) (Q := fun a' => ∀ w3, Below w2.heap.size w2 w3 → Q' .normal a' w3) (fun W hW => hCS W hW.out) (fun a' w3 hw3 h3 => h3 w3 hw3.out) _ _ _ _ (show Ext w2 w2 from Below.refl _ _) ?_
  exact wpAnyQ_lex hB.1 (l.drop k) k _ _ (fun j => by simp [List.getElem?_drop]) hB.2 h
theorem y_load_blk {ops : Array Oper} {o : Oper} {a : Act} (ty : TypeId) (x : Operand) (ho : o.op = .load ty x) (hw : Region.wanted o (yielded ops a.tmps) = true) (g : Nat) (hx : a.eval x = .pointer (some ⟨g, 0, none⟩)) (t : TypeId) (cs : Array Value) (d : TypeDesc)
    (hb : ∀ w, S w → Blk w g t cs) (hu : P.underlying ty = some d) (hd : (match d with | .struct _ | .array _ _ => true | _ => false) = true) (hi : (P.info? ty).map (·.size) = some cs.size) : YieldsIf P ops S o (.agg cs) a :=
  .inl ⟨hw, fun w hS => by
    unfold execOp
    simp only [ho, hx, Instr.loadAt, Instr.sureAddr, Sem.run_bind, Sem.run_pure, Result.andThen_ok, run_loadVar_row w g t ty cs _ d (hb w hS) hu hd hi]⟩
theorem wp_enterE {ops : Array Oper} {o : Oper} {a : Act} {w : World} {Q : Exit → Act → World → Prop} {K : Act → World → Prop} {F : FuncId} {args : Array Value} (hx : (execOp a.eval o).run P w = .ok (.enter F args) w)
    (h : Calls P F args w fun e w' => ∃ v, e = .returned v ∧ K (a.put o.dst v) w') : o.wp P a w K Q := by
  unfold Oper.wp
  rw [hx, Oper.upon_enter]
  refine h.mono ?_
  rintro e w' ⟨v, rfl, hk⟩
  exact hk
end
end Go.Proofs.YtacpjpkhmdcagaaGreat
