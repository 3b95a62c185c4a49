/- This text proves what curves without points hand over, and (*Curve).Prices of none. It has no conditions but those that it states. -/
import Derived.Test.YtacpjpkhmdcagaaCuI
import Derived.Scope
namespace Go.Proofs.Ytacpjpkhmdcagaa
set_option linter.unusedVariables false
open Go.RowKit
namespace Cu
set_option maxHeartbeats 2000000
set_option maxRecDepth 10000
theorem wp_rangeFunc_none {P : Program} {g : Operand} {ps : Array Tmp} {assign body : Code} {Q : Exit → Act → World → Prop} {a : Act} {w : World} {gf : Nat} {lb : Array Value} (hg : a.eval g = .func (.func gf) #[] lb) (eg : ∀ args w, (callFunc gf args).run P w = .ok (.enter gf args) w)
    (hseq : ∀ (l : Nat) (W : World), Below w.heap.size w W → Calls P gf (#[.func (.yield l) #[] #[]] ++ lb) W fun e W' => (∃ v, e = .returned v) ∧ Below W.heap.size W W')
    (hdone : ∀ (D : Nat) (W : World), w.heap.size ≤ D → Below w.heap.size w W → W.heap[D]? = some (.deferred (some [])) → Q .normal { a with defers := { target := .collected D, args := #[] } :: a.defers } W) :
    (Code.rangeFunc g ps assign body).wp P Q a w :=
  wp_rangeFunc (α := Empty) (encs := fun x => x.elim) (S := fun xs => xs = []) (Sp := fun _ => False) (N := 0) hg eg (Nat.le_refl _)
    (fun l J Jx W hW hJ hJx hY h0 => callsIn_wide.2 ((hseq l W hW).mono fun e W' h => ⟨h.1, .inl ⟨[], rfl, hJ [] W W' none h0 (Idx.grown_of h.2) (fun r e => by cases e)⟩⟩)) (fun x => x.elim)
    (fun pre W => Below w.heap.size w W) (fun _ _ _ => False) (ownFrom_below (Nat.le_refl _) (Nat.le_refl _)) (fun _ _ _ _ _ h _ _ => h.elim) (Below.refl _ _) (fun x => x.elim)
    (fun l x => x.elim) (fun l pre x => x.elim) (fun D xs W hD _ hb hK => hdone D W hD hb hK) (fun D c pre W _ h => h.elim)
theorem vals_none {w : World} {A : Option Addr} {cap : Nat} (b : Nat) (hq : Blk w b 63 #[.slice A 0 cap]) (l : Nat) (W : World) (hW : Below w.heap.size w W) :
    Calls Try.prog 53 (#[.func (.yield l) #[] #[]] ++ #[.pointer (some ⟨b, 0, none⟩)]) W fun e W' => (∃ v, e = .returned v) ∧ Below W.heap.size W W' := by
  have cq : W.cell? ⟨b, 0, none⟩ = some (.slice A 0 cap) := (hq.ext hW).cell 0
  clear hq
  show Calls _ _ (#[.func (.yield l) #[] #[], .pointer (some ⟨b, 0, none⟩)]) _ _
  go_enter Try.func53, Try.ntmps53
  go_wp2_with fail
  go_loopw [7] (fun p wr => p = .int .i64 0 ∧ Below W.heap.size W wr) (fun p wr => 1)
  case atStart => exact ⟨rfl, Below.refl _ _⟩
  case round =>
    obtain ⟨rfl, hb⟩ := hrel
    go_wp2_with fail
    go_end0
    exact ⟨⟨_, rfl⟩, hb⟩
theorem pointsn_app (l : Nat) (W : World) : Calls Try.prog 27 (#[.func (.yield l) #[] #[]] ++ #[]) W fun e W' => (∃ v, e = .returned v) ∧ Below W.heap.size W W' := by
  rw [Array.append_empty]
  exact pointsn_any l W
theorem prices_nil (lo hi : Int) (w : World) : Calls Try.prog 18 #[.pointer none, .int .i64 lo, .int .i64 hi] w fun e w' => e = .returned (.slice none 0 0) ∧ Below w.heap.size w w' := by
  have hO : Blk (((w.alloc (.cells #[.int .i64 lo] 2)).alloc (.cells #[.int .i64 hi] 2)).alloc (.cells #[.slice none 0 0] 35)) (w.heap.size + 1 + 1) 35 #[.slice none 0 0] := Blk.new _ _ _ _ (by simp only [sz_alloc])
  have hb0 : Below w.heap.size w (((w.alloc (.cells #[.int .i64 lo] 2)).alloc (.cells #[.int .i64 hi] 2)).alloc (.cells #[.slice none 0 0] 35)) := by (repeat (first | with_reducible exact Below.refl _ _ | (with_reducible assumption) | (with_reducible refine below_alloc ?_ _) | (with_reducible refine below_ext (w1 := ?_) ?_ ?_; rotate_left 2; (with_reducible assumption)) | (with_reducible refine Below.setCell ?_ ?_ _; rotate_left; ((try simp) <;> omega)) | (with_reducible refine Below.drew ?_) | (with_reducible refine below_drewN ?_ _) | fail))
  have HP := Lib.hid (fun W => points_nil W)
  refine calls_of_wp_marks Try.func18 rfl ?_
  simp only [Try.ntmps18, List.size_toArray, List.length_cons, List.length_nil, Nat.reduceAdd, Nat.reduceSub, Array.replicate_succ, Array.replicate_zero, List.push_toArray, List.append_toArray, List.nil_append, List.cons_append]
  generalize hw0 : ((w.alloc (.cells #[.int .i64 lo] 2)).alloc (.cells #[.int .i64 hi] 2)).alloc (.cells #[.slice none 0 0] 35) = w0 at hO hb0
  have HW0 := Lib.hid hw0
  clear hw0
  go_wp2_with fail
  rw [HW0.out]
  refine (HP.out _).mono ?_
  rintro e w1 ⟨rfl, rfl⟩
  go_wp2_with fail
  refine wp_rangeFunc_none (gf := 27) (by rfl) (enters_of Try.func27 (by kernel_rfl) rfl) (fun l W _ => pointsn_app l W) ?_
  intro D W hD hb3 hK
  have hO3 := hO.ext hb3
  have hbW := below_ext hb0 hb3
  have hDl := (Array.getElem?_eq_some_iff.1 hK).1
  have hTl := hO.lt
  have hDn : w.heap.size + 1 + 1 < D := by omega
  have HK := Lib.hid hK
  have cO : W.cell? ⟨w.heap.size + 1 + 1, 0, none⟩ = some (.slice none 0 0) := hO3.cell 0
  clear hK hO hD hb0 hb3 HP HW0
  go_wp2_with (first | ((with_reducible show wpList _ _ _ (⟨_, .store _ _ _, _, _, _, _⟩ :: _) _ _); refine wpList_store_fld (by rfl) _ _ _ (by rfl) _ _ (by rfl) _ (by rfl) _ _ hO3 ?_ ?_ (by rfl) (by rfl) ?_; (next => first | omega | ((try simp) <;> omega)); (next => kernel_rfl); intro w4 hO4 hU4) | fail)
  have hK4 : w4.heap[D]? = some (.deferred (some [])) := (hU4.block D (by omega)).trans HK.out
  have hb4 : Below w.heap.size w w4 := below_upd hbW (by omega) hU4
  have hO5 : Blk w4 (w.heap.size + 1 + 1) 35 #[.slice none 0 0] := by
    simpa [go_sem] using hO4
  have hcc : (w4.putObj D (.deferred none)).cell? ⟨w.heap.size + 1 + 1, 0, none⟩ = some (.slice none 0 0) := (cell_mark (by omega)).trans (hO5.cell 0)
  exact bodyPostM_ret (v := .slice none 0 0) rfl hK4 (by simp [results, Try.results18, go_sem, hcc]) ⟨rfl, below_mark hb4 (by omega) hK4⟩
theorem wpList_eq_pt {ops : Array Oper} {rest : List Oper} {o : Oper} {a : Act} {w : World} {Q : Exit → Act → World → Prop} (hgd : Region.wanted o (yielded ops a.tmps) = true) (x y : Operand) (u : TypeId) (ho : o.op = .binOp .eql 26 x y u)
    (p q : Pt) (hx : a.eval x = .agg p.arr) (hy : a.eval y = .agg q.arr) (b : Bool) (hb : ptEq p q = b) (h : wpList Try.prog ops Q rest (a.put o.dst (.bool b)) w) : wpList Try.prog ops Q (o :: rest) a w :=
  wpList_step fun K hK => by
    rw [if_pos hgd]
    unfold Oper.wp execOp
    simp only [ho, hx, hy, Sem.run_bind, run_eqGuard_agg _ _ _ _ _ _ _ guardPt, Result.andThen_ok, run_eql_struct, eqPt, hb]
    exact hK _ _ h
theorem built_p1 (x : Int) : Try.prog.built 26 [(0, .int .i64 x)] = some (Pt.mk x 0 0).arr := by kernel_rfl
theorem all_nil {l : List Int} (h : All [] l) : l = [] := by
  cases l with
  | nil => rfl
  | cons x l =>
    obtain ⟨o, h1, _⟩ := (h.mem x).1 (List.mem_cons_self ..)
    cases h1
end Cu
end Go.Proofs.Ytacpjpkhmdcagaa
