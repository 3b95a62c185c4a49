/- This text proves what any edits make of two lists: the plain law, and contracts of the package compare: fits, Apply, and of damperref06.Lists. It has no conditions but those that they state. -/
import Derived.Test.YtpopfjfmppmjdaaCmpLst
namespace Go.Proofs.Ytpopfjfmppmjdaa
set_option linter.unusedVariables false
open Go.RowKit
namespace Cmp
set_option maxHeartbeats 1000000
set_option maxRecDepth 10000
/-! ### the plain law -/
def good (a b : List Msg) (i k : Nat) (e : Edt) : Bool := decide (e.a = (i : Int)) && (decide (e.b = (k : Int)) && (if e.op = 0 then eqAt a b i k else if e.op = 1 then decide (i < a.length) else if e.op = 2 then decide (k < b.length) else false))
def ap (a b : List Msg) : List Edt → Nat → Nat → Bool
  | [], i, k => decide (i = a.length) && decide (k = b.length)
  | e :: l, i, k => good a b i k e && ap a b l (if e.op = 2 then i else i + 1) (if e.op = 1 then k else k + 1)
theorem eqAt_in {a b : List Msg} {i k : Nat} (hi : i < a.length) (hk : k < b.length) : eqAt a b i k = eqM a[i] b[k] := by simp [eqAt, hi, hk]
theorem eqAt_out {a b : List Msg} {i k : Nat} (h : a.length ≤ i ∨ b.length ≤ k) : eqAt a b i k = false := by
  unfold eqAt
  rcases h with h | h
  · rw [List.getElem?_eq_none h]
  · rw [List.getElem?_eq_none h]
    cases a[i]? <;> rfl
theorem good_in {a b : List Msg} {i k : Nat} {e : Edt} (h : good a b i k e = true) : e.a = i ∧ e.b = k ∧ ((e.op = 0 ∧ i < a.length ∧ k < b.length) ∨ (e.op = 1 ∧ i < a.length) ∨ (e.op = 2 ∧ k < b.length)) := by
  unfold good at h
  simp only [Bool.and_eq_true, decide_eq_true_eq] at h
  obtain ⟨h1, h2, h3⟩ := h
  refine ⟨h1, h2, ?_⟩
  by_cases e0 : e.op = 0
  · rw [if_pos e0] at h3
    left
    refine ⟨e0, ?_, ?_⟩
    · rcases Nat.lt_or_ge i a.length with h4 | h4
      · exact h4
      · rw [eqAt_out (.inl h4)] at h3; cases h3
    · rcases Nat.lt_or_ge k b.length with h4 | h4
      · exact h4
      · rw [eqAt_out (.inr h4)] at h3; cases h3
  · rw [if_neg e0] at h3
    by_cases e1 : e.op = 1
    · rw [if_pos e1] at h3
      exact .inr (.inl ⟨e1, of_decide_eq_true h3⟩)
    · rw [if_neg e1] at h3
      by_cases e2 : e.op = 2
      · rw [if_pos e2] at h3
        exact .inr (.inr ⟨e2, of_decide_eq_true h3⟩)
      · rw [if_neg e2] at h3
        cases h3
section
variable {ops : Array Oper} {C : World → Prop} {Q : Act → Prop} {a : Act} {o : Oper} {rest : List Oper}
theorem q_nem (hgd : Region.wanted o (yielded ops a.tmps) = true) (x y : Operand) (u : TypeId) (ho : o.op = .binOp .neq 40 x y u) (p q : Msg)
    (hx : a.eval x = .agg p.arr) (hy : a.eval y = .agg q.arr) (c : Bool) (hc : Hid (eqM p q = !c)) (h : wpQuiet Try.prog ops C Q rest (a.put o.dst (.bool c))) : wpQuiet Try.prog ops C Q (o :: rest) a :=
  q_step hgd _ (fun w _ => by
    unfold Oper.quietAt execOp
    simp only [ho, hx, hy, Sem.run_bind, run_eqGuard_agg _ _ _ _ _ _ _ guardMsg, Result.andThen_ok, run_neq_struct, eqMsg, hc.out, Bool.not_not]
    exact ⟨rfl, rfl⟩) h
end
section
variable {w : World} {A : Option Addr} {ca : Nat} {B : Option Addr} {cb : Nat} {a b : List Msg}
def FitsPost (c : Bool) (w : World) (e : Ending) (w' : World) : Prop := e = .returned (.bool c) ∧ Below w.heap.size w w'
theorem fits_a {e : Edt} {i k : Nat} (h1 : ¬ e.a = (i : Int)) :
    Calls Try.prog 21 #[.slice A a.length ca, .slice B b.length cb, .agg e.arr, .int .i64 i, .int .i64 k] w (FitsPost false w) := by
  have h1' : (e.a == (i : Int)) = false := by simpa using h1
  go_enter Try.func21, Try.ntmps21
  go_wp2_with fail
  go_ret
  exact ⟨rfl, by (repeat (first | with_reducible exact Below.refl _ _ | (with_reducible assumption) | (with_reducible refine below_alloc ?_ _) | (with_reducible refine below_ext (w1 := ?_) ?_ ?_; rotate_left 2; (with_reducible assumption)) | (with_reducible refine Below.setCell ?_ ?_ _; rotate_left; ((try simp) <;> omega)) | (with_reducible refine Below.drew ?_) | (with_reducible refine below_drewN ?_ _) | fail))⟩
theorem fits_b {e : Edt} {i k : Nat} (h1 : e.a = (i : Int)) (h2 : ¬ e.b = (k : Int)) :
    Calls Try.prog 21 #[.slice A a.length ca, .slice B b.length cb, .agg e.arr, .int .i64 i, .int .i64 k] w (FitsPost false w) := by
  have h2' : (e.b == (k : Int)) = false := by simpa using h2
  go_enter Try.func21, Try.ntmps21
  go_wp2_with fail
  go_ret
  exact ⟨rfl, by (repeat (first | with_reducible exact Below.refl _ _ | (with_reducible assumption) | (with_reducible refine below_alloc ?_ _) | (with_reducible refine below_ext (w1 := ?_) ?_ ?_; rotate_left 2; (with_reducible assumption)) | (with_reducible refine Below.setCell ?_ ?_ _; rotate_left; ((try simp) <;> omega)) | (with_reducible refine Below.drew ?_) | (with_reducible refine below_drewN ?_ _) | fail))⟩
theorem fits_x {e : Edt} {i k : Nat} (h1 : e.a = (i : Int)) (h2 : e.b = (k : Int)) (h0 : ¬ e.op = 0) (h3 : ¬ e.op = 1) (h4 : ¬ e.op = 2) :
    Calls Try.prog 21 #[.slice A a.length ca, .slice B b.length cb, .agg e.arr, .int .i64 i, .int .i64 k] w (FitsPost false w) := by
  have h0' : (e.op == (0 : Int)) = false := by simpa using h0
  have h3' : (e.op == (1 : Int)) = false := by simpa using h3
  have h4' : (e.op == (2 : Int)) = false := by simpa using h4
  go_enter Try.func21, Try.ntmps21
  go_wp2_with fail
  go_ret
  exact ⟨rfl, by (repeat (first | with_reducible exact Below.refl _ _ | (with_reducible assumption) | (with_reducible refine below_alloc ?_ _) | (with_reducible refine below_ext (w1 := ?_) ?_ ?_; rotate_left 2; (with_reducible assumption)) | (with_reducible refine Below.setCell ?_ ?_ _; rotate_left; ((try simp) <;> omega)) | (with_reducible refine Below.drew ?_) | (with_reducible refine below_drewN ?_ _) | fail))⟩
theorem fits_1y {e : Edt} {i k : Nat} (h1 : e.a = (i : Int)) (h2 : e.b = (k : Int)) (h0 : e.op = 1) (hi : (i : Int) < (a.length : Int)) :
    Calls Try.prog 21 #[.slice A a.length ca, .slice B b.length cb, .agg e.arr, .int .i64 i, .int .i64 k] w (FitsPost true w) := by
  go_enter Try.func21, Try.ntmps21
  go_wp2_with fail
  go_ret
  exact ⟨rfl, by (repeat (first | with_reducible exact Below.refl _ _ | (with_reducible assumption) | (with_reducible refine below_alloc ?_ _) | (with_reducible refine below_ext (w1 := ?_) ?_ ?_; rotate_left 2; (with_reducible assumption)) | (with_reducible refine Below.setCell ?_ ?_ _; rotate_left; ((try simp) <;> omega)) | (with_reducible refine Below.drew ?_) | (with_reducible refine below_drewN ?_ _) | fail))⟩
theorem fits_1n {e : Edt} {i k : Nat} (h1 : e.a = (i : Int)) (h2 : e.b = (k : Int)) (h0 : e.op = 1) (hi : ¬ (i : Int) < (a.length : Int)) :
    Calls Try.prog 21 #[.slice A a.length ca, .slice B b.length cb, .agg e.arr, .int .i64 i, .int .i64 k] w (FitsPost false w) := by
  go_enter Try.func21, Try.ntmps21
  go_wp2_with fail
  go_ret
  exact ⟨rfl, by (repeat (first | with_reducible exact Below.refl _ _ | (with_reducible assumption) | (with_reducible refine below_alloc ?_ _) | (with_reducible refine below_ext (w1 := ?_) ?_ ?_; rotate_left 2; (with_reducible assumption)) | (with_reducible refine Below.setCell ?_ ?_ _; rotate_left; ((try simp) <;> omega)) | (with_reducible refine Below.drew ?_) | (with_reducible refine below_drewN ?_ _) | fail))⟩
theorem fits_2y {e : Edt} {i k : Nat} (h1 : e.a = (i : Int)) (h2 : e.b = (k : Int)) (h0 : e.op = 2) (hi : (k : Int) < (b.length : Int)) :
    Calls Try.prog 21 #[.slice A a.length ca, .slice B b.length cb, .agg e.arr, .int .i64 i, .int .i64 k] w (FitsPost true w) := by
  go_enter Try.func21, Try.ntmps21
  go_wp2_with fail
  go_ret
  exact ⟨rfl, by (repeat (first | with_reducible exact Below.refl _ _ | (with_reducible assumption) | (with_reducible refine below_alloc ?_ _) | (with_reducible refine below_ext (w1 := ?_) ?_ ?_; rotate_left 2; (with_reducible assumption)) | (with_reducible refine Below.setCell ?_ ?_ _; rotate_left; ((try simp) <;> omega)) | (with_reducible refine Below.drew ?_) | (with_reducible refine below_drewN ?_ _) | fail))⟩
theorem fits_2n {e : Edt} {i k : Nat} (h1 : e.a = (i : Int)) (h2 : e.b = (k : Int)) (h0 : e.op = 2) (hi : ¬ (k : Int) < (b.length : Int)) :
    Calls Try.prog 21 #[.slice A a.length ca, .slice B b.length cb, .agg e.arr, .int .i64 i, .int .i64 k] w (FitsPost false w) := by
  go_enter Try.func21, Try.ntmps21
  go_wp2_with fail
  go_ret
  exact ⟨rfl, by (repeat (first | with_reducible exact Below.refl _ _ | (with_reducible assumption) | (with_reducible refine below_alloc ?_ _) | (with_reducible refine below_ext (w1 := ?_) ?_ ?_; rotate_left 2; (with_reducible assumption)) | (with_reducible refine Below.setCell ?_ ?_ _; rotate_left; ((try simp) <;> omega)) | (with_reducible refine Below.drew ?_) | (with_reducible refine below_drewN ?_ _) | fail))⟩
theorem fits_0i {e : Edt} {i k : Nat} (h1 : e.a = (i : Int)) (h2 : e.b = (k : Int)) (h0 : e.op = 0) (hi : ¬ (i : Int) < (a.length : Int)) :
    Calls Try.prog 21 #[.slice A a.length ca, .slice B b.length cb, .agg e.arr, .int .i64 i, .int .i64 k] w (FitsPost false w) := by
  have hin : ¬ i < a.length := by omega
  have hid := decide_eq_false hin
  go_enter Try.func21, Try.ntmps21
  go_wp2_with fail
  have hb1 := below_alloc (Below.refl w.heap.size w) (.cells e.arr 34)
  generalize w.alloc (.cells e.arr 34) = w1 at *
  refine wp_region_below_lit (by kernel_rfl) (by kernel_rfl) ?_
  repeat (first | go_big_quiet_skip | (go_big_quiet_want; go_big_quiet_op; go_big_quiet_on) | (refine q_load_mid (by rfl) _ _ (by rfl) (fun _ h => h) _ _ (by rfl) _ _ (by assumption) Try.underlying40 rfl (by kernel_rfl) ?_; (try simp only [Act.put, List.setIfInBounds_toArray, List.set_cons_zero, List.set_cons_succ])) | (refine Cmp.q_eqmv (by rfl) _ _ _ (by rfl) _ _ (by rfl) (by rfl) _ (by assumption) ?_; (try simp only [Act.put, List.setIfInBounds_toArray, List.set_cons_zero, List.set_cons_succ])) | (refine q_load_fld (by rfl) _ _ (by rfl) (fun _ h => h) _ _ (by rfl) ?_ ?_ ?_ ?_ ?_ ?_; rotate_left; (next => (repeat (first | (with_reducible refine BlkAt.new _ _ _ _ ?_; ((try simp) <;> omega)) | (with_reducible assumption) | (with_reducible refine Blk.at (t := ?_) ?_; rotate_left; with_reducible assumption) | with_reducible refine BlkAt.alloc ?_ _ | with_reducible refine BlkAt.drew ?_ | (with_reducible refine BlkAt.setSame ?_ _ _) | (with_reducible refine BlkAt.setCell ?_ ?_ _; rotate_left; ((try simp) <;> omega)) | (with_reducible refine BlkAt.ext (w := ?_) ?_ ?_; rotate_left 2; (with_reducible assumption)) | fail))); rotate_left; (next => first | (simp only [go_sem]; rfl) | rfl); (next => kernel_rfl); (try simp only [Act.put, List.setIfInBounds_toArray, List.set_cons_zero, List.set_cons_succ])) | (refine q_rem (by rfl) _ _ _ _ (by rfl) _ _ (by rfl) (by rfl) (by kernel_rfl) (by kernel_rfl) ?_ ?_; (next => omega); (try simp only [Act.put, List.setIfInBounds_toArray, List.set_cons_zero, List.set_cons_succ])) | (refine q_step_ex (by rfl) ?_; apply Exists.intro; refine ⟨fun W hW => ?_, ?_⟩; (next => (have hWc := fun (b o : Nat) (h : b < _) => (Ext.out hW).cell (p := ⟨b, o, none⟩) h); (try have hLK := HLK.out W (Ext.out hW)); go_simp; first | rfl | fail | fail); (try simp only [Act.put, List.setIfInBounds_toArray, List.set_cons_zero, List.set_cons_succ])) | fail)
  refine wpQuiet_nil ?_
  intro w2 hb2
  go_wp2_with fail
  go_ret
  exact ⟨rfl, below_ext hb1 hb2⟩
theorem fits_0k {e : Edt} {i k : Nat} (h1 : e.a = (i : Int)) (h2 : e.b = (k : Int)) (h0 : e.op = 0) (hi : (i : Int) < (a.length : Int)) (hk : ¬ (k : Int) < (b.length : Int)) :
    Calls Try.prog 21 #[.slice A a.length ca, .slice B b.length cb, .agg e.arr, .int .i64 i, .int .i64 k] w (FitsPost false w) := by
  have hid := decide_eq_true hi
  have hkn : ¬ k < b.length := by omega
  have hkd := decide_eq_false hkn
  go_enter Try.func21, Try.ntmps21
  go_wp2_with fail
  have hb1 := below_alloc (Below.refl w.heap.size w) (.cells e.arr 34)
  generalize w.alloc (.cells e.arr 34) = w1 at *
  refine wp_region_below_lit (by kernel_rfl) (by kernel_rfl) ?_
  repeat (first | go_big_quiet_skip | (go_big_quiet_want; go_big_quiet_op; go_big_quiet_on) | (refine q_load_mid (by rfl) _ _ (by rfl) (fun _ h => h) _ _ (by rfl) _ _ (by assumption) Try.underlying40 rfl (by kernel_rfl) ?_; (try simp only [Act.put, List.setIfInBounds_toArray, List.set_cons_zero, List.set_cons_succ])) | (refine Cmp.q_eqmv (by rfl) _ _ _ (by rfl) _ _ (by rfl) (by rfl) _ (by assumption) ?_; (try simp only [Act.put, List.setIfInBounds_toArray, List.set_cons_zero, List.set_cons_succ])) | (refine q_load_fld (by rfl) _ _ (by rfl) (fun _ h => h) _ _ (by rfl) ?_ ?_ ?_ ?_ ?_ ?_; rotate_left; (next => (repeat (first | (with_reducible refine BlkAt.new _ _ _ _ ?_; ((try simp) <;> omega)) | (with_reducible assumption) | (with_reducible refine Blk.at (t := ?_) ?_; rotate_left; with_reducible assumption) | with_reducible refine BlkAt.alloc ?_ _ | with_reducible refine BlkAt.drew ?_ | (with_reducible refine BlkAt.setSame ?_ _ _) | (with_reducible refine BlkAt.setCell ?_ ?_ _; rotate_left; ((try simp) <;> omega)) | (with_reducible refine BlkAt.ext (w := ?_) ?_ ?_; rotate_left 2; (with_reducible assumption)) | fail))); rotate_left; (next => first | (simp only [go_sem]; rfl) | rfl); (next => kernel_rfl); (try simp only [Act.put, List.setIfInBounds_toArray, List.set_cons_zero, List.set_cons_succ])) | (refine q_rem (by rfl) _ _ _ _ (by rfl) _ _ (by rfl) (by rfl) (by kernel_rfl) (by kernel_rfl) ?_ ?_; (next => omega); (try simp only [Act.put, List.setIfInBounds_toArray, List.set_cons_zero, List.set_cons_succ])) | (refine q_step_ex (by rfl) ?_; apply Exists.intro; refine ⟨fun W hW => ?_, ?_⟩; (next => (have hWc := fun (b o : Nat) (h : b < _) => (Ext.out hW).cell (p := ⟨b, o, none⟩) h); (try have hLK := HLK.out W (Ext.out hW)); go_simp; first | rfl | fail | fail); (try simp only [Act.put, List.setIfInBounds_toArray, List.set_cons_zero, List.set_cons_succ])) | fail)
  refine wpQuiet_nil ?_
  intro w2 hb2
  go_wp2_with fail
  go_ret
  exact ⟨rfl, below_ext hb1 hb2⟩
theorem fits_0 {e : Edt} {i k : Nat} (h1 : e.a = (i : Int)) (h2 : e.b = (k : Int)) (h0 : e.op = 0) (hi : i < a.length) (hk : k < b.length) (hA : Rd w 9 A (a.map Msg.cells)) (hB : Rd w 9 B (b.map Msg.cells)) (c : Bool) (hc : Hid (eqM a[i] b[k] = c)) :
    Calls Try.prog 21 #[.slice A a.length ca, .slice B b.length cb, .agg e.arr, .int .i64 i, .int .i64 k] w (FitsPost c w) := by
  obtain ⟨ba, oa, rfl, ra, la⟩ := rd_msg hA hi
  obtain ⟨bb, ob, rfl, rb, lb⟩ := rd_msg hB hk
  have hi1 : (i : Int) < (a.length : Int) := by omega
  have hk1 : (k : Int) < (b.length : Int) := by omega
  generalize a[i] = x at *
  generalize b[k] = y at *
  go_enter Try.func21, Try.ntmps21
  go_wp2_with fail
  have hb1 := below_alloc (Below.refl w.heap.size w) (.cells e.arr 34)
  generalize w.alloc (.cells e.arr 34) = w1 at *
  have ra1 := rng_ext ra hb1
  have rb1 := rng_ext rb hb1
  refine wp_region_below_lit (by kernel_rfl) (by kernel_rfl) ?_
  repeat (first | go_big_quiet_skip | (go_big_quiet_want; go_big_quiet_op; go_big_quiet_on) | (refine q_load_mid (by rfl) _ _ (by rfl) (fun _ h => h) _ _ (by rfl) _ _ (by assumption) Try.underlying40 rfl (by kernel_rfl) ?_; (try simp only [Act.put, List.setIfInBounds_toArray, List.set_cons_zero, List.set_cons_succ])) | (refine Cmp.q_eqmv (by rfl) _ _ _ (by rfl) _ _ (by rfl) (by rfl) _ (by assumption) ?_; (try simp only [Act.put, List.setIfInBounds_toArray, List.set_cons_zero, List.set_cons_succ])) | (refine q_load_fld (by rfl) _ _ (by rfl) (fun _ h => h) _ _ (by rfl) ?_ ?_ ?_ ?_ ?_ ?_; rotate_left; (next => (repeat (first | (with_reducible refine BlkAt.new _ _ _ _ ?_; ((try simp) <;> omega)) | (with_reducible assumption) | (with_reducible refine Blk.at (t := ?_) ?_; rotate_left; with_reducible assumption) | with_reducible refine BlkAt.alloc ?_ _ | with_reducible refine BlkAt.drew ?_ | (with_reducible refine BlkAt.setSame ?_ _ _) | (with_reducible refine BlkAt.setCell ?_ ?_ _; rotate_left; ((try simp) <;> omega)) | (with_reducible refine BlkAt.ext (w := ?_) ?_ ?_; rotate_left 2; (with_reducible assumption)) | fail))); rotate_left; (next => first | (simp only [go_sem]; rfl) | rfl); (next => kernel_rfl); (try simp only [Act.put, List.setIfInBounds_toArray, List.set_cons_zero, List.set_cons_succ])) | (refine q_rem (by rfl) _ _ _ _ (by rfl) _ _ (by rfl) (by rfl) (by kernel_rfl) (by kernel_rfl) ?_ ?_; (next => omega); (try simp only [Act.put, List.setIfInBounds_toArray, List.set_cons_zero, List.set_cons_succ])) | (refine q_step_ex (by rfl) ?_; apply Exists.intro; refine ⟨fun W hW => ?_, ?_⟩; (next => (have hWc := fun (b o : Nat) (h : b < _) => (Ext.out hW).cell (p := ⟨b, o, none⟩) h); (try have hLK := HLK.out W (Ext.out hW)); go_simp; first | rfl | fail | fail); (try simp only [Act.put, List.setIfInBounds_toArray, List.set_cons_zero, List.set_cons_succ])) | fail)
  refine wpQuiet_nil ?_
  intro w2 hb2
  go_wp2_with fail
  go_ret
  exact ⟨rfl, below_ext hb1 hb2⟩
theorem fits_any (hA : Rd w 9 A (a.map Msg.cells)) (hB : Rd w 9 B (b.map Msg.cells)) (e : Edt) (i k : Nat) :
    Calls Try.prog 21 #[.slice A a.length ca, .slice B b.length cb, .agg e.arr, .int .i64 i, .int .i64 k] w (FitsPost (good a b i k e) w) := by
  unfold good
  by_cases h1 : e.a = (i : Int)
  · by_cases h2 : e.b = (k : Int)
    · rw [decide_eq_true h1, decide_eq_true h2, Bool.true_and, Bool.true_and]
      by_cases h0 : e.op = 0
      · rw [if_pos h0]
        by_cases hi : i < a.length
        · by_cases hk : k < b.length
          · rw [eqAt_in hi hk]
            exact fits_0 h1 h2 h0 hi hk hA hB _ (Lib.hid rfl)
          · rw [eqAt_out (.inr (by omega))]
            exact fits_0k h1 h2 h0 (by omega) (by omega)
        · rw [eqAt_out (.inl (by omega))]
          exact fits_0i h1 h2 h0 (by omega)
      · rw [if_neg h0]
        by_cases h3 : e.op = 1
        · rw [if_pos h3]
          by_cases hi : i < a.length
          · rw [decide_eq_true hi]
            exact fits_1y h1 h2 h3 (by omega)
          · rw [decide_eq_false hi]
            exact fits_1n h1 h2 h3 (by omega)
        · rw [if_neg h3]
          by_cases h4 : e.op = 2
          · rw [if_pos h4]
            by_cases hi : k < b.length
            · rw [decide_eq_true hi]
              exact fits_2y h1 h2 h4 (by omega)
            · rw [decide_eq_false hi]
              exact fits_2n h1 h2 h4 (by omega)
          · rw [if_neg h4]
            exact fits_x h1 h2 h0 h3 h4
    · rw [decide_eq_false h2, Bool.false_and, Bool.and_false]
      exact fits_b h1 h2
  · rw [decide_eq_false h1, Bool.false_and]
    exact fits_a h1
def flatM (l : List Msg) : List Value := (l.map Msg.cells).flatten
theorem flatM_app (l l' : List Msg) : flatM (l ++ l') = flatM l ++ flatM l' := by simp [flatM]
def apRes (c : Bool) (b : List Msg) : List Msg := if c = true then b else []
def ApPost (c : Bool) (b : List Msg) (w : World) (e : Ending) (w' : World) : Prop :=
  ∃ v, e = .returned (.tuple #[v, .bool c]) ∧ w'.ownsRow w.heap.size 40 9 v (apRes c b).length (flatM (apRes c b)) ∧ Below w.heap.size w w'
theorem apply_any {L : Option Addr} {cl : Nat} {l : List Edt} (hla : a.length ≤ 300) (hlb : b.length ≤ 300) (hll : l.length ≤ 1000) (hA : Rd w 9 A (a.map Msg.cells)) (hB : Rd w 9 B (b.map Msg.cells)) (hL : Rd w 3 L (l.map Edt.cells)) :
    Calls Try.prog 13 #[.slice A a.length ca, .slice B b.length cb, .slice L l.length cl] w (ApPost (ap a b l 0 0) b w) := by
  replace hA := Lib.hid hA
  replace hB := Lib.hid hB
  replace hL := Lib.hid hL
  go_enter Try.func13, Try.ntmps13
  go_wp2_with fail
  go_loopw [6, 8, 9, 14] (fun v i k n wr => ∃ (x y m : Nat) (vv : Value), vv = v ∧ i = .int .i64 x ∧ k = .int .i64 y ∧ n = .int .i64 m ∧ x ≤ a.length ∧ y ≤ b.length ∧ m ≤ l.length ∧ Hid (ap a b (l.drop m) x y = ap a b l 0 0) ∧ wr.ownsRow w.heap.size 40 9 vv (b.take y).length (flatM (b.take y)) ∧ Below w.heap.size w wr) (fun _ _ _ n _ => l.length - (intOf n).toNat)
  case atStart => exact ⟨0, 0, 0, _, rfl, rfl, rfl, rfl, Nat.zero_le _, Nat.zero_le _, Nat.zero_le _, Lib.hid rfl, World.ownsRow_nil _ _ _ _, Below.refl _ _⟩
  case round =>
    obtain ⟨x, y, m, vv, rfl, rfl, rfl, rfl, hx, hy, hm, hap, hown, hb⟩ := hrel
    by_cases hlt : m < l.length
    · have e1 : (m : Int) < (l.length : Int) := by omega
      obtain ⟨b1, o1, rfl, r1, m1⟩ := rd_edt (hL.out.below hb) hlt
      have hap2 := hap.out
      rw [List.drop_eq_getElem_cons hlt, ap] at hap2
      clear hap
      have hAr := hA.out.below hb
      have hBr := hB.out.below hb
      have KF : ∀ W, Below wr.heap.size wr W → Calls Try.prog 21 #[.slice A a.length ca, .slice B b.length cb, .agg (Edt.cells l[m]).toArray, .int .i64 x, .int .i64 y] W (FitsPost (good a b x y l[m]) W) := fun W hW => fits_any (hAr.below hW) (hBr.below hW) l[m] x y
      have hzb := hb.size
      have hR := Blk.new wr 34 #[.int .i64 0, .int .i64 0, .int .i64 0] _ rfl
      generalize l[m] = e at *
      cases hg : good a b x y e
      · rw [hg] at KF hap2
        replace KF := Lib.hid KF
        have hF : Hid (ap a b l 0 0 = false) := Lib.hid (by rw [← hap2, Bool.false_and])
        clear hap2 hg hAr hBr
        go_wp2_with (first | (refine wpList_load_midw (by rfl) _ _ (by rfl) _ _ (by rfl) _ _ (by assumption) Try.underlying34 rfl (by kernel_rfl) ?_) | ((refine wpList_store_blk (by rfl) 34 _ _ (by rfl) _ _ (by rfl) (by rfl) _ _ hR (by kernel_rfl) (by rfl) ?_ ?_; (next => first | (simp [Value.oneCell']; done) | (simp [Value.oneCell', Edt.cells]; done) | exact Are.ordArr_one _); intro w5 hB5 hU5); have hb05 := below_upd (below_alloc (Below.refl wr.heap.size wr) _) (Nat.le_refl _) hU5; have hown5 := owns_ext hown hb05) | (refine wpList_load_blk (by rfl) 34 _ (by rfl) ?_ (.pointer (some ⟨_, 0, none⟩)) (by rfl) ?_ _ Try.underlying34 rfl ?_ ?_; rotate_left; (next => (repeat (first | (with_reducible refine BlkAt.new _ _ _ _ ?_; ((try simp) <;> omega)) | (with_reducible assumption) | (with_reducible refine Blk.at (t := ?_) ?_; rotate_left; with_reducible assumption) | with_reducible refine BlkAt.alloc ?_ _ | with_reducible refine BlkAt.drew ?_ | (with_reducible refine BlkAt.setSame ?_ _ _) | (with_reducible refine BlkAt.setCell ?_ ?_ _; rotate_left; ((try simp) <;> omega)) | (with_reducible refine BlkAt.ext (w := ?_) ?_ ?_; rotate_left 2; (with_reducible assumption)) | fail))); (next => kernel_rfl)) | (go_at_call 21; refine (KF.out w5 hb05).mono ?_; rintro e6 w6 ⟨rfl, hb6⟩) | fail)
        go_ret2
        refine ⟨.slice none 0 0, ?_, ?_, below_ext hb (below_ext hb05 hb6)⟩
        · rw [hF.out]
          rfl
        · rw [hF.out]
          exact World.ownsRow_nil _ _ _ _
      · obtain ⟨_, _, hop⟩ := good_in hg
        rw [hg] at KF hap2
        rw [Bool.true_and] at hap2
        replace KF := Lib.hid KF
        rcases hop with ⟨ho, hxl, hyl⟩ | ⟨ho, hxl⟩ | ⟨ho, hyl⟩
        · obtain ⟨bb, ob, rfl, rb, lb⟩ := rd_msg hBr hyl
          have hyi : (y : Int) < (b.length : Int) := by omega
          have htk : Hid (b.take (y + 1) = b.take y ++ [b[y]]) := Lib.hid (by rw [List.take_succ_eq_append_getElem hyl])
          have hln : (b.take y).length ≤ 300 := by simp; omega
          generalize b[y] = z at *
          generalize b.take y = acc at *
          rw [ho] at hap2
          have hap3 : Hid (ap a b (l.drop (m + 1)) (x + 1) (y + 1) = ap a b l 0 0) := Lib.hid hap2
          clear hap2 hg hAr
          go_wp2_with (first | (refine wpList_load_midw (by rfl) _ _ (by rfl) _ _ (by rfl) _ _ (by assumption) Try.underlying34 rfl (by kernel_rfl) ?_) | ((refine wpList_store_blk (by rfl) 34 _ _ (by rfl) _ _ (by rfl) (by rfl) _ _ hR (by kernel_rfl) (by rfl) ?_ ?_; (next => first | (simp [Value.oneCell']; done) | (simp [Value.oneCell', Edt.cells]; done) | exact Are.ordArr_one _); intro w5 hB5 hU5); have hb05 := below_upd (below_alloc (Below.refl wr.heap.size wr) _) (Nat.le_refl _) hU5; have hown5 := owns_ext hown hb05) | (refine wpList_load_blk (by rfl) 34 _ (by rfl) ?_ (.pointer (some ⟨_, 0, none⟩)) (by rfl) ?_ _ Try.underlying34 rfl ?_ ?_; rotate_left; (next => (repeat (first | (with_reducible refine BlkAt.new _ _ _ _ ?_; ((try simp) <;> omega)) | (with_reducible assumption) | (with_reducible refine Blk.at (t := ?_) ?_; rotate_left; with_reducible assumption) | with_reducible refine BlkAt.alloc ?_ _ | with_reducible refine BlkAt.drew ?_ | (with_reducible refine BlkAt.setSame ?_ _ _) | (with_reducible refine BlkAt.setCell ?_ ?_ _; rotate_left; ((try simp) <;> omega)) | (with_reducible refine BlkAt.ext (w := ?_) ?_ ?_; rotate_left 2; (with_reducible assumption)) | fail))); (next => kernel_rfl)) | (go_at_call 21; refine (KF.out w5 hb05).mono ?_; rintro e6 w6 ⟨rfl, hb6⟩; have hown6 := owns_ext hown5 hb6; have hBe := hB5.ext hb6; have cE : w6.cell? ⟨wr.heap.size, 0, none⟩ = some (.int .i64 0) := (hBe.cell 0).trans (congrArg (fun z => some (Value.int .i64 z)) ho); have rb6 := rng_ext (rng_ext rb hb05) hb6) | (refine wpList_load_midw (by rfl) _ _ (by rfl) _ _ (by rfl) _ _ (by assumption) Try.underlying40 rfl (by kernel_rfl) ?_) | (refine wpList_build1 (by rfl) 22 40 _ (by rfl) (.agg #[.int .i64 0, .int .i64 0, .int .i64 0, .int .i64 0, .int .i64 0, .int .i64 0, .int .i64 0, .int .i64 0, .int .i64 0]) 9 Try.underlying22 (by kernel_rfl) ⟨by decide, by decide⟩ (.agg z.cells.toArray) (by rfl) z.cells.toArray (by kernel_rfl) ?_; intro w7 hB7 hb7 hz7'; have hz7 := Lib.hid hz7'; clear hz7'; have hown7 := owns_ext hown6 hb7) | (refine wpList_append_rd (by rfl) _ _ _ (by rfl) w.heap.size 40 (.agg #[.int .i64 0, .int .i64 0, .int .i64 0, .int .i64 0, .int .i64 0, .int .i64 0, .int .i64 0, .int .i64 0, .int .i64 0]) 9 72 Try.underlying22 (by kernel_rfl) ⟨rfl, by decide⟩ _ acc.length _ (by rfl) hown7 (some ⟨w6.heap.size, 0, none⟩) 1 1 [z.cells] (by rfl) ?_ ⟨rfl, by simp [Msg.cells, Value.oneCell']⟩ (by simp) ?_ ?_ ?_; (next => exact rd_own hB7 (by simp [Msg.cells]) (n := 1) (by simp [Msg.cells])); (next => unfold maxLen; omega); (next => have h1 := hz7.out; have h2 := hb05.size; have h3 := hb6.size; omega); intro v8 w8 hown8 hb8 hz8 hk8; have hb08 := ((hb.trans ((below_ext hb05 hb6).mono hb.size)).trans (hb7.mono (by have h2 := hb05.size; have h3 := hb6.size; omega))).trans hb8) | fail)
          go_roundw
          case rel => exact ⟨(x + 1), (y + 1), m + 1, _, rfl, by go_num, by go_num, by go_num, by omega, by omega, by omega, hap3, by rw [htk.out, List.length_append, flatM_app]; simpa [flatM] using hown8, hb08⟩
          case measure => simp [intOf]; omega
        · rw [ho] at hap2
          have hap3 : Hid (ap a b (l.drop (m + 1)) (x + 1) y = ap a b l 0 0) := Lib.hid hap2
          clear hap2 hg hAr
          go_wp2_with (first | (refine wpList_load_midw (by rfl) _ _ (by rfl) _ _ (by rfl) _ _ (by assumption) Try.underlying34 rfl (by kernel_rfl) ?_) | ((refine wpList_store_blk (by rfl) 34 _ _ (by rfl) _ _ (by rfl) (by rfl) _ _ hR (by kernel_rfl) (by rfl) ?_ ?_; (next => first | (simp [Value.oneCell']; done) | (simp [Value.oneCell', Edt.cells]; done) | exact Are.ordArr_one _); intro w5 hB5 hU5); have hb05 := below_upd (below_alloc (Below.refl wr.heap.size wr) _) (Nat.le_refl _) hU5; have hown5 := owns_ext hown hb05) | (refine wpList_load_blk (by rfl) 34 _ (by rfl) ?_ (.pointer (some ⟨_, 0, none⟩)) (by rfl) ?_ _ Try.underlying34 rfl ?_ ?_; rotate_left; (next => (repeat (first | (with_reducible refine BlkAt.new _ _ _ _ ?_; ((try simp) <;> omega)) | (with_reducible assumption) | (with_reducible refine Blk.at (t := ?_) ?_; rotate_left; with_reducible assumption) | with_reducible refine BlkAt.alloc ?_ _ | with_reducible refine BlkAt.drew ?_ | (with_reducible refine BlkAt.setSame ?_ _ _) | (with_reducible refine BlkAt.setCell ?_ ?_ _; rotate_left; ((try simp) <;> omega)) | (with_reducible refine BlkAt.ext (w := ?_) ?_ ?_; rotate_left 2; (with_reducible assumption)) | fail))); (next => kernel_rfl)) | (go_at_call 21; refine (KF.out w5 hb05).mono ?_; rintro e6 w6 ⟨rfl, hb6⟩; have hown6 := owns_ext hown5 hb6; have hBe := hB5.ext hb6; have cE : w6.cell? ⟨wr.heap.size, 0, none⟩ = some (.int .i64 1) := (hBe.cell 0).trans (congrArg (fun z => some (Value.int .i64 z)) ho)) | fail)
          go_roundw
          case rel => exact ⟨(x + 1), y, m + 1, _, rfl, by go_num, by go_num, by go_num, by omega, by omega, by omega, hap3, hown6, below_ext hb (below_ext hb05 hb6)⟩
          case measure => simp [intOf]; omega
        · obtain ⟨bb, ob, rfl, rb, lb⟩ := rd_msg hBr hyl
          have hyi : (y : Int) < (b.length : Int) := by omega
          have htk : Hid (b.take (y + 1) = b.take y ++ [b[y]]) := Lib.hid (by rw [List.take_succ_eq_append_getElem hyl])
          have hln : (b.take y).length ≤ 300 := by simp; omega
          generalize b[y] = z at *
          generalize b.take y = acc at *
          rw [ho] at hap2
          have hap3 : Hid (ap a b (l.drop (m + 1)) x (y + 1) = ap a b l 0 0) := Lib.hid hap2
          clear hap2 hg hAr
          go_wp2_with (first | (refine wpList_load_midw (by rfl) _ _ (by rfl) _ _ (by rfl) _ _ (by assumption) Try.underlying34 rfl (by kernel_rfl) ?_) | ((refine wpList_store_blk (by rfl) 34 _ _ (by rfl) _ _ (by rfl) (by rfl) _ _ hR (by kernel_rfl) (by rfl) ?_ ?_; (next => first | (simp [Value.oneCell']; done) | (simp [Value.oneCell', Edt.cells]; done) | exact Are.ordArr_one _); intro w5 hB5 hU5); have hb05 := below_upd (below_alloc (Below.refl wr.heap.size wr) _) (Nat.le_refl _) hU5; have hown5 := owns_ext hown hb05) | (refine wpList_load_blk (by rfl) 34 _ (by rfl) ?_ (.pointer (some ⟨_, 0, none⟩)) (by rfl) ?_ _ Try.underlying34 rfl ?_ ?_; rotate_left; (next => (repeat (first | (with_reducible refine BlkAt.new _ _ _ _ ?_; ((try simp) <;> omega)) | (with_reducible assumption) | (with_reducible refine Blk.at (t := ?_) ?_; rotate_left; with_reducible assumption) | with_reducible refine BlkAt.alloc ?_ _ | with_reducible refine BlkAt.drew ?_ | (with_reducible refine BlkAt.setSame ?_ _ _) | (with_reducible refine BlkAt.setCell ?_ ?_ _; rotate_left; ((try simp) <;> omega)) | (with_reducible refine BlkAt.ext (w := ?_) ?_ ?_; rotate_left 2; (with_reducible assumption)) | fail))); (next => kernel_rfl)) | (go_at_call 21; refine (KF.out w5 hb05).mono ?_; rintro e6 w6 ⟨rfl, hb6⟩; have hown6 := owns_ext hown5 hb6; have hBe := hB5.ext hb6; have cE : w6.cell? ⟨wr.heap.size, 0, none⟩ = some (.int .i64 2) := (hBe.cell 0).trans (congrArg (fun z => some (Value.int .i64 z)) ho); have rb6 := rng_ext (rng_ext rb hb05) hb6) | (refine wpList_load_midw (by rfl) _ _ (by rfl) _ _ (by rfl) _ _ (by assumption) Try.underlying40 rfl (by kernel_rfl) ?_) | (refine wpList_build1 (by rfl) 22 40 _ (by rfl) (.agg #[.int .i64 0, .int .i64 0, .int .i64 0, .int .i64 0, .int .i64 0, .int .i64 0, .int .i64 0, .int .i64 0, .int .i64 0]) 9 Try.underlying22 (by kernel_rfl) ⟨by decide, by decide⟩ (.agg z.cells.toArray) (by rfl) z.cells.toArray (by kernel_rfl) ?_; intro w7 hB7 hb7 hz7'; have hz7 := Lib.hid hz7'; clear hz7'; have hown7 := owns_ext hown6 hb7) | (refine wpList_append_rd (by rfl) _ _ _ (by rfl) w.heap.size 40 (.agg #[.int .i64 0, .int .i64 0, .int .i64 0, .int .i64 0, .int .i64 0, .int .i64 0, .int .i64 0, .int .i64 0, .int .i64 0]) 9 72 Try.underlying22 (by kernel_rfl) ⟨rfl, by decide⟩ _ acc.length _ (by rfl) hown7 (some ⟨w6.heap.size, 0, none⟩) 1 1 [z.cells] (by rfl) ?_ ⟨rfl, by simp [Msg.cells, Value.oneCell']⟩ (by simp) ?_ ?_ ?_; (next => exact rd_own hB7 (by simp [Msg.cells]) (n := 1) (by simp [Msg.cells])); (next => unfold maxLen; omega); (next => have h1 := hz7.out; have h2 := hb05.size; have h3 := hb6.size; omega); intro v8 w8 hown8 hb8 hz8 hk8; have hb08 := ((hb.trans ((below_ext hb05 hb6).mono hb.size)).trans (hb7.mono (by have h2 := hb05.size; have h3 := hb6.size; omega))).trans hb8) | fail)
          go_roundw
          case rel => exact ⟨x, (y + 1), m + 1, _, rfl, by go_num, by go_num, by go_num, by omega, by omega, by omega, hap3, by rw [htk.out, List.length_append, flatM_app]; simpa [flatM] using hown8, hb08⟩
          case measure => simp [intOf]; omega
    · have hme : m = l.length := by omega
      subst hme
      have hap2 := hap.out
      rw [List.drop_length, ap] at hap2
      clear hap
      by_cases hxa : x < a.length
      · rw [decide_eq_false (by omega), Bool.false_and] at hap2
        replace hap2 := Lib.hid hap2
        have e1 : (x : Int) < (a.length : Int) := by omega
        go_wp2_with fail
        go_ret2
        refine ⟨.slice none 0 0, ?_, ?_, hb⟩
        · rw [← hap2.out]
          rfl
        · rw [← hap2.out]
          exact World.ownsRow_nil _ _ _ _
      · by_cases hyb : y < b.length
        · rw [decide_eq_false (show ¬ y = b.length by omega), Bool.and_false] at hap2
          replace hap2 := Lib.hid hap2
          have e1 : ¬ (x : Int) < (a.length : Int) := by omega
          have e2 : (y : Int) < (b.length : Int) := by omega
          go_wp2_with fail
          go_ret2
          refine ⟨.slice none 0 0, ?_, ?_, hb⟩
          · rw [← hap2.out]
            rfl
          · rw [← hap2.out]
            exact World.ownsRow_nil _ _ _ _
        · have hxe : x = a.length := by omega
          have hye : y = b.length := by omega
          subst hxe hye
          rw [decide_eq_true rfl, decide_eq_true rfl, Bool.true_and] at hap2
          replace hap2 := Lib.hid hap2
          rw [List.take_of_length_le (Nat.le_refl _)] at hown
          go_wp2_with fail
          go_ret2
          refine ⟨vv, ?_, ?_, hb⟩
          · rw [← hap2.out]
            rfl
          · rw [← hap2.out]
            exact hown
theorem lists_any {l : List Msg} (hl : l.length ≤ 1000) (hA : Rd w 9 A (l.map Msg.cells)) (hB : Rd w 9 B (l.map Msg.cells)) :
    Calls Try.prog 15 #[.slice A l.length ca, .slice B l.length cb] w fun e w' => e = .returned (.bool true) ∧ Below w.heap.size w w' := by
  replace hA := Lib.hid hA
  replace hB := Lib.hid hB
  go_enter Try.func15, Try.ntmps15
  go_wp2_with fail
  go_loopw [5] (fun i wr => ∃ k : Nat, i = .int .i64 k ∧ k ≤ l.length ∧ Below w.heap.size w wr) (fun i _ => l.length - (intOf i).toNat)
  case atStart => exact ⟨0, rfl, Nat.zero_le _, Below.refl _ _⟩
  case round =>
    obtain ⟨k, rfl, hk, hb⟩ := hrel
    by_cases hlt : k < l.length
    · have e1 : (k : Int) < (l.length : Int) := by omega
      obtain ⟨b1, o1, rfl, r1, m1⟩ := rd_msg (hA.out.below hb) hlt
      obtain ⟨b2, o2, rfl, r2, m2⟩ := rd_msg (hB.out.below hb) hlt
      have he : Hid (eqM l[k] l[k] = !false) := Lib.hid (eqM_refl _)
      generalize l[k] = x at *
      go_wp2_with fail
      refine wp_region_below_lit (by kernel_rfl) (by kernel_rfl) ?_
      repeat (first | go_big_quiet_skip | (go_big_quiet_want; go_big_quiet_op; go_big_quiet_on) | (refine q_load_mid (by rfl) _ _ (by rfl) (fun _ h => h) _ _ (by rfl) _ _ (by assumption) Try.underlying40 rfl (by kernel_rfl) ?_; (try simp only [Act.put, List.setIfInBounds_toArray, List.set_cons_zero, List.set_cons_succ])) | (refine Cmp.q_nem (by rfl) _ _ _ (by rfl) _ _ (by rfl) (by rfl) _ (by assumption) ?_; (try simp only [Act.put, List.setIfInBounds_toArray, List.set_cons_zero, List.set_cons_succ])) | (refine q_load_fld (by rfl) _ _ (by rfl) (fun _ h => h) _ _ (by rfl) ?_ ?_ ?_ ?_ ?_ ?_; rotate_left; (next => (repeat (first | (with_reducible refine BlkAt.new _ _ _ _ ?_; ((try simp) <;> omega)) | (with_reducible assumption) | (with_reducible refine Blk.at (t := ?_) ?_; rotate_left; with_reducible assumption) | with_reducible refine BlkAt.alloc ?_ _ | with_reducible refine BlkAt.drew ?_ | (with_reducible refine BlkAt.setSame ?_ _ _) | (with_reducible refine BlkAt.setCell ?_ ?_ _; rotate_left; ((try simp) <;> omega)) | (with_reducible refine BlkAt.ext (w := ?_) ?_ ?_; rotate_left 2; (with_reducible assumption)) | fail))); rotate_left; (next => first | (simp only [go_sem]; rfl) | rfl); (next => kernel_rfl); (try simp only [Act.put, List.setIfInBounds_toArray, List.set_cons_zero, List.set_cons_succ])) | (refine q_rem (by rfl) _ _ _ _ (by rfl) _ _ (by rfl) (by rfl) (by kernel_rfl) (by kernel_rfl) ?_ ?_; (next => omega); (try simp only [Act.put, List.setIfInBounds_toArray, List.set_cons_zero, List.set_cons_succ])) | (refine q_step_ex (by rfl) ?_; apply Exists.intro; refine ⟨fun W hW => ?_, ?_⟩; (next => (have hWc := fun (b o : Nat) (h : b < _) => (Ext.out hW).cell (p := ⟨b, o, none⟩) h); (try have hLK := HLK.out W (Ext.out hW)); go_simp; first | rfl | fail | fail); (try simp only [Act.put, List.setIfInBounds_toArray, List.set_cons_zero, List.set_cons_succ])) | fail)
      refine wpQuiet_nil ?_
      intro w6 hb6
      go_wp2_with fail
      go_roundw
      case rel => exact ⟨k + 1, by go_num, by omega, below_ext hb hb6⟩
      case measure => simp [intOf]; omega
    · have ht : k = l.length := by omega
      subst ht
      go_wp2_with fail
      go_ret
      exact ⟨rfl, hb⟩
end
end Cmp
end Go.Proofs.Ytpopfjfmppmjdaa
