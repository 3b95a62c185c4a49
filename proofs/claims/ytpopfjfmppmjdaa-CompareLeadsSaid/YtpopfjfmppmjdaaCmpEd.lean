/- This text proves the edits that lead from the one list to the other: contracts of the package compare: next, Edits. It has no conditions but those that they state. -/
import Derived.Test.YtpopfjfmppmjdaaCmp
import Derived.WalkMore
namespace Go.Proofs.Ytpopfjfmppmjdaa
set_option linter.unusedVariables false
open Go.RowKit
namespace Cmp
set_option maxHeartbeats 1000000
set_option maxRecDepth 10000
section
variable {w : World} {g bt : Nat} {A : Option Addr} {ca : Nat} {B : Option Addr} {cb : Nat} {a b : List Msg}
theorem Tb.c0 {f : Nat → Nat → Nat} (t : Tb w g bt A ca B cb a b f) : w.cell? ⟨g, 0, none⟩ = some (.slice A a.length ca) ∧ w.cell? ⟨g, 1, none⟩ = some (.slice B b.length cb) := ⟨t.hd.cell 0, t.hd.cell 1⟩
def NextPost (o i k : Nat) (w : World) (e : Ending) (w' : World) : Prop := e = .returned (.agg #[.int .i64 (o : Nat), .int .i64 (i : Nat), .int .i64 (k : Nat)]) ∧ Below w.heap.size w w'
theorem next_eq (t : Tb w g bt A ca B cb a b (T a b)) (hA : Rd w 9 A (a.map Msg.cells)) (hB : Rd w 9 B (b.map Msg.cells)) {i k : Nat} (hi : i < a.length) (hk : k < b.length) (he : Hid (eqM a[i] b[k] = true)) :
    Calls Try.prog 20 #[.pointer (some ⟨g, 0, none⟩), .int .i64 i, .int .i64 k] w (NextPost 0 i k w) := by
  obtain ⟨ba, oa, rfl, ra, la⟩ := rd_msg hA hi
  obtain ⟨bb, ob, rfl, rb, lb⟩ := rd_msg hB hk
  have hl := t.len
  have hgt := t.hd.lt
  have hi1 : (i : Int) < (a.length : Int) := by omega
  have hk1 : (k : Int) < (b.length : Int) := by omega
  generalize a[i] = x at *
  generalize b[k] = y at *
  go_enter Try.func20, Try.ntmps20
  go_wp2_with fail
  have hR := Blk.new w 34 #[.int .i64 0, .int .i64 0, .int .i64 0] _ rfl
  have hb1 := below_alloc (Below.refl w.heap.size w) (.cells #[.int .i64 0, .int .i64 0, .int .i64 0] 34)
  generalize w.alloc (.cells #[.int .i64 0, .int .i64 0, .int .i64 0] 34) = w1 at *
  have ra1 := rng_ext ra hb1
  have rb1 := rng_ext rb hb1
  obtain ⟨c0, c1⟩ := (t.ext hb1).c0
  have hz1 := hb1.size
  have hgt1 : g < w1.heap.size := by omega
  refine wp_region_below_lit (by kernel_rfl) (by kernel_rfl) ?_
  repeat (first | go_big_quiet_skip | (go_big_quiet_want; go_big_quiet_op; go_big_quiet_on) | (refine q_load_mid (by rfl) _ _ (by rfl) (fun _ h => h) _ _ (by rfl) _ _ (by assumption) Try.underlying40 rfl (by kernel_rfl) ?_; (try simp only [Act.put, List.setIfInBounds_toArray, List.set_cons_zero, List.set_cons_succ])) | (refine Cmp.q_eqmv (by rfl) _ _ _ (by rfl) _ _ (by rfl) (by rfl) _ (by assumption) ?_; (try simp only [Act.put, List.setIfInBounds_toArray, List.set_cons_zero, List.set_cons_succ])) | (refine q_load_fld (by rfl) _ _ (by rfl) (fun _ h => h) _ _ (by rfl) ?_ ?_ ?_ ?_ ?_ ?_; rotate_left; (next => (repeat (first | (with_reducible refine BlkAt.new _ _ _ _ ?_; ((try simp) <;> omega)) | (with_reducible assumption) | (with_reducible refine Blk.at (t := ?_) ?_; rotate_left; with_reducible assumption) | with_reducible refine BlkAt.alloc ?_ _ | with_reducible refine BlkAt.drew ?_ | (with_reducible refine BlkAt.setSame ?_ _ _) | (with_reducible refine BlkAt.setCell ?_ ?_ _; rotate_left; ((try simp) <;> omega)) | (with_reducible refine BlkAt.ext (w := ?_) ?_ ?_; rotate_left 2; (with_reducible assumption)) | fail))); rotate_left; (next => first | (simp only [go_sem]; rfl) | rfl); (next => kernel_rfl); (try simp only [Act.put, List.setIfInBounds_toArray, List.set_cons_zero, List.set_cons_succ])) | (refine q_rem (by rfl) _ _ _ _ (by rfl) _ _ (by rfl) (by rfl) (by kernel_rfl) (by kernel_rfl) ?_ ?_; (next => omega); (try simp only [Act.put, List.setIfInBounds_toArray, List.set_cons_zero, List.set_cons_succ])) | (refine q_step_ex (by rfl) ?_; apply Exists.intro; refine ⟨fun W hW => ?_, ?_⟩; (next => (have hWc := fun (b o : Nat) (h : b < _) => (Ext.out hW).cell (p := ⟨b, o, none⟩) h); (try have hLK := HLK.out W (Ext.out hW)); go_simp; first | rfl | fail | fail); (try simp only [Act.put, List.setIfInBounds_toArray, List.set_cons_zero, List.set_cons_succ])) | fail)
  refine wpQuiet_nil ?_
  intro w2 hb2
  have hR2 := hR.ext hb2
  go_wp2_with (refine wpList_store_blk (by rfl) 34 _ _ (by rfl) _ _ (by rfl) (by rfl) _ _ hR2 (by kernel_rfl) (by rfl) ?_ ?_; (next => first | (simp [Value.oneCell']; done) | (simp [Value.oneCell', Edt.cells]; done) | exact Are.ordArr_one _); intro w3 hR3 hU3)
  refine bodyPost_ret (results_cell_row (by rfl) _ w3 w.heap.size 34 _ _ _ (by rfl) hR3 Try.underlying34 rfl (by kernel_rfl)) rfl ⟨rfl, ?_⟩
  exact below_upd (below_ext hb1 hb2) (Nat.le_refl _) hU3
theorem next_drop (t : Tb w g bt A ca B cb a b (T a b)) (hA : Rd w 9 A (a.map Msg.cells)) (hB : Rd w 9 B (b.map Msg.cells)) {i k : Nat} (hi : i < a.length) (hk : k < b.length) (he : Hid (eqM a[i] b[k] = false)) (p q : Nat) (hp : Hid (T a b (i + 1) k = p)) (hq : Hid (T a b i (k + 1) = q)) (hpq : q ≤ p) :
    Calls Try.prog 20 #[.pointer (some ⟨g, 0, none⟩), .int .i64 i, .int .i64 k] w (NextPost 1 i k w) := by
  obtain ⟨ba, oa, rfl, ra, la⟩ := rd_msg hA hi
  obtain ⟨bb, ob, rfl, rb, lb⟩ := rd_msg hB hk
  have hl := t.len
  have hgt := t.hd.lt
  have hi1 : (i : Int) < (a.length : Int) := by omega
  have hk1 : (k : Int) < (b.length : Int) := by omega
  have C1 : Hid (∀ W, Below w.heap.size w W → Calls Try.prog 17 #[.pointer (some ⟨g, 0, none⟩), .int .i64 ((i : Int) + 1), .int .i64 (k : Int)] W fun e w' => e = .returned (.int .i64 (p : Nat)) ∧ Below W.heap.size W w') :=
    Lib.hid (fun W h => at_val (t.ext h) (i + 1) k p hp (by omega) rfl (by omega) (by omega))
  have C2 : Hid (∀ W, Below w.heap.size w W → Calls Try.prog 17 #[.pointer (some ⟨g, 0, none⟩), .int .i64 (i : Int), .int .i64 ((k : Int) + 1)] W fun e w' => e = .returned (.int .i64 (q : Nat)) ∧ Below W.heap.size W w') :=
    Lib.hid (fun W h => at_val (t.ext h) i (k + 1) q hq rfl (by omega) (by omega) (by omega))
  generalize a[i] = x at *
  generalize b[k] = y at *
  have hkn : ¬ (k : Int) = (b.length : Int) := by omega
  have hpi : (q : Int) ≤ (p : Int) := by omega
  go_enter Try.func20, Try.ntmps20
  go_wp2_with fail
  have hR := Blk.new w 34 #[.int .i64 0, .int .i64 0, .int .i64 0] _ rfl
  have hb1 := below_alloc (Below.refl w.heap.size w) (.cells #[.int .i64 0, .int .i64 0, .int .i64 0] 34)
  generalize w.alloc (.cells #[.int .i64 0, .int .i64 0, .int .i64 0] 34) = w1 at *
  have ra1 := rng_ext ra hb1
  have rb1 := rng_ext rb hb1
  obtain ⟨c0, c1⟩ := (t.ext hb1).c0
  have hz1 := hb1.size
  have hgt1 : g < w1.heap.size := by omega
  refine wp_region_below_lit (by kernel_rfl) (by kernel_rfl) ?_
  repeat (first | go_big_quiet_skip | (go_big_quiet_want; go_big_quiet_op; go_big_quiet_on) | (refine q_load_mid (by rfl) _ _ (by rfl) (fun _ h => h) _ _ (by rfl) _ _ (by assumption) Try.underlying40 rfl (by kernel_rfl) ?_; (try simp only [Act.put, List.setIfInBounds_toArray, List.set_cons_zero, List.set_cons_succ])) | (refine Cmp.q_eqmv (by rfl) _ _ _ (by rfl) _ _ (by rfl) (by rfl) _ (by assumption) ?_; (try simp only [Act.put, List.setIfInBounds_toArray, List.set_cons_zero, List.set_cons_succ])) | (refine q_load_fld (by rfl) _ _ (by rfl) (fun _ h => h) _ _ (by rfl) ?_ ?_ ?_ ?_ ?_ ?_; rotate_left; (next => (repeat (first | (with_reducible refine BlkAt.new _ _ _ _ ?_; ((try simp) <;> omega)) | (with_reducible assumption) | (with_reducible refine Blk.at (t := ?_) ?_; rotate_left; with_reducible assumption) | with_reducible refine BlkAt.alloc ?_ _ | with_reducible refine BlkAt.drew ?_ | (with_reducible refine BlkAt.setSame ?_ _ _) | (with_reducible refine BlkAt.setCell ?_ ?_ _; rotate_left; ((try simp) <;> omega)) | (with_reducible refine BlkAt.ext (w := ?_) ?_ ?_; rotate_left 2; (with_reducible assumption)) | fail))); rotate_left; (next => first | (simp only [go_sem]; rfl) | rfl); (next => kernel_rfl); (try simp only [Act.put, List.setIfInBounds_toArray, List.set_cons_zero, List.set_cons_succ])) | (refine q_rem (by rfl) _ _ _ _ (by rfl) _ _ (by rfl) (by rfl) (by kernel_rfl) (by kernel_rfl) ?_ ?_; (next => omega); (try simp only [Act.put, List.setIfInBounds_toArray, List.set_cons_zero, List.set_cons_succ])) | (refine q_step_ex (by rfl) ?_; apply Exists.intro; refine ⟨fun W hW => ?_, ?_⟩; (next => (have hWc := fun (b o : Nat) (h : b < _) => (Ext.out hW).cell (p := ⟨b, o, none⟩) h); (try have hLK := HLK.out W (Ext.out hW)); go_simp; first | rfl | fail | fail); (try simp only [Act.put, List.setIfInBounds_toArray, List.set_cons_zero, List.set_cons_succ])) | fail)
  refine wpQuiet_nil ?_
  intro w2 hb2
  have hR2 := hR.ext hb2
  have h02 := below_ext hb1 hb2
  have hz2 := hb2.size
  have hgt2 : g < w2.heap.size := by omega
  obtain ⟨c02, c12⟩ := (t.ext h02).c0
  go_wp2_with (first | (go_at_call 17; first | (refine (C2.out w4 h04).mono ?_; rintro e w5 ⟨rfl, hb5⟩; have h05 := below_ext h04 hb5; have hR5 := (hR2.ext hb4).ext hb5) | (refine (C1.out w2 h02).mono ?_; rintro e w4 ⟨rfl, hb4⟩; have h04 := below_ext h02 hb4)) | (refine wpList_store_blk (by rfl) 34 _ _ (by rfl) _ _ (by rfl) (by rfl) _ _ hR5 (by kernel_rfl) (by rfl) ?_ ?_; (next => first | (simp [Value.oneCell']; done) | (simp [Value.oneCell', Edt.cells]; done) | exact Are.ordArr_one _); intro w3 hR3 hU3))
  refine bodyPost_ret (results_cell_row (by rfl) _ w3 w.heap.size 34 _ _ _ (by rfl) hR3 Try.underlying34 rfl (by kernel_rfl)) rfl ⟨rfl, ?_⟩
  exact below_upd h05 (Nat.le_refl _) hU3
theorem next_add (t : Tb w g bt A ca B cb a b (T a b)) (hA : Rd w 9 A (a.map Msg.cells)) (hB : Rd w 9 B (b.map Msg.cells)) {i k : Nat} (hi : i < a.length) (hk : k < b.length) (he : Hid (eqM a[i] b[k] = false)) (p q : Nat) (hp : Hid (T a b (i + 1) k = p)) (hq : Hid (T a b i (k + 1) = q)) (hpq : ¬ q ≤ p) :
    Calls Try.prog 20 #[.pointer (some ⟨g, 0, none⟩), .int .i64 i, .int .i64 k] w (NextPost 2 i k w) := by
  obtain ⟨ba, oa, rfl, ra, la⟩ := rd_msg hA hi
  obtain ⟨bb, ob, rfl, rb, lb⟩ := rd_msg hB hk
  have hl := t.len
  have hgt := t.hd.lt
  have hi1 : (i : Int) < (a.length : Int) := by omega
  have hk1 : (k : Int) < (b.length : Int) := by omega
  have C1 : Hid (∀ W, Below w.heap.size w W → Calls Try.prog 17 #[.pointer (some ⟨g, 0, none⟩), .int .i64 ((i : Int) + 1), .int .i64 (k : Int)] W fun e w' => e = .returned (.int .i64 (p : Nat)) ∧ Below W.heap.size W w') :=
    Lib.hid (fun W h => at_val (t.ext h) (i + 1) k p hp (by omega) rfl (by omega) (by omega))
  have C2 : Hid (∀ W, Below w.heap.size w W → Calls Try.prog 17 #[.pointer (some ⟨g, 0, none⟩), .int .i64 (i : Int), .int .i64 ((k : Int) + 1)] W fun e w' => e = .returned (.int .i64 (q : Nat)) ∧ Below W.heap.size W w') :=
    Lib.hid (fun W h => at_val (t.ext h) i (k + 1) q hq rfl (by omega) (by omega) (by omega))
  generalize a[i] = x at *
  generalize b[k] = y at *
  have hkn : ¬ (k : Int) = (b.length : Int) := by omega
  have hpi : ¬ (q : Int) ≤ (p : Int) := by omega
  go_enter Try.func20, Try.ntmps20
  go_wp2_with fail
  have hR := Blk.new w 34 #[.int .i64 0, .int .i64 0, .int .i64 0] _ rfl
  have hb1 := below_alloc (Below.refl w.heap.size w) (.cells #[.int .i64 0, .int .i64 0, .int .i64 0] 34)
  generalize w.alloc (.cells #[.int .i64 0, .int .i64 0, .int .i64 0] 34) = w1 at *
  have ra1 := rng_ext ra hb1
  have rb1 := rng_ext rb hb1
  obtain ⟨c0, c1⟩ := (t.ext hb1).c0
  have hz1 := hb1.size
  have hgt1 : g < w1.heap.size := by omega
  refine wp_region_below_lit (by kernel_rfl) (by kernel_rfl) ?_
  repeat (first | go_big_quiet_skip | (go_big_quiet_want; go_big_quiet_op; go_big_quiet_on) | (refine q_load_mid (by rfl) _ _ (by rfl) (fun _ h => h) _ _ (by rfl) _ _ (by assumption) Try.underlying40 rfl (by kernel_rfl) ?_; (try simp only [Act.put, List.setIfInBounds_toArray, List.set_cons_zero, List.set_cons_succ])) | (refine Cmp.q_eqmv (by rfl) _ _ _ (by rfl) _ _ (by rfl) (by rfl) _ (by assumption) ?_; (try simp only [Act.put, List.setIfInBounds_toArray, List.set_cons_zero, List.set_cons_succ])) | (refine q_load_fld (by rfl) _ _ (by rfl) (fun _ h => h) _ _ (by rfl) ?_ ?_ ?_ ?_ ?_ ?_; rotate_left; (next => (repeat (first | (with_reducible refine BlkAt.new _ _ _ _ ?_; ((try simp) <;> omega)) | (with_reducible assumption) | (with_reducible refine Blk.at (t := ?_) ?_; rotate_left; with_reducible assumption) | with_reducible refine BlkAt.alloc ?_ _ | with_reducible refine BlkAt.drew ?_ | (with_reducible refine BlkAt.setSame ?_ _ _) | (with_reducible refine BlkAt.setCell ?_ ?_ _; rotate_left; ((try simp) <;> omega)) | (with_reducible refine BlkAt.ext (w := ?_) ?_ ?_; rotate_left 2; (with_reducible assumption)) | fail))); rotate_left; (next => first | (simp only [go_sem]; rfl) | rfl); (next => kernel_rfl); (try simp only [Act.put, List.setIfInBounds_toArray, List.set_cons_zero, List.set_cons_succ])) | (refine q_rem (by rfl) _ _ _ _ (by rfl) _ _ (by rfl) (by rfl) (by kernel_rfl) (by kernel_rfl) ?_ ?_; (next => omega); (try simp only [Act.put, List.setIfInBounds_toArray, List.set_cons_zero, List.set_cons_succ])) | (refine q_step_ex (by rfl) ?_; apply Exists.intro; refine ⟨fun W hW => ?_, ?_⟩; (next => (have hWc := fun (b o : Nat) (h : b < _) => (Ext.out hW).cell (p := ⟨b, o, none⟩) h); (try have hLK := HLK.out W (Ext.out hW)); go_simp; first | rfl | fail | fail); (try simp only [Act.put, List.setIfInBounds_toArray, List.set_cons_zero, List.set_cons_succ])) | fail)
  refine wpQuiet_nil ?_
  intro w2 hb2
  have hR2 := hR.ext hb2
  have h02 := below_ext hb1 hb2
  have hz2 := hb2.size
  have hgt2 : g < w2.heap.size := by omega
  obtain ⟨c02, c12⟩ := (t.ext h02).c0
  go_wp2_with (first | (go_at_call 17; first | (refine (C2.out w4 h04).mono ?_; rintro e w5 ⟨rfl, hb5⟩; have h05 := below_ext h04 hb5; have hR5 := (hR2.ext hb4).ext hb5) | (refine (C1.out w2 h02).mono ?_; rintro e w4 ⟨rfl, hb4⟩; have h04 := below_ext h02 hb4)) | (refine wpList_store_blk (by rfl) 34 _ _ (by rfl) _ _ (by rfl) (by rfl) _ _ hR5 (by kernel_rfl) (by rfl) ?_ ?_; (next => first | (simp [Value.oneCell']; done) | (simp [Value.oneCell', Edt.cells]; done) | exact Are.ordArr_one _); intro w3 hR3 hU3))
  refine bodyPost_ret (results_cell_row (by rfl) _ w3 w.heap.size 34 _ _ _ (by rfl) hR3 Try.underlying34 rfl (by kernel_rfl)) rfl ⟨rfl, ?_⟩
  exact below_upd h05 (Nat.le_refl _) hU3
theorem next_kend (t : Tb w g bt A ca B cb a b (T a b)) {i k : Nat} (hi : i < a.length) (hk : k = b.length) :
    Calls Try.prog 20 #[.pointer (some ⟨g, 0, none⟩), .int .i64 i, .int .i64 k] w (NextPost 1 i k w) := by
  subst hk
  have hl := t.len
  have hgt := t.hd.lt
  have hi1 : (i : Int) < (a.length : Int) := by omega
  go_enter Try.func20, Try.ntmps20
  go_wp2_with fail
  have hR := Blk.new w 34 #[.int .i64 0, .int .i64 0, .int .i64 0] _ rfl
  have hb1 := below_alloc (Below.refl w.heap.size w) (.cells #[.int .i64 0, .int .i64 0, .int .i64 0] 34)
  generalize w.alloc (.cells #[.int .i64 0, .int .i64 0, .int .i64 0] 34) = w1 at *
  obtain ⟨c0, c1⟩ := (t.ext hb1).c0
  have hz1 := hb1.size
  have hgt1 : g < w1.heap.size := by omega
  refine wp_region_below_lit (by kernel_rfl) (by kernel_rfl) ?_
  repeat (first | go_big_quiet_skip | (go_big_quiet_want; go_big_quiet_op; go_big_quiet_on) | (refine q_load_mid (by rfl) _ _ (by rfl) (fun _ h => h) _ _ (by rfl) _ _ (by assumption) Try.underlying40 rfl (by kernel_rfl) ?_; (try simp only [Act.put, List.setIfInBounds_toArray, List.set_cons_zero, List.set_cons_succ])) | (refine Cmp.q_eqmv (by rfl) _ _ _ (by rfl) _ _ (by rfl) (by rfl) _ (by assumption) ?_; (try simp only [Act.put, List.setIfInBounds_toArray, List.set_cons_zero, List.set_cons_succ])) | (refine q_load_fld (by rfl) _ _ (by rfl) (fun _ h => h) _ _ (by rfl) ?_ ?_ ?_ ?_ ?_ ?_; rotate_left; (next => (repeat (first | (with_reducible refine BlkAt.new _ _ _ _ ?_; ((try simp) <;> omega)) | (with_reducible assumption) | (with_reducible refine Blk.at (t := ?_) ?_; rotate_left; with_reducible assumption) | with_reducible refine BlkAt.alloc ?_ _ | with_reducible refine BlkAt.drew ?_ | (with_reducible refine BlkAt.setSame ?_ _ _) | (with_reducible refine BlkAt.setCell ?_ ?_ _; rotate_left; ((try simp) <;> omega)) | (with_reducible refine BlkAt.ext (w := ?_) ?_ ?_; rotate_left 2; (with_reducible assumption)) | fail))); rotate_left; (next => first | (simp only [go_sem]; rfl) | rfl); (next => kernel_rfl); (try simp only [Act.put, List.setIfInBounds_toArray, List.set_cons_zero, List.set_cons_succ])) | (refine q_rem (by rfl) _ _ _ _ (by rfl) _ _ (by rfl) (by rfl) (by kernel_rfl) (by kernel_rfl) ?_ ?_; (next => omega); (try simp only [Act.put, List.setIfInBounds_toArray, List.set_cons_zero, List.set_cons_succ])) | (refine q_step_ex (by rfl) ?_; apply Exists.intro; refine ⟨fun W hW => ?_, ?_⟩; (next => (have hWc := fun (b o : Nat) (h : b < _) => (Ext.out hW).cell (p := ⟨b, o, none⟩) h); (try have hLK := HLK.out W (Ext.out hW)); go_simp; first | rfl | fail | fail); (try simp only [Act.put, List.setIfInBounds_toArray, List.set_cons_zero, List.set_cons_succ])) | fail)
  refine wpQuiet_nil ?_
  intro w2 hb2
  have hR2 := hR.ext hb2
  have h02 := below_ext hb1 hb2
  have hz2 := hb2.size
  have hgt2 : g < w2.heap.size := by omega
  obtain ⟨c02, c12⟩ := (t.ext h02).c0
  go_wp2_with (refine wpList_store_blk (by rfl) 34 _ _ (by rfl) _ _ (by rfl) (by rfl) _ _ hR2 (by kernel_rfl) (by rfl) ?_ ?_; (next => first | (simp [Value.oneCell']; done) | (simp [Value.oneCell', Edt.cells]; done) | exact Are.ordArr_one _); intro w3 hR3 hU3)
  refine bodyPost_ret (results_cell_row (by rfl) _ w3 w.heap.size 34 _ _ _ (by rfl) hR3 Try.underlying34 rfl (by kernel_rfl)) rfl ⟨rfl, ?_⟩
  exact below_upd h02 (Nat.le_refl _) hU3
theorem next_iend (t : Tb w g bt A ca B cb a b (T a b)) {i k : Nat} (hi : i = a.length) (hk : k < b.length) :
    Calls Try.prog 20 #[.pointer (some ⟨g, 0, none⟩), .int .i64 i, .int .i64 k] w (NextPost 2 i k w) := by
  subst hi
  have hl := t.len
  have hgt := t.hd.lt
  have hk1 : (k : Int) < (b.length : Int) := by omega
  have hkn : ¬ (k : Int) = (b.length : Int) := by omega
  go_enter Try.func20, Try.ntmps20
  go_wp2_with fail
  have hR := Blk.new w 34 #[.int .i64 0, .int .i64 0, .int .i64 0] _ rfl
  have hb1 := below_alloc (Below.refl w.heap.size w) (.cells #[.int .i64 0, .int .i64 0, .int .i64 0] 34)
  generalize w.alloc (.cells #[.int .i64 0, .int .i64 0, .int .i64 0] 34) = w1 at *
  obtain ⟨c0, c1⟩ := (t.ext hb1).c0
  have hz1 := hb1.size
  have hgt1 : g < w1.heap.size := by omega
  refine wp_region_below_lit (by kernel_rfl) (by kernel_rfl) ?_
  repeat (first | go_big_quiet_skip | (go_big_quiet_want; go_big_quiet_op; go_big_quiet_on) | (refine q_load_mid (by rfl) _ _ (by rfl) (fun _ h => h) _ _ (by rfl) _ _ (by assumption) Try.underlying40 rfl (by kernel_rfl) ?_; (try simp only [Act.put, List.setIfInBounds_toArray, List.set_cons_zero, List.set_cons_succ])) | (refine Cmp.q_eqmv (by rfl) _ _ _ (by rfl) _ _ (by rfl) (by rfl) _ (by assumption) ?_; (try simp only [Act.put, List.setIfInBounds_toArray, List.set_cons_zero, List.set_cons_succ])) | (refine q_load_fld (by rfl) _ _ (by rfl) (fun _ h => h) _ _ (by rfl) ?_ ?_ ?_ ?_ ?_ ?_; rotate_left; (next => (repeat (first | (with_reducible refine BlkAt.new _ _ _ _ ?_; ((try simp) <;> omega)) | (with_reducible assumption) | (with_reducible refine Blk.at (t := ?_) ?_; rotate_left; with_reducible assumption) | with_reducible refine BlkAt.alloc ?_ _ | with_reducible refine BlkAt.drew ?_ | (with_reducible refine BlkAt.setSame ?_ _ _) | (with_reducible refine BlkAt.setCell ?_ ?_ _; rotate_left; ((try simp) <;> omega)) | (with_reducible refine BlkAt.ext (w := ?_) ?_ ?_; rotate_left 2; (with_reducible assumption)) | fail))); rotate_left; (next => first | (simp only [go_sem]; rfl) | rfl); (next => kernel_rfl); (try simp only [Act.put, List.setIfInBounds_toArray, List.set_cons_zero, List.set_cons_succ])) | (refine q_rem (by rfl) _ _ _ _ (by rfl) _ _ (by rfl) (by rfl) (by kernel_rfl) (by kernel_rfl) ?_ ?_; (next => omega); (try simp only [Act.put, List.setIfInBounds_toArray, List.set_cons_zero, List.set_cons_succ])) | (refine q_step_ex (by rfl) ?_; apply Exists.intro; refine ⟨fun W hW => ?_, ?_⟩; (next => (have hWc := fun (b o : Nat) (h : b < _) => (Ext.out hW).cell (p := ⟨b, o, none⟩) h); (try have hLK := HLK.out W (Ext.out hW)); go_simp; first | rfl | fail | fail); (try simp only [Act.put, List.setIfInBounds_toArray, List.set_cons_zero, List.set_cons_succ])) | fail)
  refine wpQuiet_nil ?_
  intro w2 hb2
  have hR2 := hR.ext hb2
  have h02 := below_ext hb1 hb2
  have hz2 := hb2.size
  have hgt2 : g < w2.heap.size := by omega
  obtain ⟨c02, c12⟩ := (t.ext h02).c0
  go_wp2_with (refine wpList_store_blk (by rfl) 34 _ _ (by rfl) _ _ (by rfl) (by rfl) _ _ hR2 (by kernel_rfl) (by rfl) ?_ ?_; (next => first | (simp [Value.oneCell']; done) | (simp [Value.oneCell', Edt.cells]; done) | exact Are.ordArr_one _); intro w3 hR3 hU3)
  refine bodyPost_ret (results_cell_row (by rfl) _ w3 w.heap.size 34 _ _ _ (by rfl) hR3 Try.underlying34 rfl (by kernel_rfl)) rfl ⟨rfl, ?_⟩
  exact below_upd h02 (Nat.le_refl _) hU3
theorem next_any (t : Tb w g bt A ca B cb a b (T a b)) (hA : Rd w 9 A (a.map Msg.cells)) (hB : Rd w 9 B (b.map Msg.cells)) {i k : Nat} (hi : i ≤ a.length) (hk : k ≤ b.length) (h : ¬ (i = a.length ∧ k = b.length)) :
    Calls Try.prog 20 #[.pointer (some ⟨g, 0, none⟩), .int .i64 i, .int .i64 k] w (NextPost (opAt a b i k) i k w) := by
  by_cases h1 : i < a.length
  · by_cases h2 : k < b.length
    · have e1 : eqAt a b i k = eqM a[i] b[k] := by simp [eqAt, h1, h2]
      cases e : eqM a[i] b[k]
      · by_cases h3 : T a b i (k + 1) ≤ T a b (i + 1) k
        · have e2 : opAt a b i k = 1 := by
            unfold opAt
            rw [e1, e, if_neg (by decide), if_neg (by omega), if_pos ⟨h1, h3⟩]
          rw [e2]
          exact next_drop t hA hB h1 h2 (Lib.hid e) _ _ (Lib.hid rfl) (Lib.hid rfl) h3
        · have e2 : opAt a b i k = 2 := by
            unfold opAt
            rw [e1, e, if_neg (by decide), if_neg (by omega), if_neg (fun x => h3 x.2)]
          rw [e2]
          exact next_add t hA hB h1 h2 (Lib.hid e) _ _ (Lib.hid rfl) (Lib.hid rfl) h3
      · have e2 : opAt a b i k = 0 := by
          unfold opAt
          rw [e1, e, if_pos rfl]
        rw [e2]
        exact next_eq t hA hB h1 h2 (Lib.hid e)
    · have hkb : k = b.length := by omega
      have e2 : opAt a b i k = 1 := by
        unfold opAt eqAt
        rw [List.getElem?_eq_none (show b.length ≤ k by omega)]
        cases a[i]? <;> simp [hkb]
      rw [e2]
      exact next_kend t h1 hkb
  · have hia : i = a.length := by omega
    have h2 : k < b.length := by omega
    have e2 : opAt a b i k = 2 := by
      unfold opAt eqAt
      rw [List.getElem?_eq_none (show a.length ≤ i by omega)]
      simp [h1]
      omega
    rw [e2]
    exact next_iend t hia h2
def flatE (l : List Edt) : List Value := (l.map Edt.cells).flatten
theorem flatE_app (l l' : List Edt) : flatE (l ++ l') = flatE l ++ flatE l' := by simp [flatE]
theorem ed_len (a b : List Msg) : ∀ (f i k : Nat), (ed a b f i k).length ≤ f
  | 0, _, _ => by simp [ed]
  | f + 1, i, k => by
    unfold ed
    split
    · simp
    · have := ed_len a b f (if opAt a b i k = 2 then i else i + 1) (if opAt a b i k = 1 then k else k + 1)
      simp
      omega
theorem owns_mono {w : World} {base base' : Nat} {e : TypeId} {size : Nat} {v : Value} {n : Nat} {xs : List Value} (h : w.ownsRow base e size v n xs) (hb : base' ≤ base) : w.ownsRow base' e size v n xs := by
  refine ⟨h.1, ?_⟩
  rcases h.2 with h0 | ⟨g, cap, cur, hv, hbs, hg⟩
  · exact .inl h0
  · exact .inr ⟨g, cap, cur, hv, Nat.le_trans hb hbs, hg⟩
theorem owns_lt {w : World} {base : Nat} {e : TypeId} {size : Nat} {v : Value} {n : Nat} {xs : List Value} (h : w.ownsRow base e size v n xs) : ∀ g, v.ownBlock = some g → g < w.heap.size := by
  rcases h.2 with ⟨rfl, _⟩ | ⟨g, cap, cur, rfl, hb, hg, _⟩
  · intro g h; simp [Value.ownBlock] at h
  · intro g' h'
    simp [Value.ownBlock] at h'
    subst h'
    exact heap_lt hg
def EditsPost (a b : List Msg) (w : World) (e : Ending) (w' : World) : Prop :=
  ∃ v, e = .returned v ∧ w'.ownsRow w.heap.size 34 3 v (edits a b).length (flatE (edits a b)) ∧ Below w.heap.size w w'
theorem edits_any (hla : a.length ≤ 300) (hlb : b.length ≤ 300) (hA : Rd w 9 A (a.map Msg.cells)) (hB : Rd w 9 B (b.map Msg.cells)) :
    Calls Try.prog 11 #[.slice A a.length ca, .slice B b.length cb] w (EditsPost a b w) := by
  have h1 : (a.length : Int) ≤ 300 := by omega
  have h2 : (b.length : Int) ≤ 300 := by omega
  have hc := Lib.hid (fill_any (ca := ca) (cb := cb) hla hlb hA hB)
  replace hA := Lib.hid hA
  replace hB := Lib.hid hB
  have hmf : ∀ (fn : Fn) (first cap : Array Value) (W : World), (Instr.makeFunc fn first cap).run Try.prog W = .ok (.func fn first cap) W := fun _ _ _ _ => rfl
  go_enter Try.func11, Try.ntmps11
  go_wp2_with fail
  go_step3
  go_wp2_with (go_at_call 16; refine hc.out.mono ?_; rintro e w1 ⟨g, bt, rfl, t1, hg1, hg2, hb1⟩)
  go_step3
  go_wp2_with fail
  go_loopw [4, 7, 8] (fun v i k wr => ∃ (x y f : Nat) (acc : List Edt) (vv : Value), v = vv ∧ i = .int .i64 x ∧ k = .int .i64 y ∧ x ≤ a.length ∧ y ≤ b.length ∧ a.length - x + (b.length - y) ≤ f ∧ Hid (acc ++ ed a b f x y = edits a b) ∧ wr.ownsRow w1.heap.size 34 3 vv acc.length (flatE acc) ∧ Below w1.heap.size w1 wr) (fun _ i k _ => (a.length - (intOf i).toNat) + (b.length - (intOf k).toNat))
  case atStart => exact ⟨0, 0, a.length + b.length, [], _, rfl, rfl, rfl, Nat.zero_le _, Nat.zero_le _, by omega, Lib.hid rfl, World.ownsRow_nil _ _ _ _, Below.refl _ _⟩
  case round =>
    obtain ⟨x, y, f, acc, vv, rfl, rfl, rfl, hx, hy, hf, hacc, hown, hb⟩ := hrel
    by_cases hend : x = a.length ∧ y = b.length
    · obtain ⟨rfl, rfl⟩ := hend
      go_wp2_with fail
      go_ret
      have he := hacc.out
      rw [ed_end, List.append_nil] at he
      exact ⟨_, rfl, by rw [← he]; exact owns_mono hown hb1.size, below_ext hb1 hb⟩
    · obtain ⟨f, rfl⟩ : ∃ n, f = n + 1 := ⟨f - 1, by omega⟩
      have hln : acc.length ≤ 600 := by
        have h3 := congrArg List.length hacc.out
        have h4 := ed_len a b (a.length + b.length) 0 0
        unfold edits at h3
        rw [List.length_append] at h3
        omega
      have C := next_any (t1.ext hb) (hA.out.below (below_ext hb1 hb)) (hB.out.below (below_ext hb1 hb)) hx hy hend
      have hacc2 := hacc.out
      rw [ed_step _ _ _ _ _ hend] at hacc2
      clear hacc
      have hzb := hb.size
      rcases step_in a b hx hy hend with ⟨ho, hxl, hyl⟩ | ⟨ho, hxl⟩ | ⟨ho, hyl⟩
      · rw [ho] at C hacc2
        have hacc3 : Hid ((acc ++ [⟨(0 : Nat), x, y⟩]) ++ ed a b f (x + 1) (y + 1) = edits a b) := Lib.hid (by rw [← hacc2, List.append_assoc]; simp [edAt, ho])
        replace C := Lib.hid C
        clear hacc2
        have e1 : ¬ (x : Int) = (a.length : Int) := by omega
        clear ho hend
        go_wp2_with (first | (go_at_call 20; refine C.out.mono ?_; rintro e w4 ⟨rfl, hb4⟩; have hR := Blk.new w4 34 #[.int .i64 0, .int .i64 0, .int .i64 0] _ rfl) | ((refine wpList_store_blk (by rfl) 34 _ _ (by rfl) _ _ (by rfl) (by rfl) _ _ hR (by kernel_rfl) (by rfl) ?_ ?_; (next => first | (simp [Value.oneCell']; done) | (simp [Value.oneCell', Edt.cells]; done) | exact Are.ordArr_one _); intro w5 hB5 hU5); have hb05 := below_upd (below_alloc hb4 _) hb4.size hU5; have hown5 := owns_ext hown hb05) | (refine wpList_load_blk (by rfl) 34 _ (by rfl) ?_ (.pointer (some ⟨_, 0, none⟩)) (by rfl) ?_ _ Try.underlying34 rfl ?_ ?_; rotate_left; (next => (repeat (first | (with_reducible refine BlkAt.new _ _ _ _ ?_; ((try simp) <;> omega)) | (with_reducible assumption) | (with_reducible refine Blk.at (t := ?_) ?_; rotate_left; with_reducible assumption) | with_reducible refine BlkAt.alloc ?_ _ | with_reducible refine BlkAt.drew ?_ | (with_reducible refine BlkAt.setSame ?_ _ _) | (with_reducible refine BlkAt.setCell ?_ ?_ _; rotate_left; ((try simp) <;> omega)) | (with_reducible refine BlkAt.ext (w := ?_) ?_ ?_; rotate_left 2; (with_reducible assumption)) | fail))); (next => kernel_rfl)) | (refine wpList_build1 (by rfl) 28 34 _ (by rfl) (.agg #[.int .i64 0, .int .i64 0, .int .i64 0]) 3 Try.underlying28 (by kernel_rfl) ⟨by decide, by decide⟩ (.agg #[.int .i64 0, .int .i64 x, .int .i64 y]) (by rfl) #[.int .i64 0, .int .i64 x, .int .i64 y] (by kernel_rfl) ?_; intro w6 hB6 hb6 hz6'; have hz6 := Lib.hid hz6'; clear hz6'; have hown6 := owns_ext hown5 hb6) | (refine wpList_append_rd (by rfl) _ _ _ (by rfl) w1.heap.size 34 (.agg #[.int .i64 0, .int .i64 0, .int .i64 0]) 3 24 Try.underlying28 (by kernel_rfl) ⟨rfl, by decide⟩ _ acc.length _ (by rfl) hown6 (some ⟨w5.heap.size, 0, none⟩) 1 1 [[.int .i64 0, .int .i64 x, .int .i64 y]] (by rfl) ?_ ⟨rfl, by simp [Value.oneCell']⟩ (by simp) ?_ ?_ ?_; (next => exact rd_own hB6 (by simp) (n := 1) (by simp)); (next => unfold maxLen; omega); (next => have h1 := hz6.out; have h2 := hb05.size; omega); intro v7 w7 hown7 hb7 hz7 hk7; have hE6 := hB5.ext hb6; have hBe : Blk w7 w4.heap.size 34 #[.int .i64 0, .int .i64 x, .int .i64 y] := (hk7 _ hE6.lt (fun e => by have := owns_lt hown _ e; have := hb4.size; omega)).trans hE6; have cE : w7.cell? ⟨w4.heap.size, 0, none⟩ = some (.int .i64 0) := hBe.cell 0; have hb17 := (hb.trans ((below_ext hb05 hb6).mono hb.size)).trans hb7) | fail)
        go_roundw
        case rel => exact ⟨(x + 1), (y + 1), f, _, _, rfl, by go_num, by go_num, by omega, by omega, by omega, hacc3, by rw [List.length_append, flatE_app]; exact hown7, hb17⟩
        case measure => simp [intOf]; omega
      · rw [ho] at C hacc2
        have hacc3 : Hid ((acc ++ [⟨(1 : Nat), x, y⟩]) ++ ed a b f (x + 1) y = edits a b) := Lib.hid (by rw [← hacc2, List.append_assoc]; simp [edAt, ho])
        replace C := Lib.hid C
        clear hacc2
        have e1 : ¬ (x : Int) = (a.length : Int) := by omega
        clear ho hend
        go_wp2_with (first | (go_at_call 20; refine C.out.mono ?_; rintro e w4 ⟨rfl, hb4⟩; have hR := Blk.new w4 34 #[.int .i64 0, .int .i64 0, .int .i64 0] _ rfl) | ((refine wpList_store_blk (by rfl) 34 _ _ (by rfl) _ _ (by rfl) (by rfl) _ _ hR (by kernel_rfl) (by rfl) ?_ ?_; (next => first | (simp [Value.oneCell']; done) | (simp [Value.oneCell', Edt.cells]; done) | exact Are.ordArr_one _); intro w5 hB5 hU5); have hb05 := below_upd (below_alloc hb4 _) hb4.size hU5; have hown5 := owns_ext hown hb05) | (refine wpList_load_blk (by rfl) 34 _ (by rfl) ?_ (.pointer (some ⟨_, 0, none⟩)) (by rfl) ?_ _ Try.underlying34 rfl ?_ ?_; rotate_left; (next => (repeat (first | (with_reducible refine BlkAt.new _ _ _ _ ?_; ((try simp) <;> omega)) | (with_reducible assumption) | (with_reducible refine Blk.at (t := ?_) ?_; rotate_left; with_reducible assumption) | with_reducible refine BlkAt.alloc ?_ _ | with_reducible refine BlkAt.drew ?_ | (with_reducible refine BlkAt.setSame ?_ _ _) | (with_reducible refine BlkAt.setCell ?_ ?_ _; rotate_left; ((try simp) <;> omega)) | (with_reducible refine BlkAt.ext (w := ?_) ?_ ?_; rotate_left 2; (with_reducible assumption)) | fail))); (next => kernel_rfl)) | (refine wpList_build1 (by rfl) 28 34 _ (by rfl) (.agg #[.int .i64 0, .int .i64 0, .int .i64 0]) 3 Try.underlying28 (by kernel_rfl) ⟨by decide, by decide⟩ (.agg #[.int .i64 1, .int .i64 x, .int .i64 y]) (by rfl) #[.int .i64 1, .int .i64 x, .int .i64 y] (by kernel_rfl) ?_; intro w6 hB6 hb6 hz6'; have hz6 := Lib.hid hz6'; clear hz6'; have hown6 := owns_ext hown5 hb6) | (refine wpList_append_rd (by rfl) _ _ _ (by rfl) w1.heap.size 34 (.agg #[.int .i64 0, .int .i64 0, .int .i64 0]) 3 24 Try.underlying28 (by kernel_rfl) ⟨rfl, by decide⟩ _ acc.length _ (by rfl) hown6 (some ⟨w5.heap.size, 0, none⟩) 1 1 [[.int .i64 1, .int .i64 x, .int .i64 y]] (by rfl) ?_ ⟨rfl, by simp [Value.oneCell']⟩ (by simp) ?_ ?_ ?_; (next => exact rd_own hB6 (by simp) (n := 1) (by simp)); (next => unfold maxLen; omega); (next => have h1 := hz6.out; have h2 := hb05.size; omega); intro v7 w7 hown7 hb7 hz7 hk7; have hE6 := hB5.ext hb6; have hBe : Blk w7 w4.heap.size 34 #[.int .i64 1, .int .i64 x, .int .i64 y] := (hk7 _ hE6.lt (fun e => by have := owns_lt hown _ e; have := hb4.size; omega)).trans hE6; have cE : w7.cell? ⟨w4.heap.size, 0, none⟩ = some (.int .i64 1) := hBe.cell 0; have hb17 := (hb.trans ((below_ext hb05 hb6).mono hb.size)).trans hb7) | fail)
        go_roundw
        case rel => exact ⟨(x + 1), y, f, _, _, rfl, by go_num, by go_num, by omega, by omega, by omega, hacc3, by rw [List.length_append, flatE_app]; exact hown7, hb17⟩
        case measure => simp [intOf]; omega
      · have e2 : ¬ (y : Int) = (b.length : Int) := by omega
        by_cases hxe : x = a.length
        · rw [ho] at C hacc2
          have hacc3 : Hid ((acc ++ [⟨(2 : Nat), x, y⟩]) ++ ed a b f x (y + 1) = edits a b) := Lib.hid (by rw [← hacc2, List.append_assoc]; simp [edAt, ho])
          replace C := Lib.hid C
          clear hacc2
          subst hxe
          clear ho hend
          go_wp2_with (first | (go_at_call 20; refine C.out.mono ?_; rintro e w4 ⟨rfl, hb4⟩; have hR := Blk.new w4 34 #[.int .i64 0, .int .i64 0, .int .i64 0] _ rfl) | ((refine wpList_store_blk (by rfl) 34 _ _ (by rfl) _ _ (by rfl) (by rfl) _ _ hR (by kernel_rfl) (by rfl) ?_ ?_; (next => first | (simp [Value.oneCell']; done) | (simp [Value.oneCell', Edt.cells]; done) | exact Are.ordArr_one _); intro w5 hB5 hU5); have hb05 := below_upd (below_alloc hb4 _) hb4.size hU5; have hown5 := owns_ext hown hb05) | (refine wpList_load_blk (by rfl) 34 _ (by rfl) ?_ (.pointer (some ⟨_, 0, none⟩)) (by rfl) ?_ _ Try.underlying34 rfl ?_ ?_; rotate_left; (next => (repeat (first | (with_reducible refine BlkAt.new _ _ _ _ ?_; ((try simp) <;> omega)) | (with_reducible assumption) | (with_reducible refine Blk.at (t := ?_) ?_; rotate_left; with_reducible assumption) | with_reducible refine BlkAt.alloc ?_ _ | with_reducible refine BlkAt.drew ?_ | (with_reducible refine BlkAt.setSame ?_ _ _) | (with_reducible refine BlkAt.setCell ?_ ?_ _; rotate_left; ((try simp) <;> omega)) | (with_reducible refine BlkAt.ext (w := ?_) ?_ ?_; rotate_left 2; (with_reducible assumption)) | fail))); (next => kernel_rfl)) | (refine wpList_build1 (by rfl) 28 34 _ (by rfl) (.agg #[.int .i64 0, .int .i64 0, .int .i64 0]) 3 Try.underlying28 (by kernel_rfl) ⟨by decide, by decide⟩ (.agg #[.int .i64 2, .int .i64 a.length, .int .i64 y]) (by rfl) #[.int .i64 2, .int .i64 a.length, .int .i64 y] (by kernel_rfl) ?_; intro w6 hB6 hb6 hz6'; have hz6 := Lib.hid hz6'; clear hz6'; have hown6 := owns_ext hown5 hb6) | (refine wpList_append_rd (by rfl) _ _ _ (by rfl) w1.heap.size 34 (.agg #[.int .i64 0, .int .i64 0, .int .i64 0]) 3 24 Try.underlying28 (by kernel_rfl) ⟨rfl, by decide⟩ _ acc.length _ (by rfl) hown6 (some ⟨w5.heap.size, 0, none⟩) 1 1 [[.int .i64 2, .int .i64 a.length, .int .i64 y]] (by rfl) ?_ ⟨rfl, by simp [Value.oneCell']⟩ (by simp) ?_ ?_ ?_; (next => exact rd_own hB6 (by simp) (n := 1) (by simp)); (next => unfold maxLen; omega); (next => have h1 := hz6.out; have h2 := hb05.size; omega); intro v7 w7 hown7 hb7 hz7 hk7; have hE6 := hB5.ext hb6; have hBe : Blk w7 w4.heap.size 34 #[.int .i64 2, .int .i64 a.length, .int .i64 y] := (hk7 _ hE6.lt (fun e => by have := owns_lt hown _ e; have := hb4.size; omega)).trans hE6; have cE : w7.cell? ⟨w4.heap.size, 0, none⟩ = some (.int .i64 2) := hBe.cell 0; have hb17 := (hb.trans ((below_ext hb05 hb6).mono hb.size)).trans hb7) | fail)
          go_roundw
          case rel => exact ⟨a.length, (y + 1), f, _, _, rfl, by go_num, by go_num, by omega, by omega, by omega, hacc3, by rw [List.length_append, flatE_app]; exact hown7, hb17⟩
          case measure => simp [intOf]; omega
        · rw [ho] at C hacc2
          have hacc3 : Hid ((acc ++ [⟨(2 : Nat), x, y⟩]) ++ ed a b f x (y + 1) = edits a b) := Lib.hid (by rw [← hacc2, List.append_assoc]; simp [edAt, ho])
          replace C := Lib.hid C
          clear hacc2
          have e1 : ¬ (x : Int) = (a.length : Int) := by omega
          clear ho hend
          go_wp2_with (first | (go_at_call 20; refine C.out.mono ?_; rintro e w4 ⟨rfl, hb4⟩; have hR := Blk.new w4 34 #[.int .i64 0, .int .i64 0, .int .i64 0] _ rfl) | ((refine wpList_store_blk (by rfl) 34 _ _ (by rfl) _ _ (by rfl) (by rfl) _ _ hR (by kernel_rfl) (by rfl) ?_ ?_; (next => first | (simp [Value.oneCell']; done) | (simp [Value.oneCell', Edt.cells]; done) | exact Are.ordArr_one _); intro w5 hB5 hU5); have hb05 := below_upd (below_alloc hb4 _) hb4.size hU5; have hown5 := owns_ext hown hb05) | (refine wpList_load_blk (by rfl) 34 _ (by rfl) ?_ (.pointer (some ⟨_, 0, none⟩)) (by rfl) ?_ _ Try.underlying34 rfl ?_ ?_; rotate_left; (next => (repeat (first | (with_reducible refine BlkAt.new _ _ _ _ ?_; ((try simp) <;> omega)) | (with_reducible assumption) | (with_reducible refine Blk.at (t := ?_) ?_; rotate_left; with_reducible assumption) | with_reducible refine BlkAt.alloc ?_ _ | with_reducible refine BlkAt.drew ?_ | (with_reducible refine BlkAt.setSame ?_ _ _) | (with_reducible refine BlkAt.setCell ?_ ?_ _; rotate_left; ((try simp) <;> omega)) | (with_reducible refine BlkAt.ext (w := ?_) ?_ ?_; rotate_left 2; (with_reducible assumption)) | fail))); (next => kernel_rfl)) | (refine wpList_build1 (by rfl) 28 34 _ (by rfl) (.agg #[.int .i64 0, .int .i64 0, .int .i64 0]) 3 Try.underlying28 (by kernel_rfl) ⟨by decide, by decide⟩ (.agg #[.int .i64 2, .int .i64 x, .int .i64 y]) (by rfl) #[.int .i64 2, .int .i64 x, .int .i64 y] (by kernel_rfl) ?_; intro w6 hB6 hb6 hz6'; have hz6 := Lib.hid hz6'; clear hz6'; have hown6 := owns_ext hown5 hb6) | (refine wpList_append_rd (by rfl) _ _ _ (by rfl) w1.heap.size 34 (.agg #[.int .i64 0, .int .i64 0, .int .i64 0]) 3 24 Try.underlying28 (by kernel_rfl) ⟨rfl, by decide⟩ _ acc.length _ (by rfl) hown6 (some ⟨w5.heap.size, 0, none⟩) 1 1 [[.int .i64 2, .int .i64 x, .int .i64 y]] (by rfl) ?_ ⟨rfl, by simp [Value.oneCell']⟩ (by simp) ?_ ?_ ?_; (next => exact rd_own hB6 (by simp) (n := 1) (by simp)); (next => unfold maxLen; omega); (next => have h1 := hz6.out; have h2 := hb05.size; omega); intro v7 w7 hown7 hb7 hz7 hk7; have hE6 := hB5.ext hb6; have hBe : Blk w7 w4.heap.size 34 #[.int .i64 2, .int .i64 x, .int .i64 y] := (hk7 _ hE6.lt (fun e => by have := owns_lt hown _ e; have := hb4.size; omega)).trans hE6; have cE : w7.cell? ⟨w4.heap.size, 0, none⟩ = some (.int .i64 2) := hBe.cell 0; have hb17 := (hb.trans ((below_ext hb05 hb6).mono hb.size)).trans hb7) | fail)
          go_roundw
          case rel => exact ⟨x, (y + 1), f, _, _, rfl, by go_num, by go_num, by omega, by omega, by omega, hacc3, by rw [List.length_append, flatE_app]; exact hown7, hb17⟩
          case measure => simp [intOf]; omega
theorem edits_long (hca : (a.length : Int) ≤ 9223372036854775807) (hcb : (b.length : Int) ≤ 9223372036854775807) (h : 300 < a.length ∨ 300 < b.length) :
    Calls Try.prog 11 #[.slice A a.length ca, .slice B b.length cb] w fun e w' => e = .returned (.slice none 0 0) ∧ w' = w := by
  by_cases h1 : (300 : Int) < (a.length : Int)
  · clear h
    go_enter Try.func11, Try.ntmps11
    go_wp2_with fail
    go_step3
    go_wp2_with fail
    try rw [Exit.noGoto_ret]
    go_ret
    exact ⟨rfl, rfl⟩
  · have h2 : (300 : Int) < (b.length : Int) := by omega
    clear h
    go_enter Try.func11, Try.ntmps11
    go_wp2_with fail
    go_step3
    go_wp2_with fail
    try rw [Exit.noGoto_ret]
    go_ret
    exact ⟨rfl, rfl⟩
end
end Cmp
end Go.Proofs.Ytpopfjfmppmjdaa
