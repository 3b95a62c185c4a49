/- This text proves the contract of a book's Reduce. It has no conditions but those that it states. -/
import Derived.Test.YtgaialcbpglhaaaBkRm
namespace Go.Proofs.Ytgaialcbpglhaaa
set_option linter.unusedVariables false
open Go.RowKit
namespace Bk
set_option maxHeartbeats 1000000
set_option maxRecDepth 10000
open Are (St Ar ord0 ordArr_one dropS setS)
open Fif (Fq up up_same up_ne)
open Idx (R3 Xq Wf)
section
variable {w : World} {c : Nat → Nat} {b N most k : Nat} {ss : List Sl}
theorem reduce_nil (id by_ : Int) (w : World) : Calls Try.prog 81 #[.pointer none, .int .i64 id, .int .i64 by_] w fun e w' => e = .returned (.tuple #[.agg ord0.arr, .int .i64 1]) ∧ Below w.heap.size w w' := by
  have hN0 : Blk (w.alloc (.cells #[.int .i64 0, .int .i64 0, .int .i64 0, .int .i64 0, .int .i64 0, .int .i64 0, .int .i64 0] 43)) w.heap.size 43 #[.int .i64 0, .int .i64 0, .int .i64 0, .int .i64 0, .int .i64 0, .int .i64 0, .int .i64 0] := Blk.new _ _ _ _ rfl
  have hb0 : Below w.heap.size w (w.alloc (.cells #[.int .i64 0, .int .i64 0, .int .i64 0, .int .i64 0, .int .i64 0, .int .i64 0, .int .i64 0] 43)) := by (repeat (first | with_reducible exact Below.refl _ _ | (with_reducible assumption) | (with_reducible refine below_alloc ?_ _) | (with_reducible refine below_ext (w1 := ?_) ?_ ?_; rotate_left 2; (with_reducible assumption)) | (with_reducible refine Below.setCell ?_ ?_ _; rotate_left; ((try simp) <;> omega)) | (with_reducible refine Below.drew ?_) | (with_reducible refine below_drewN ?_ _) | fail))
  go_enter Try.func81, Try.ntmps81
  go_wp2_with (first | ((with_reducible show wpList _ _ _ (⟨_, .store 43 _ _, _, _, _, _⟩ :: _) _ _); refine wpList_store_blk (by rfl) 43 _ _ (by rfl) _ _ (by rfl) (by rfl) _ _ hN0 (by kernel_rfl) (by rfl) ?_ ?_; (next => first | (simp [Value.oneCell']; done) | (simp [Value.oneCell', Edt.cells]; done) | exact Are.ordArr_one _); intro w3 hN3 hU3) | ((with_reducible show wpList _ _ _ (⟨_, .load 43 _, _, _, _, _⟩ :: _) _ _); refine wpList_load_ho 43 _ (by rfl) (by rfl) ?_ (.pointer (some ⟨_, 0, none⟩)) (by rfl) ?_ _ Try.underlying43 rfl ?_ ?_; rotate_left; (next => (repeat (first | (with_reducible refine BlkAt.new _ _ _ _ ?_; ((try simp) <;> omega)) | (with_reducible assumption) | (with_reducible refine Blk.at (t := ?_) ?_; rotate_left; with_reducible assumption) | with_reducible refine BlkAt.alloc ?_ _ | with_reducible refine BlkAt.drew ?_ | (with_reducible refine BlkAt.setSame ?_ _ _) | (with_reducible refine BlkAt.setCell ?_ ?_ _; rotate_left; ((try simp) <;> omega)) | (with_reducible refine BlkAt.ext (w := ?_) ?_ ?_; rotate_left 2; (with_reducible assumption)) | fail))); (next => kernel_rfl)) | fail)
  have hN5 : Blk w3 w.heap.size 43 ord0.arr := hN3
  exact bodyPost_ret (results_ord2 rfl _ _ _ _ _ (by rfl) (by rfl) hN5 rfl) rfl ⟨rfl, below_upd hb0 (Nat.le_refl _) hU3⟩
theorem reduce_no (B : Bs w c b N most k ss) {id : Int} (by_ : Int) (hid : Wf id) (h : ∀ x ∈ ss, x.2.id ≠ id) : Calls Try.prog 81 #[.pointer (some ⟨b, 0, none⟩), .int .i64 id, .int .i64 by_] w fun e w' => e = .returned (.tuple #[.agg ord0.arr, .int .i64 5]) ∧ Below w.heap.size w w' := by
  have hN0 : Blk (w.alloc (.cells #[.int .i64 0, .int .i64 0, .int .i64 0, .int .i64 0, .int .i64 0, .int .i64 0, .int .i64 0] 43)) w.heap.size 43 #[.int .i64 0, .int .i64 0, .int .i64 0, .int .i64 0, .int .i64 0, .int .i64 0, .int .i64 0] := Blk.new _ _ _ _ rfl
  have hb0 : Below w.heap.size w (w.alloc (.cells #[.int .i64 0, .int .i64 0, .int .i64 0, .int .i64 0, .int .i64 0, .int .i64 0, .int .i64 0] 43)) := by (repeat (first | with_reducible exact Below.refl _ _ | (with_reducible assumption) | (with_reducible refine below_alloc ?_ _) | (with_reducible refine below_ext (w1 := ?_) ?_ ?_; rotate_left 2; (with_reducible assumption)) | (with_reducible refine Below.setCell ?_ ?_ _; rotate_left; ((try simp) <;> omega)) | (with_reducible refine Below.drew ?_) | (with_reducible refine below_drewN ?_ _) | fail))
  have HF := Lib.hid (find_no (B.ext hb0) hid h)
  clear B h
  go_enter Try.func81, Try.ntmps81
  go_wp2_with (first | (go_at_call 76; refine HF.out.mono ?_; rintro e w1 ⟨rfl, hb1⟩; have hN1 := hN0.ext hb1; clear hN0; have hT1 := Blk.new w1 43 #[.int .i64 0, .int .i64 0, .int .i64 0, .int .i64 0, .int .i64 0, .int .i64 0, .int .i64 0] _ rfl) | (((with_reducible show wpList _ _ _ (⟨_, .store 43 _ _, _, _, _, _⟩ :: _) _ _); refine wpList_store_blk (by rfl) 43 _ _ (by rfl) _ _ (by rfl) (by rfl) _ _ hT1 (by kernel_rfl) (by rfl) ?_ ?_; (next => first | (simp [Value.oneCell']; done) | (simp [Value.oneCell']; done) | exact Are.ordArr_one _); intro w3 hT3 hU3); have hN3 := (hN1.alloc (.cells #[.int .i64 0, .int .i64 0, .int .i64 0, .int .i64 0, .int .i64 0, .int .i64 0, .int .i64 0] 43)).upd (by have := hN1.lt; omega) hU3) | ((with_reducible show wpList _ _ _ (⟨_, .load 43 _, _, _, _, _⟩ :: _) _ _); refine wpList_load_ho 43 _ (by rfl) (by rfl) ?_ (.pointer (some ⟨_, 0, none⟩)) (by rfl) ?_ _ Try.underlying43 rfl ?_ ?_; rotate_left; (next => (repeat (first | (with_reducible refine BlkAt.new _ _ _ _ ?_; ((try simp) <;> omega)) | (with_reducible assumption) | (with_reducible refine Blk.at (t := ?_) ?_; rotate_left; with_reducible assumption) | with_reducible refine BlkAt.alloc ?_ _ | with_reducible refine BlkAt.drew ?_ | (with_reducible refine BlkAt.setSame ?_ _ _) | (with_reducible refine BlkAt.setCell ?_ ?_ _; rotate_left; ((try simp) <;> omega)) | (with_reducible refine BlkAt.ext (w := ?_) ?_ ?_; rotate_left 2; (with_reducible assumption)) | fail))); (next => kernel_rfl)) | ((with_reducible show wpList _ _ _ (⟨_, .store 43 _ _, _, _, _, _⟩ :: _) _ _); refine wpList_store_blk (by rfl) 43 _ _ (by rfl) _ _ (by rfl) (by rfl) _ _ hN3 (by kernel_rfl) (by rfl) ?_ ?_; (next => first | (simp [Value.oneCell']; done) | (simp [Value.oneCell']; done) | exact Are.ordArr_one _); intro w4 hN4 hU4) | fail)
  have hb3 : Below w1.heap.size w1 w3 := below_upd (by (repeat (first | with_reducible exact Below.refl _ _ | (with_reducible assumption) | (with_reducible refine below_alloc ?_ _) | (with_reducible refine below_ext (w1 := ?_) ?_ ?_; rotate_left 2; (with_reducible assumption)) | (with_reducible refine Below.setCell ?_ ?_ _; rotate_left; ((try simp) <;> omega)) | (with_reducible refine Below.drew ?_) | (with_reducible refine below_drewN ?_ _) | fail))) (Nat.le_refl _) hU3
  have hN5 : Blk w4 w.heap.size 43 ord0.arr := hN4
  exact bodyPost_ret (results_ord2 rfl _ _ _ _ _ (by rfl) (by rfl) hN5 rfl) rfl ⟨rfl, below_upd (below_ext (below_ext hb0 hb1) hb3) (Nat.le_refl _) hU4⟩
theorem reduce_rng (B : Bs w c b N most k ss) {x : Sl} (hx : x ∈ ss) (by_ : Int) (h : by_ < 1 ∨ x.2.qty < by_) : Calls Try.prog 81 #[.pointer (some ⟨b, 0, none⟩), .int .i64 x.2.id, .int .i64 by_] w fun e w' => e = .returned (.tuple #[.agg ord0.arr, .int .i64 9]) ∧ Below w.heap.size w w' := by
  have hN0 : Blk (w.alloc (.cells #[.int .i64 0, .int .i64 0, .int .i64 0, .int .i64 0, .int .i64 0, .int .i64 0, .int .i64 0] 43)) w.heap.size 43 #[.int .i64 0, .int .i64 0, .int .i64 0, .int .i64 0, .int .i64 0, .int .i64 0, .int .i64 0] := Blk.new _ _ _ _ rfl
  have hb0 : Below w.heap.size w (w.alloc (.cells #[.int .i64 0, .int .i64 0, .int .i64 0, .int .i64 0, .int .i64 0, .int .i64 0, .int .i64 0] 43)) := by (repeat (first | with_reducible exact Below.refl _ _ | (with_reducible assumption) | (with_reducible refine below_alloc ?_ _) | (with_reducible refine below_ext (w1 := ?_) ?_ ?_; rotate_left 2; (with_reducible assumption)) | (with_reducible refine Below.setCell ?_ ?_ _; rotate_left; ((try simp) <;> omega)) | (with_reducible refine Below.drew ?_) | (with_reducible refine below_drewN ?_ _) | fail))
  have HF := Lib.hid (find_yes (B.ext hb0) hx)
  clear B hx
  by_cases h1 : by_ < 1
  · clear h
    go_enter Try.func81, Try.ntmps81
    go_wp2_with (first | (go_at_call 76; refine HF.out.mono ?_; rintro e w1 ⟨rfl, hb1⟩; have hN1 := hN0.ext hb1; clear hN0; have hT1 := Blk.new w1 43 #[.int .i64 0, .int .i64 0, .int .i64 0, .int .i64 0, .int .i64 0, .int .i64 0, .int .i64 0] _ rfl) | (((with_reducible show wpList _ _ _ (⟨_, .store 43 _ _, _, _, _, _⟩ :: _) _ _); refine wpList_store_blk (by rfl) 43 _ _ (by rfl) _ _ (by rfl) (by rfl) _ _ hT1 (by kernel_rfl) (by rfl) ?_ ?_; (next => first | (simp [Value.oneCell']; done) | (simp [Value.oneCell']; done) | exact Are.ordArr_one _); intro w3 hT3 hU3); have hN3 := (hN1.alloc (.cells #[.int .i64 0, .int .i64 0, .int .i64 0, .int .i64 0, .int .i64 0, .int .i64 0, .int .i64 0] 43)).upd (by have := hN1.lt; omega) hU3) | ((with_reducible show wpList _ _ _ (⟨_, .load 43 _, _, _, _, _⟩ :: _) _ _); refine wpList_load_ho 43 _ (by rfl) (by rfl) ?_ (.pointer (some ⟨_, 0, none⟩)) (by rfl) ?_ _ Try.underlying43 rfl ?_ ?_; rotate_left; (next => (repeat (first | (with_reducible refine BlkAt.new _ _ _ _ ?_; ((try simp) <;> omega)) | (with_reducible assumption) | (with_reducible refine Blk.at (t := ?_) ?_; rotate_left; with_reducible assumption) | with_reducible refine BlkAt.alloc ?_ _ | with_reducible refine BlkAt.drew ?_ | (with_reducible refine BlkAt.setSame ?_ _ _) | (with_reducible refine BlkAt.setCell ?_ ?_ _; rotate_left; ((try simp) <;> omega)) | (with_reducible refine BlkAt.ext (w := ?_) ?_ ?_; rotate_left 2; (with_reducible assumption)) | fail))); (next => kernel_rfl)) | ((with_reducible show wpList _ _ _ (⟨_, .store 43 _ _, _, _, _, _⟩ :: _) _ _); refine wpList_store_blk (by rfl) 43 _ _ (by rfl) _ _ (by rfl) (by rfl) _ _ hN3 (by kernel_rfl) (by rfl) ?_ ?_; (next => first | (simp [Value.oneCell']; done) | (simp [Value.oneCell', Edt.cells]; done) | exact Are.ordArr_one _); intro w4 hN4 hU4) | fail)
    have hb3 : Below w1.heap.size w1 w3 := below_upd (by (repeat (first | with_reducible exact Below.refl _ _ | (with_reducible assumption) | (with_reducible refine below_alloc ?_ _) | (with_reducible refine below_ext (w1 := ?_) ?_ ?_; rotate_left 2; (with_reducible assumption)) | (with_reducible refine Below.setCell ?_ ?_ _; rotate_left; ((try simp) <;> omega)) | (with_reducible refine Below.drew ?_) | (with_reducible refine below_drewN ?_ _) | fail))) (Nat.le_refl _) hU3
    have hN5 : Blk w4 w.heap.size 43 ord0.arr := hN4
    exact bodyPost_ret (results_ord2 rfl _ _ _ _ _ (by rfl) (by rfl) hN5 rfl) rfl ⟨rfl, below_upd (below_ext (below_ext hb0 hb1) hb3) (Nat.le_refl _) hU4⟩
  · have h2 : x.2.qty < by_ := by omega
    clear h
    go_enter Try.func81, Try.ntmps81
    go_wp2_with (first | (go_at_call 76; refine HF.out.mono ?_; rintro e w1 ⟨rfl, hb1⟩; have hN1 := hN0.ext hb1; clear hN0; have hT1 := Blk.new w1 43 #[.int .i64 0, .int .i64 0, .int .i64 0, .int .i64 0, .int .i64 0, .int .i64 0, .int .i64 0] _ rfl) | (((with_reducible show wpList _ _ _ (⟨_, .store 43 _ _, _, _, _, _⟩ :: _) _ _); refine wpList_store_blk (by rfl) 43 _ _ (by rfl) _ _ (by rfl) (by rfl) _ _ hT1 (by kernel_rfl) (by rfl) ?_ ?_; (next => first | (simp [Value.oneCell']; done) | (simp [Value.oneCell']; done) | exact Are.ordArr_one _); intro w3 hT3 hU3); have cq4 : w3.cell? ⟨w1.heap.size, 4, none⟩ = some (.int .i64 x.2.qty) := hT3.cell 4; have hN3 := (hN1.alloc (.cells #[.int .i64 0, .int .i64 0, .int .i64 0, .int .i64 0, .int .i64 0, .int .i64 0, .int .i64 0] 43)).upd (by have := hN1.lt; omega) hU3) | ((with_reducible show wpList _ _ _ (⟨_, .load 43 _, _, _, _, _⟩ :: _) _ _); refine wpList_load_ho 43 _ (by rfl) (by rfl) ?_ (.pointer (some ⟨_, 0, none⟩)) (by rfl) ?_ _ Try.underlying43 rfl ?_ ?_; rotate_left; (next => (repeat (first | (with_reducible refine BlkAt.new _ _ _ _ ?_; ((try simp) <;> omega)) | (with_reducible assumption) | (with_reducible refine Blk.at (t := ?_) ?_; rotate_left; with_reducible assumption) | with_reducible refine BlkAt.alloc ?_ _ | with_reducible refine BlkAt.drew ?_ | (with_reducible refine BlkAt.setSame ?_ _ _) | (with_reducible refine BlkAt.setCell ?_ ?_ _; rotate_left; ((try simp) <;> omega)) | (with_reducible refine BlkAt.ext (w := ?_) ?_ ?_; rotate_left 2; (with_reducible assumption)) | fail))); (next => kernel_rfl)) | ((with_reducible show wpList _ _ _ (⟨_, .store 43 _ _, _, _, _, _⟩ :: _) _ _); refine wpList_store_blk (by rfl) 43 _ _ (by rfl) _ _ (by rfl) (by rfl) _ _ hN3 (by kernel_rfl) (by rfl) ?_ ?_; (next => first | (simp [Value.oneCell']; done) | (simp [Value.oneCell', Edt.cells]; done) | exact Are.ordArr_one _); intro w4 hN4 hU4) | fail)
    have hb3 : Below w1.heap.size w1 w3 := below_upd (by (repeat (first | with_reducible exact Below.refl _ _ | (with_reducible assumption) | (with_reducible refine below_alloc ?_ _) | (with_reducible refine below_ext (w1 := ?_) ?_ ?_; rotate_left 2; (with_reducible assumption)) | (with_reducible refine Below.setCell ?_ ?_ _; rotate_left; ((try simp) <;> omega)) | (with_reducible refine Below.drew ?_) | (with_reducible refine below_drewN ?_ _) | fail))) (Nat.le_refl _) hU3
    have hN5 : Blk w4 w.heap.size 43 ord0.arr := hN4
    exact bodyPost_ret (results_ord2 rfl _ _ _ _ _ (by rfl) (by rfl) hN5 rfl) rfl ⟨rfl, below_upd (below_ext (below_ext hb0 hb1) hb3) (Nat.le_refl _) hU4⟩
theorem reduce_all {A C : List Sl} {kk : Nat} {o : Ord} (B : Bs w c b N most k (A ++ (kk, o) :: C)) (hk : k < 1000) : Calls Try.prog 81 #[.pointer (some ⟨b, 0, none⟩), .int .i64 o.id, .int .i64 o.qty] w fun e w' => e = .returned (.tuple #[.agg (less o o.qty).arr, .int .i64 0]) ∧ ∃ c', Bs w' c' b N most (k + 1) (A ++ C) ∧ Cs c c' w w' := by
  have hbl := B.lt
  have h9b : ∀ q, w.heap.size ≤ q → c q = 9 := by
    obtain ⟨d, B, I⟩ := B
    exact B.out
  have hok : okO o := by
    obtain ⟨d, B, I⟩ := B
    exact I.ok (kk, o) (by simp)
  have h9 := h9b _ (Nat.le_refl _)
  have hq1 : ¬ o.qty < 1 := by have := hok.2.2.1; omega
  have hq2 : o.qty ≤ 4294967296 := by have := hok.2.2.1; omega
  have hq3 : ¬ o.qty < o.qty := by omega
  have hN0 : Blk (w.alloc (.cells #[.int .i64 0, .int .i64 0, .int .i64 0, .int .i64 0, .int .i64 0, .int .i64 0, .int .i64 0] 43)) w.heap.size 43 #[.int .i64 0, .int .i64 0, .int .i64 0, .int .i64 0, .int .i64 0, .int .i64 0, .int .i64 0] := Blk.new _ _ _ _ rfl
  have hb0 : Below w.heap.size w (w.alloc (.cells #[.int .i64 0, .int .i64 0, .int .i64 0, .int .i64 0, .int .i64 0, .int .i64 0, .int .i64 0] 43)) := by (repeat (first | with_reducible exact Below.refl _ _ | (with_reducible assumption) | (with_reducible refine below_alloc ?_ _) | (with_reducible refine below_ext (w1 := ?_) ?_ ?_; rotate_left 2; (with_reducible assumption)) | (with_reducible refine Below.setCell ?_ ?_ _; rotate_left; ((try simp) <;> omega)) | (with_reducible refine Below.drew ?_) | (with_reducible refine below_drewN ?_ _) | fail))
  have HF := Lib.hid (find_yes (B.ext hb0) (x := (kk, o)) (by simp))
  have HB := Lib.hid B
  clear B hok
  go_enter Try.func81, Try.ntmps81
  go_wp2_with (first | (go_at_call 76; refine HF.out.mono ?_; rintro e w1 ⟨rfl, hb1⟩; have hN1 := hN0.ext hb1; clear hN0; have hT1 := Blk.new w1 43 #[.int .i64 0, .int .i64 0, .int .i64 0, .int .i64 0, .int .i64 0, .int .i64 0, .int .i64 0] _ rfl) | (((with_reducible show wpList _ _ _ (⟨_, .store 43 _ _, _, _, _, _⟩ :: _) _ _); refine wpList_store_blk (by rfl) 43 _ _ (by rfl) _ _ (by rfl) (by rfl) _ _ hT1 (by kernel_rfl) (by rfl) ?_ ?_; (next => first | (simp [Value.oneCell']; done) | (simp [Value.oneCell']; done) | exact Are.ordArr_one _); intro w3 hT3 hU3); have cq4 : w3.cell? ⟨w1.heap.size, 4, none⟩ = some (.int .i64 o.qty) := hT3.cell 4; have hf4 : w3.frozen? ⟨w1.heap.size, 4, none⟩ = false := hT3.frozen 4; have hne : w.heap.size ≠ w1.heap.size := (by have := hN1.lt; omega); have hle : w.heap.size ≤ w1.heap.size := (by have := hN1.lt; omega); have hN5 := Lib.hid (Blk.upd (g' := w1.heap.size) ((hN1.alloc (.cells #[.int .i64 0, .int .i64 0, .int .i64 0, .int .i64 0, .int .i64 0, .int .i64 0, .int .i64 0] 43)).upd hne hU3) hne (Upd.setCell w3 ⟨w1.heap.size, 4, none⟩ (.int .i64 0))); have hT5 : Blk (w3.setCell ⟨w1.heap.size, 4, none⟩ (.int .i64 0)) w1.heap.size 43 (less o o.qty).arr := (by rw [show (less o o.qty).arr = o.arr.setIfInBounds 4 (.int .i64 0) from (by simp [less, Ord.arr, Ord.cells])]; exact hT3.setCell 4 _); have hb3 : Below w1.heap.size w1 w3 := below_upd (by (repeat (first | with_reducible exact Below.refl _ _ | (with_reducible assumption) | (with_reducible refine below_alloc ?_ _) | (with_reducible refine below_ext (w1 := ?_) ?_ ?_; rotate_left 2; (with_reducible assumption)) | (with_reducible refine Below.setCell ?_ ?_ _; rotate_left; ((try simp) <;> omega)) | (with_reducible refine Below.drew ?_) | (with_reducible refine below_drewN ?_ _) | fail))) (Nat.le_refl _) hU3; have hb05 : Below w.heap.size w (w3.setCell ⟨w1.heap.size, 4, none⟩ (.int .i64 0)) := below_upd (g := w1.heap.size) (below_ext (below_ext hb0 hb1) hb3) hle (Upd.setCell w3 ⟨w1.heap.size, 4, none⟩ (.int .i64 0)); have HG := Lib.hid (gone_any (HB.out.ext hb05) (less o o.qty) ⟨rfl, rfl, rfl⟩ hk); clear hT3) | ((with_reducible show wpList _ _ _ (⟨_, .load 43 _, _, _, _, _⟩ :: _) _ _); refine wpList_load_ho 43 _ (by rfl) (by rfl) ?_ (.pointer (some ⟨_, 0, none⟩)) (by rfl) ?_ _ Try.underlying43 rfl ?_ ?_; rotate_left; (next => (repeat (first | (with_reducible refine BlkAt.new _ _ _ _ ?_; ((try simp) <;> omega)) | (with_reducible assumption) | (with_reducible refine Blk.at (t := ?_) ?_; rotate_left; with_reducible assumption) | with_reducible refine BlkAt.alloc ?_ _ | with_reducible refine BlkAt.drew ?_ | (with_reducible refine BlkAt.setSame ?_ _ _) | (with_reducible refine BlkAt.setCell ?_ ?_ _; rotate_left; ((try simp) <;> omega)) | (with_reducible refine BlkAt.ext (w := ?_) ?_ ?_; rotate_left 2; (with_reducible assumption)) | fail))); (next => kernel_rfl)) | (go_at_call 77; refine HG.out.mono ?_; rintro e w6 ⟨rfl, c6, B6, cs6⟩; have hT6 := cs6.blk hT5 (h9b _ (by have := hN1.lt; omega)); have hN6 := cs6.blk hN5.out h9; clear hT5 cq4 hf4) | ((with_reducible show wpList _ _ _ (⟨_, .store 43 _ _, _, _, _, _⟩ :: _) _ _); refine wpList_store_blk (by rfl) 43 _ _ (by rfl) _ _ (by rfl) (by rfl) _ _ hN6 (by kernel_rfl) (by rfl) ?_ ?_; (next => first | (simp [Value.oneCell']; done) | (simp [Value.oneCell']; done) | exact Are.ordArr_one _); intro w7 hN7 hU7) | fail)
  have hN8 : Blk w7 w.heap.size 43 (less o o.qty).arr := hN7
  refine bodyPost_ret (results_ord2 rfl _ _ _ _ _ (by rfl) (by rfl) hN8 rfl) rfl ⟨rfl, c6, ?_, ?_⟩
  · exact B6.only9 (Only.upd9 hU7 ((cs6.old _ hN5.out.lt).trans h9))
  · exact ((Cs.of_below hb05).trans cs6).upd (Nat.le_refl _) hU7
theorem reduce_part {A C : List Sl} {kk : Nat} {o : Ord} (B : Bs w c b N most k (A ++ (kk, o) :: C)) {z : Int} (hz : 1 ≤ z ∧ z < o.qty) : Calls Try.prog 81 #[.pointer (some ⟨b, 0, none⟩), .int .i64 o.id, .int .i64 z] w fun e w' => e = .returned (.tuple #[.agg (less o z).arr, .int .i64 0]) ∧ ∃ c', Bs w' c' b N most k (A ++ (kk, less o z) :: C) ∧ Cs c c' w w' := by
  have hbl := B.lt
  have hN0 : Blk (w.alloc (.cells #[.int .i64 0, .int .i64 0, .int .i64 0, .int .i64 0, .int .i64 0, .int .i64 0, .int .i64 0] 43)) w.heap.size 43 #[.int .i64 0, .int .i64 0, .int .i64 0, .int .i64 0, .int .i64 0, .int .i64 0, .int .i64 0] := Blk.new _ _ _ _ rfl
  have hb0 : Below w.heap.size w (w.alloc (.cells #[.int .i64 0, .int .i64 0, .int .i64 0, .int .i64 0, .int .i64 0, .int .i64 0, .int .i64 0] 43)) := by (repeat (first | with_reducible exact Below.refl _ _ | (with_reducible assumption) | (with_reducible refine below_alloc ?_ _) | (with_reducible refine below_ext (w1 := ?_) ?_ ?_; rotate_left 2; (with_reducible assumption)) | (with_reducible refine Below.setCell ?_ ?_ _; rotate_left; ((try simp) <;> omega)) | (with_reducible refine Below.drew ?_) | (with_reducible refine below_drewN ?_ _) | fail))
  have HF := Lib.hid (find_yes (B.ext hb0) (x := (kk, o)) (by simp))
  obtain ⟨d, B, I⟩ := B
  have h9b := B.out
  have h9 := h9b _ (Nat.le_refl _)
  have hok : okO o := I.ok (kk, o) (by simp)
  have hq1 : ¬ z < 1 := by omega
  have hq2 : o.qty ≤ 4294967296 := by have := hok.2.2.1; omega
  have hq3 : ¬ o.qty < z := by omega
  have hq4 : ¬ o.qty - z = 0 := by omega
  obtain ⟨n, hsd, hn⟩ : ∃ n : Nat, o.side = (n : Int) ∧ n < 2 := ⟨o.side.toNat, by have := hok.1; omega, by have := hok.1; omega⟩
  obtain ⟨st, ls, hT, hA, hI⟩ := red_plan I hn hsd hz
  have HT := Lib.hid hT
  have HA := Lib.hid hA
  have HI := Lib.hid hI
  have HO := Lib.hid (fun W => of_yes (w := W) (b := b) (m := n) o.side hsd hn)
  have HB := Lib.hid B
  have hz1 : 1 ≤ z := hz.1
  have hz2 : z < o.qty := hz.2
  clear B hok I hT hA hI hsd hz
  have hn2 : n = 0 ∨ n = 1 := by omega
  rcases hn2 with rfl | rfl
  · go_enter Try.func81, Try.ntmps81
    go_wp2_with (first | (go_at_call 76; refine HF.out.mono ?_; rintro e w1 ⟨rfl, hb1⟩; have hN1 := hN0.ext hb1; clear hN0; have hT1 := Blk.new w1 43 #[.int .i64 0, .int .i64 0, .int .i64 0, .int .i64 0, .int .i64 0, .int .i64 0, .int .i64 0] _ rfl) | (((with_reducible show wpList _ _ _ (⟨_, .store 43 _ _, _, _, _, _⟩ :: _) _ _); refine wpList_store_blk (by rfl) 43 _ _ (by rfl) _ _ (by rfl) (by rfl) _ _ hT1 (by kernel_rfl) (by rfl) ?_ ?_; (next => first | (simp [Value.oneCell']; done) | (simp [Value.oneCell']; done) | exact Are.ordArr_one _); intro w3 hT3 hU3); have cq4 : w3.cell? ⟨w1.heap.size, 4, none⟩ = some (.int .i64 o.qty) := hT3.cell 4; have hf4 : w3.frozen? ⟨w1.heap.size, 4, none⟩ = false := hT3.frozen 4; have hb3 : Below w1.heap.size w1 w3 := below_upd (by (repeat (first | with_reducible exact Below.refl _ _ | (with_reducible assumption) | (with_reducible refine below_alloc ?_ _) | (with_reducible refine below_ext (w1 := ?_) ?_ ?_; rotate_left 2; (with_reducible assumption)) | (with_reducible refine Below.setCell ?_ ?_ _; rotate_left; ((try simp) <;> omega)) | (with_reducible refine Below.drew ?_) | (with_reducible refine below_drewN ?_ _) | fail))) (Nat.le_refl _) hU3) | fail)
    have hne : w.heap.size ≠ w1.heap.size := by have := hN1.lt; omega
    have hle : w.heap.size ≤ w1.heap.size := by have := hN1.lt; omega
    have hN5 := Lib.hid (Blk.upd (g' := w1.heap.size) ((hN1.alloc (.cells #[.int .i64 0, .int .i64 0, .int .i64 0, .int .i64 0, .int .i64 0, .int .i64 0, .int .i64 0] 43)).upd hne hU3) hne (Upd.setCell w3 ⟨w1.heap.size, 4, none⟩ (.int .i64 (o.qty - z))))
    have hT5 : Blk (w3.setCell ⟨w1.heap.size, 4, none⟩ (.int .i64 (o.qty - z))) w1.heap.size 43 (less o z).arr := by
      rw [show (less o z).arr = o.arr.setIfInBounds 4 (.int .i64 (o.qty - z)) from by simp [less, Ord.arr, Ord.cells]]
      exact hT3.setCell 4 _
    have hb05 : Below w.heap.size w (w3.setCell ⟨w1.heap.size, 4, none⟩ (.int .i64 (o.qty - z))) := below_upd (g := w1.heap.size) (below_ext (below_ext hb0 hb1) hb3) hle (Upd.setCell w3 ⟨w1.heap.size, 4, none⟩ (.int .i64 (o.qty - z)))
    generalize w3.setCell ⟨w1.heap.size, 4, none⟩ (.int .i64 (o.qty - z)) = w5 at *
    have B5 := Lib.hid (HB.out.ext hb05)
    have HT5 := Lib.hid hT5
    have e1 : w5.cell? ⟨b, 1, none⟩ = some (.pointer (some ⟨d.l 0, 0, none⟩)) := B5.out.cells.2.1
    have e2 : w5.cell? ⟨w1.heap.size, 2, none⟩ = some (.int .i64 o.side) := hT5.cell 2
    have e3 : w5.cell? ⟨w1.heap.size, 3, none⟩ = some (.int .i64 o.price) := hT5.cell 3
    have hbl5 := B5.out.lt
    have htl5 := hT5.lt
    clear hT5 hT3 cq4 hf4 hU3
    refine wp_region_below_tail 10 (by kernel_rfl) (by kernel_rfl) ?_
    simp only [List.take_succ_cons, List.take_zero, List.drop_succ_cons, List.drop_zero]
    repeat (first | go_big_quiet_skip | (go_big_quiet_want; go_big_quiet_op; go_big_quiet_on) | (refine q_load_fld (by rfl) _ _ (by rfl) (fun _ h => h) _ _ (by rfl) ?_ ?_ ?_ ?_ ?_ ?_; rotate_left; (next => (repeat (first | (with_reducible refine BlkAt.new _ _ _ _ ?_; ((try simp) <;> omega)) | (with_reducible assumption) | (with_reducible refine Blk.at (t := ?_) ?_; rotate_left; with_reducible assumption) | with_reducible refine BlkAt.alloc ?_ _ | with_reducible refine BlkAt.drew ?_ | (with_reducible refine BlkAt.setSame ?_ _ _) | (with_reducible refine BlkAt.setCell ?_ ?_ _; rotate_left; ((try simp) <;> omega)) | (with_reducible refine BlkAt.ext (w := ?_) ?_ ?_; rotate_left 2; (with_reducible assumption)) | fail))); rotate_left; (next => first | (simp only [go_sem]; rfl) | rfl); (next => kernel_rfl); (try simp only [Act.put, List.setIfInBounds_toArray, List.set_cons_zero, List.set_cons_succ])) | (refine q_rem (by rfl) _ _ _ _ (by rfl) _ _ (by rfl) (by rfl) (by kernel_rfl) (by kernel_rfl) ?_ ?_; (next => omega); (try simp only [Act.put, List.setIfInBounds_toArray, List.set_cons_zero, List.set_cons_succ])) | (refine q_step_ex (by rfl) ?_; apply Exists.intro; refine ⟨fun W hW => ?_, ?_⟩; (next => (have hWc := fun (b o : Nat) (h : b < _) => (Ext.out hW).cell (p := ⟨b, o, none⟩) h); (try have hLK := HLK.out W (Ext.out hW)); go_simp; first | rfl | (go_at_call 67; refine (HO.out _).mono ?_; rintro e w'' ⟨rfl, rfl⟩; exact ⟨rfl, hW⟩) | fail); (try simp only [Act.put, List.setIfInBounds_toArray, List.set_cons_zero, List.set_cons_succ])) | fail)
    refine wpQuiet_nil ?_
    intro w6 hb6
    go_wp2_with (first | (go_at_call 119; refine (HT.out _ _ _ _ _ (B5.out.ext hb6)).mono ?_; rintro e w7 ⟨y, rfl, v, c7, B7, cs7⟩) | fail)
    have cs57 : Cs c c7 w5 w7 := (Cs.of_below hb6).trans cs7
    have hT7 := cs57.blk HT5.out (h9b _ hle)
    have B7' := Lib.hid B7
    have f0 : w7.cell? ⟨b, 0, none⟩ = some (.pointer (some ⟨d.a, 0, none⟩)) := B7.cells.1
    have hbl7 := B7.lt
    have htl7 := hT7.lt
    clear e1 e2 e3 B5 B7 HT HO
    refine wp_region_below_tail 6 (by kernel_rfl) (by kernel_rfl) ?_
    simp only [List.take_succ_cons, List.take_zero, List.drop_succ_cons, List.drop_zero]
    repeat (first | go_big_quiet_skip | (go_big_quiet_want; go_big_quiet_op; go_big_quiet_on) | (refine q_load_blk (by rfl) 43 _ (by rfl) ?_ (.pointer (some ⟨_, 0, none⟩)) (by rfl) ?_ _ (fun _ h => h) Try.underlying43 rfl ?_ ?_; rotate_left; (next => (repeat (first | (with_reducible refine BlkAt.new _ _ _ _ ?_; ((try simp) <;> omega)) | (with_reducible assumption) | (with_reducible refine Blk.at (t := ?_) ?_; rotate_left; with_reducible assumption) | with_reducible refine BlkAt.alloc ?_ _ | with_reducible refine BlkAt.drew ?_ | (with_reducible refine BlkAt.setSame ?_ _ _) | (with_reducible refine BlkAt.setCell ?_ ?_ _; rotate_left; ((try simp) <;> omega)) | (with_reducible refine BlkAt.ext (w := ?_) ?_ ?_; rotate_left 2; (with_reducible assumption)) | fail))); (next => kernel_rfl); (try simp only [Act.put, List.setIfInBounds_toArray, List.set_cons_zero, List.set_cons_succ])) | (refine q_load_fld (by rfl) _ _ (by rfl) (fun _ h => h) _ _ (by rfl) ?_ ?_ ?_ ?_ ?_ ?_; rotate_left; (next => (repeat (first | (with_reducible refine BlkAt.new _ _ _ _ ?_; ((try simp) <;> omega)) | (with_reducible assumption) | (with_reducible refine Blk.at (t := ?_) ?_; rotate_left; with_reducible assumption) | with_reducible refine BlkAt.alloc ?_ _ | with_reducible refine BlkAt.drew ?_ | (with_reducible refine BlkAt.setSame ?_ _ _) | (with_reducible refine BlkAt.setCell ?_ ?_ _; rotate_left; ((try simp) <;> omega)) | (with_reducible refine BlkAt.ext (w := ?_) ?_ ?_; rotate_left 2; (with_reducible assumption)) | fail))); rotate_left; (next => first | (simp only [go_sem]; rfl) | rfl); (next => kernel_rfl); (try simp only [Act.put, List.setIfInBounds_toArray, List.set_cons_zero, List.set_cons_succ])) | (refine q_rem (by rfl) _ _ _ _ (by rfl) _ _ (by rfl) (by rfl) (by kernel_rfl) (by kernel_rfl) ?_ ?_; (next => omega); (try simp only [Act.put, List.setIfInBounds_toArray, List.set_cons_zero, List.set_cons_succ])) | (refine q_step_ex (by rfl) ?_; apply Exists.intro; refine ⟨fun W hW => ?_, ?_⟩; (next => (have hWc := fun (b o : Nat) (h : b < _) => (Ext.out hW).cell (p := ⟨b, o, none⟩) h); (try have hLK := HLK.out W (Ext.out hW)); go_simp; first | rfl | fail | fail); (try simp only [Act.put, List.setIfInBounds_toArray, List.set_cons_zero, List.set_cons_succ])) | fail)
    refine wpQuiet_nil ?_
    intro w8 hb8
    go_wp2_with (first | (go_at_call 122; refine (HA.out _ _ _ _ _ v (B7'.out.ext hb8)).mono ?_; rintro e w9 ⟨rfl, B9, cs9⟩; have cs59 := cs57.trans ((Cs.of_below hb8).trans cs9); have hT9 := cs59.blk HT5.out (h9b _ hle); have hN9 := cs59.blk hN5.out h9; clear hT7 f0) | ((with_reducible show wpList _ _ _ (⟨_, .load 43 _, _, _, _, _⟩ :: _) _ _); refine wpList_load_ho 43 _ (by rfl) (by rfl) ?_ (.pointer (some ⟨_, 0, none⟩)) (by rfl) ?_ _ Try.underlying43 rfl ?_ ?_; rotate_left; (next => (repeat (first | (with_reducible refine BlkAt.new _ _ _ _ ?_; ((try simp) <;> omega)) | (with_reducible assumption) | (with_reducible refine Blk.at (t := ?_) ?_; rotate_left; with_reducible assumption) | with_reducible refine BlkAt.alloc ?_ _ | with_reducible refine BlkAt.drew ?_ | (with_reducible refine BlkAt.setSame ?_ _ _) | (with_reducible refine BlkAt.setCell ?_ ?_ _; rotate_left; ((try simp) <;> omega)) | (with_reducible refine BlkAt.ext (w := ?_) ?_ ?_; rotate_left 2; (with_reducible assumption)) | fail))); (next => kernel_rfl)) | ((with_reducible show wpList _ _ _ (⟨_, .store 43 _ _, _, _, _, _⟩ :: _) _ _); refine wpList_store_blk (by rfl) 43 _ _ (by rfl) _ _ (by rfl) (by rfl) _ _ hN9 (by kernel_rfl) (by rfl) ?_ ?_; (next => first | (simp [Value.oneCell']; done) | (simp [Value.oneCell']; done) | exact Are.ordArr_one _); intro w10 hN10 hU10) | fail)
    have hN11 : Blk w10 w.heap.size 43 (less o z).arr := hN10
    refine bodyPost_ret (results_ord2 rfl _ _ _ _ _ (by rfl) (by rfl) hN11 rfl) rfl ⟨rfl, c7, ⟨_, ?_, HI.out v⟩, ?_⟩
    · rw [rr_less]
      exact B9.only9 (Only.upd9 hU10 ((cs59.old _ hN5.out.lt).trans h9))
    · exact ((Cs.of_below hb05).trans cs59).upd (Nat.le_refl _) hU10
  · go_enter Try.func81, Try.ntmps81
    go_wp2_with (first | (go_at_call 76; refine HF.out.mono ?_; rintro e w1 ⟨rfl, hb1⟩; have hN1 := hN0.ext hb1; clear hN0; have hT1 := Blk.new w1 43 #[.int .i64 0, .int .i64 0, .int .i64 0, .int .i64 0, .int .i64 0, .int .i64 0, .int .i64 0] _ rfl) | (((with_reducible show wpList _ _ _ (⟨_, .store 43 _ _, _, _, _, _⟩ :: _) _ _); refine wpList_store_blk (by rfl) 43 _ _ (by rfl) _ _ (by rfl) (by rfl) _ _ hT1 (by kernel_rfl) (by rfl) ?_ ?_; (next => first | (simp [Value.oneCell']; done) | (simp [Value.oneCell']; done) | exact Are.ordArr_one _); intro w3 hT3 hU3); have cq4 : w3.cell? ⟨w1.heap.size, 4, none⟩ = some (.int .i64 o.qty) := hT3.cell 4; have hf4 : w3.frozen? ⟨w1.heap.size, 4, none⟩ = false := hT3.frozen 4; have hb3 : Below w1.heap.size w1 w3 := below_upd (by (repeat (first | with_reducible exact Below.refl _ _ | (with_reducible assumption) | (with_reducible refine below_alloc ?_ _) | (with_reducible refine below_ext (w1 := ?_) ?_ ?_; rotate_left 2; (with_reducible assumption)) | (with_reducible refine Below.setCell ?_ ?_ _; rotate_left; ((try simp) <;> omega)) | (with_reducible refine Below.drew ?_) | (with_reducible refine below_drewN ?_ _) | fail))) (Nat.le_refl _) hU3) | fail)
    have hne : w.heap.size ≠ w1.heap.size := by have := hN1.lt; omega
    have hle : w.heap.size ≤ w1.heap.size := by have := hN1.lt; omega
    have hN5 := Lib.hid (Blk.upd (g' := w1.heap.size) ((hN1.alloc (.cells #[.int .i64 0, .int .i64 0, .int .i64 0, .int .i64 0, .int .i64 0, .int .i64 0, .int .i64 0] 43)).upd hne hU3) hne (Upd.setCell w3 ⟨w1.heap.size, 4, none⟩ (.int .i64 (o.qty - z))))
    have hT5 : Blk (w3.setCell ⟨w1.heap.size, 4, none⟩ (.int .i64 (o.qty - z))) w1.heap.size 43 (less o z).arr := by
      rw [show (less o z).arr = o.arr.setIfInBounds 4 (.int .i64 (o.qty - z)) from by simp [less, Ord.arr, Ord.cells]]
      exact hT3.setCell 4 _
    have hb05 : Below w.heap.size w (w3.setCell ⟨w1.heap.size, 4, none⟩ (.int .i64 (o.qty - z))) := below_upd (g := w1.heap.size) (below_ext (below_ext hb0 hb1) hb3) hle (Upd.setCell w3 ⟨w1.heap.size, 4, none⟩ (.int .i64 (o.qty - z)))
    generalize w3.setCell ⟨w1.heap.size, 4, none⟩ (.int .i64 (o.qty - z)) = w5 at *
    have B5 := Lib.hid (HB.out.ext hb05)
    have HT5 := Lib.hid hT5
    have e1 : w5.cell? ⟨b, 3, none⟩ = some (.pointer (some ⟨d.l 1, 0, none⟩)) := B5.out.cells.2.2.2.1
    have e2 : w5.cell? ⟨w1.heap.size, 2, none⟩ = some (.int .i64 o.side) := hT5.cell 2
    have e3 : w5.cell? ⟨w1.heap.size, 3, none⟩ = some (.int .i64 o.price) := hT5.cell 3
    have hbl5 := B5.out.lt
    have htl5 := hT5.lt
    clear hT5 hT3 cq4 hf4 hU3
    refine wp_region_below_tail 10 (by kernel_rfl) (by kernel_rfl) ?_
    simp only [List.take_succ_cons, List.take_zero, List.drop_succ_cons, List.drop_zero]
    repeat (first | go_big_quiet_skip | (go_big_quiet_want; go_big_quiet_op; go_big_quiet_on) | (refine q_load_fld (by rfl) _ _ (by rfl) (fun _ h => h) _ _ (by rfl) ?_ ?_ ?_ ?_ ?_ ?_; rotate_left; (next => (repeat (first | (with_reducible refine BlkAt.new _ _ _ _ ?_; ((try simp) <;> omega)) | (with_reducible assumption) | (with_reducible refine Blk.at (t := ?_) ?_; rotate_left; with_reducible assumption) | with_reducible refine BlkAt.alloc ?_ _ | with_reducible refine BlkAt.drew ?_ | (with_reducible refine BlkAt.setSame ?_ _ _) | (with_reducible refine BlkAt.setCell ?_ ?_ _; rotate_left; ((try simp) <;> omega)) | (with_reducible refine BlkAt.ext (w := ?_) ?_ ?_; rotate_left 2; (with_reducible assumption)) | fail))); rotate_left; (next => first | (simp only [go_sem]; rfl) | rfl); (next => kernel_rfl); (try simp only [Act.put, List.setIfInBounds_toArray, List.set_cons_zero, List.set_cons_succ])) | (refine q_rem (by rfl) _ _ _ _ (by rfl) _ _ (by rfl) (by rfl) (by kernel_rfl) (by kernel_rfl) ?_ ?_; (next => omega); (try simp only [Act.put, List.setIfInBounds_toArray, List.set_cons_zero, List.set_cons_succ])) | (refine q_step_ex (by rfl) ?_; apply Exists.intro; refine ⟨fun W hW => ?_, ?_⟩; (next => (have hWc := fun (b o : Nat) (h : b < _) => (Ext.out hW).cell (p := ⟨b, o, none⟩) h); (try have hLK := HLK.out W (Ext.out hW)); go_simp; first | rfl | (go_at_call 67; refine (HO.out _).mono ?_; rintro e w'' ⟨rfl, rfl⟩; exact ⟨rfl, hW⟩) | fail); (try simp only [Act.put, List.setIfInBounds_toArray, List.set_cons_zero, List.set_cons_succ])) | fail)
    refine wpQuiet_nil ?_
    intro w6 hb6
    go_wp2_with (first | (go_at_call 119; refine (HT.out _ _ _ _ _ (B5.out.ext hb6)).mono ?_; rintro e w7 ⟨y, rfl, v, c7, B7, cs7⟩) | fail)
    have cs57 : Cs c c7 w5 w7 := (Cs.of_below hb6).trans cs7
    have hT7 := cs57.blk HT5.out (h9b _ hle)
    have B7' := Lib.hid B7
    have f0 : w7.cell? ⟨b, 0, none⟩ = some (.pointer (some ⟨d.a, 0, none⟩)) := B7.cells.1
    have hbl7 := B7.lt
    have htl7 := hT7.lt
    clear e1 e2 e3 B5 B7 HT HO
    refine wp_region_below_tail 6 (by kernel_rfl) (by kernel_rfl) ?_
    simp only [List.take_succ_cons, List.take_zero, List.drop_succ_cons, List.drop_zero]
    repeat (first | go_big_quiet_skip | (go_big_quiet_want; go_big_quiet_op; go_big_quiet_on) | (refine q_load_blk (by rfl) 43 _ (by rfl) ?_ (.pointer (some ⟨_, 0, none⟩)) (by rfl) ?_ _ (fun _ h => h) Try.underlying43 rfl ?_ ?_; rotate_left; (next => (repeat (first | (with_reducible refine BlkAt.new _ _ _ _ ?_; ((try simp) <;> omega)) | (with_reducible assumption) | (with_reducible refine Blk.at (t := ?_) ?_; rotate_left; with_reducible assumption) | with_reducible refine BlkAt.alloc ?_ _ | with_reducible refine BlkAt.drew ?_ | (with_reducible refine BlkAt.setSame ?_ _ _) | (with_reducible refine BlkAt.setCell ?_ ?_ _; rotate_left; ((try simp) <;> omega)) | (with_reducible refine BlkAt.ext (w := ?_) ?_ ?_; rotate_left 2; (with_reducible assumption)) | fail))); (next => kernel_rfl); (try simp only [Act.put, List.setIfInBounds_toArray, List.set_cons_zero, List.set_cons_succ])) | (refine q_load_fld (by rfl) _ _ (by rfl) (fun _ h => h) _ _ (by rfl) ?_ ?_ ?_ ?_ ?_ ?_; rotate_left; (next => (repeat (first | (with_reducible refine BlkAt.new _ _ _ _ ?_; ((try simp) <;> omega)) | (with_reducible assumption) | (with_reducible refine Blk.at (t := ?_) ?_; rotate_left; with_reducible assumption) | with_reducible refine BlkAt.alloc ?_ _ | with_reducible refine BlkAt.drew ?_ | (with_reducible refine BlkAt.setSame ?_ _ _) | (with_reducible refine BlkAt.setCell ?_ ?_ _; rotate_left; ((try simp) <;> omega)) | (with_reducible refine BlkAt.ext (w := ?_) ?_ ?_; rotate_left 2; (with_reducible assumption)) | fail))); rotate_left; (next => first | (simp only [go_sem]; rfl) | rfl); (next => kernel_rfl); (try simp only [Act.put, List.setIfInBounds_toArray, List.set_cons_zero, List.set_cons_succ])) | (refine q_rem (by rfl) _ _ _ _ (by rfl) _ _ (by rfl) (by rfl) (by kernel_rfl) (by kernel_rfl) ?_ ?_; (next => omega); (try simp only [Act.put, List.setIfInBounds_toArray, List.set_cons_zero, List.set_cons_succ])) | (refine q_step_ex (by rfl) ?_; apply Exists.intro; refine ⟨fun W hW => ?_, ?_⟩; (next => (have hWc := fun (b o : Nat) (h : b < _) => (Ext.out hW).cell (p := ⟨b, o, none⟩) h); (try have hLK := HLK.out W (Ext.out hW)); go_simp; first | rfl | fail | fail); (try simp only [Act.put, List.setIfInBounds_toArray, List.set_cons_zero, List.set_cons_succ])) | fail)
    refine wpQuiet_nil ?_
    intro w8 hb8
    go_wp2_with (first | (go_at_call 122; refine (HA.out _ _ _ _ _ v (B7'.out.ext hb8)).mono ?_; rintro e w9 ⟨rfl, B9, cs9⟩; have cs59 := cs57.trans ((Cs.of_below hb8).trans cs9); have hT9 := cs59.blk HT5.out (h9b _ hle); have hN9 := cs59.blk hN5.out h9; clear hT7 f0) | ((with_reducible show wpList _ _ _ (⟨_, .load 43 _, _, _, _, _⟩ :: _) _ _); refine wpList_load_ho 43 _ (by rfl) (by rfl) ?_ (.pointer (some ⟨_, 0, none⟩)) (by rfl) ?_ _ Try.underlying43 rfl ?_ ?_; rotate_left; (next => (repeat (first | (with_reducible refine BlkAt.new _ _ _ _ ?_; ((try simp) <;> omega)) | (with_reducible assumption) | (with_reducible refine Blk.at (t := ?_) ?_; rotate_left; with_reducible assumption) | with_reducible refine BlkAt.alloc ?_ _ | with_reducible refine BlkAt.drew ?_ | (with_reducible refine BlkAt.setSame ?_ _ _) | (with_reducible refine BlkAt.setCell ?_ ?_ _; rotate_left; ((try simp) <;> omega)) | (with_reducible refine BlkAt.ext (w := ?_) ?_ ?_; rotate_left 2; (with_reducible assumption)) | fail))); (next => kernel_rfl)) | ((with_reducible show wpList _ _ _ (⟨_, .store 43 _ _, _, _, _, _⟩ :: _) _ _); refine wpList_store_blk (by rfl) 43 _ _ (by rfl) _ _ (by rfl) (by rfl) _ _ hN9 (by kernel_rfl) (by rfl) ?_ ?_; (next => first | (simp [Value.oneCell']; done) | (simp [Value.oneCell']; done) | exact Are.ordArr_one _); intro w10 hN10 hU10) | fail)
    have hN11 : Blk w10 w.heap.size 43 (less o z).arr := hN10
    refine bodyPost_ret (results_ord2 rfl _ _ _ _ _ (by rfl) (by rfl) hN11 rfl) rfl ⟨rfl, c7, ⟨_, ?_, HI.out v⟩, ?_⟩
    · rw [rr_less]
      exact B9.only9 (Only.upd9 hU10 ((cs59.old _ hN5.out.lt).trans h9))
    · exact ((Cs.of_below hb05).trans cs59).upd (Nat.le_refl _) hU10
/-- What is left of a list when something of an order is taken. -/
def rdI (id z : Int) (os : List Ord) : List Ord := os.map fun o => if o.id = id then less o z else o
def redF (id z : Int) (os : List Ord) : Int × Ord := match fndI id os with
  | none => (5, ord0)
  | some o => if z < 1 ∨ o.qty < z then (9, ord0) else (0, less o z)
def redO (id z : Int) (os : List Ord) : List Ord := match fndI id os with
  | none => os
  | some o => if z < 1 ∨ o.qty < z then os else if z = o.qty then rmI id os else rdI id z os
theorem rd_mid {A C : List Sl} {kk : Nat} {o : Ord} (z : Int) (h : ((A ++ (kk, o) :: C).map (·.2.id)).Nodup) : rdI o.id z (osOf (A ++ (kk, o) :: C)) = osOf (A ++ (kk, less o z) :: C) := by
  rw [List.map_append, List.map_cons, List.nodup_append, List.nodup_cons] at h
  obtain ⟨_, ⟨h2, _⟩, h4⟩ := h
  have keep : ∀ l : List Sl, (∀ x ∈ l, x.2.id ≠ o.id) → rdI o.id z (osOf l) = osOf l := fun l hl => by
    unfold rdI osOf
    rw [List.map_map]
    refine List.map_congr_left (fun x hx => ?_)
    simp [hl x hx]
  have hA := keep A (fun x hx e => h4 _ (List.mem_map.2 ⟨x, hx, rfl⟩) _ (by simp) e)
  have hC := keep C (fun x hx e => h2 (List.mem_map.2 ⟨x, hx, e⟩))
  have e1 : osOf (A ++ (kk, o) :: C) = osOf A ++ o :: osOf C := by simp [osOf]
  have e2 : osOf (A ++ (kk, less o z) :: C) = osOf A ++ less o z :: osOf C := by simp [osOf]
  rw [e1, e2]
  unfold rdI at *
  rw [List.map_append, hA, List.map_cons, hC]
  simp
theorem reduce_any (B : Bs w c b N most k ss) {id : Int} (z : Int) (hid : Wf id) (hk : k < 1000) : Calls Try.prog 81 #[.pointer (some ⟨b, 0, none⟩), .int .i64 id, .int .i64 z] w fun e w' => e = .returned (.tuple #[.agg (redF id z (osOf ss)).2.arr, .int .i64 (redF id z (osOf ss)).1]) ∧ ∃ c' ss', Bs w' c' b N most (k + 1) ss' ∧ osOf ss' = redO id z (osOf ss) ∧ Cs c c' w w' := by
  unfold redF redO
  rcases fnd_cases ss id with ⟨x, hx, rfl, h2⟩ | ⟨h1, h2⟩
  · rw [h2]
    by_cases hr : z < 1 ∨ x.2.qty < z
    · simp only [if_pos hr]
      refine (reduce_rng B hx z hr).mono ?_
      rintro e w' ⟨rfl, hb⟩
      exact ⟨rfl, c, ss, (B.ext hb).mono1 hk, rfl, Cs.of_below hb⟩
    · simp only [if_neg hr]
      obtain ⟨A, C, rfl⟩ := List.append_of_mem hx
      obtain ⟨kk, o⟩ := x
      have hids : ((A ++ (kk, o) :: C).map (·.2.id)).Nodup := by
        obtain ⟨d, B, I⟩ := B
        exact I.ids
      by_cases hq : z = o.qty
      · subst hq
        simp only [if_true]
        refine (reduce_all B hk).mono ?_
        rintro e w' ⟨rfl, c', h3, h4⟩
        exact ⟨rfl, c', _, h3, (rm_mid hids).symm, h4⟩
      · have hq' : ¬ z = ((kk, o) : Sl).2.qty := hq
        rw [if_neg hq']
        refine (reduce_part B (z := z) (by simp only at hr; omega)).mono ?_
        rintro e w' ⟨rfl, c', h3, h4⟩
        exact ⟨rfl, c', _, h3.mono1 hk, (rd_mid z hids).symm, h4⟩
  · rw [h2]
    refine (reduce_no B z hid h1).mono ?_
    rintro e w' ⟨rfl, hb⟩
    exact ⟨rfl, c, ss, (B.ext hb).mono1 hk, rfl, Cs.of_below hb⟩
end
end Bk
end Go.Proofs.Ytgaialcbpglhaaa
