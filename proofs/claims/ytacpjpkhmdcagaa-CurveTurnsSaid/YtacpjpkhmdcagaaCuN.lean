/- This text proves that the statements' own example of curves stands. It has no conditions but those that it states. This text proves what a point trades and what is left over: curve.Volume, curve.Odds, and the document's. It has no conditions but those that it states. -/
import Derived.Test.YtacpjpkhmdcagaaCuO
namespace Go.Proofs.Ytacpjpkhmdcagaa
set_option linter.unusedVariables false
open Go.RowKit
namespace Cu
set_option maxHeartbeats 1000000
set_option maxRecDepth 10000
open Bk (bkO)
def al16 : List Ord := [⟨1, 0, 0, 10, 3, 0, 0⟩, ⟨2, 0, 1, 9, 2, 0, 0⟩]
def flatO3 (l : List Ord) : List Value := (l.map Ord.cells).flatten
theorem al_wf : ∀ o ∈ al16, Idx.Wf o.id := by
  intro o ho
  simp [al16] at ho
  rcases ho with rfl | rfl <;> rfl
theorem al_9 : dem (bkO al16) 9 = 3 ∧ sup (bkO al16) 9 = 2 := ⟨rfl, rfl⟩
theorem al_10 : dem (bkO al16) 10 = 3 ∧ sup (bkO al16) 10 = 2 := ⟨rfl, rfl⟩
theorem built_p (x y z : Int) : Try.prog.built 26 [(0, .int .i64 x), (1, .int .i64 y), (2, .int .i64 z)] = some (Pt.mk x y z).arr := by kernel_rfl
theorem alive_any (w : World) : Calls Try.prog 6 #[] w fun e w' => e = .returned (.bool true) ∧ Below w.heap.size w w' := by
  have hX : Blk (w.alloc (.cells (flatO3 al16).toArray 48)) w.heap.size 48 (flatO3 al16).toArray := Blk.new _ _ _ _ rfl
  have hbX : Below w.heap.size w (w.alloc (.cells (flatO3 al16).toArray 48)) := by (repeat (first | with_reducible exact Below.refl _ _ | (with_reducible assumption) | (with_reducible refine below_alloc ?_ _) | (with_reducible refine below_ext (w1 := ?_) ?_ ?_; rotate_left 2; (with_reducible assumption)) | (with_reducible refine Below.setCell ?_ ?_ _; rotate_left; ((try simp) <;> omega)) | (with_reducible refine Below.drew ?_) | (with_reducible refine below_drewN ?_ _) | fail))
  have HB := Lib.hid (Bk.books_any al16 al_wf (some ⟨w.heap.size, 0, none⟩) 2 _ (rd_own hX (by simp [al16, Ord.cells]) (n := 2) (by simp [flatO3, al16, Ord.cells])) (by decide))
  go_enter Try.func6, Try.ntmps6
  go_wp2_with fail
  refine HB.out.mono ?_
  rintro e w1 ⟨b, rb, c, ss, A, cap, rfl, W1⟩
  have HOF := Lib.hid (of_any W1.two.bs)
  rw [W1.os] at HOF
  have hb1 := below_ext hbX W1.below
  clear W1 hX hbX HB
  go_wp2_with fail
  refine HOF.out.mono ?_
  rintro e w2 ⟨cb, l, A2, cap2, rfl, C2, AL, _, hb2⟩
  have HA9 := Lib.hid (at_any C2 AL 9)
  have HA10 := Lib.hid (fun W (hW : Below w2.heap.size w2 W) => at_any (C2.ext hW) AL 10)
  rw [al_9.1, al_9.2] at HA9
  rw [al_10.1, al_10.2] at HA10
  clear C2 AL HOF
  go_wp2_with fail
  refine HA9.out.mono ?_
  rintro e w3 ⟨rfl, hb3⟩
  go_wp2_with (first | ((with_reducible show wpList _ _ _ (⟨_, .build _ _, _, _, _, _⟩ :: _) _ _); refine wpList_build_is (by rfl) _ _ (by rfl) ?_ ?_ ?_; rotate_left; (next => simp only [List.map_toArray, List.map_cons, List.map_nil, go_sem]; exact built_p ..)) | fail)
  refine (HA10.out _ hb3).mono ?_
  rintro e w4 ⟨rfl, hb4⟩
  go_wp2_with (first | ((with_reducible show wpList _ _ _ (⟨_, .build _ _, _, _, _, _⟩ :: _) _ _); refine wpList_build_is (by rfl) _ _ (by rfl) ?_ ?_ ?_; rotate_left; (next => simp only [List.map_toArray, List.map_cons, List.map_nil, go_sem]; exact built_p ..)) | fail)
  go_ret
  exact ⟨rfl, below_ext hb1 (below_ext hb2 (below_ext hb3 hb4))⟩
end Cu
end Go.Proofs.Ytacpjpkhmdcagaa
namespace Go.Proofs.Ytacpjpkhmdcagaa
set_option linter.unusedVariables false
open Go.RowKit
namespace Cu
set_option maxHeartbeats 1000000
set_option maxRecDepth 10000
theorem vol_any (x : Pt) (w : World) : Calls Try.prog 7 #[.agg x.arr] w fun e w' => e = .returned (.int .i64 (min x.demand x.supply)) ∧ Below w.heap.size w w' := by
  have hX : Blk (w.alloc (.cells x.arr 26)) w.heap.size 26 x.arr := Blk.new _ _ _ _ rfl
  have c1 : (w.alloc (.cells x.arr 26)).cell? ⟨w.heap.size, 1, none⟩ = some (.int .i64 x.demand) := hX.cell 1
  have c2 : (w.alloc (.cells x.arr 26)).cell? ⟨w.heap.size, 2, none⟩ = some (.int .i64 x.supply) := hX.cell 2
  go_enter Try.func7, Try.ntmps7
  go_wp2_with fail
  go_ret
  exact ⟨rfl, by (repeat (first | with_reducible exact Below.refl _ _ | (with_reducible assumption) | (with_reducible refine below_alloc ?_ _) | (with_reducible refine below_ext (w1 := ?_) ?_ ?_; rotate_left 2; (with_reducible assumption)) | (with_reducible refine Below.setCell ?_ ?_ _; rotate_left; ((try simp) <;> omega)) | (with_reducible refine Below.drew ?_) | (with_reducible refine below_drewN ?_ _) | fail))⟩
theorem rvol_any (x : Pt) (w : World) : Calls Try.prog 9 #[.agg x.arr] w fun e w' => e = .returned (.int .i64 (min x.demand x.supply)) ∧ Below w.heap.size w w' := by
  have hX : Blk (w.alloc (.cells x.arr 24)) w.heap.size 24 x.arr := Blk.new _ _ _ _ rfl
  have c1 : (w.alloc (.cells x.arr 24)).cell? ⟨w.heap.size, 1, none⟩ = some (.int .i64 x.demand) := hX.cell 1
  have c2 : (w.alloc (.cells x.arr 24)).cell? ⟨w.heap.size, 2, none⟩ = some (.int .i64 x.supply) := hX.cell 2
  go_enter Try.func9, Try.ntmps9
  go_wp2_with fail
  go_ret
  exact ⟨rfl, by (repeat (first | with_reducible exact Below.refl _ _ | (with_reducible assumption) | (with_reducible refine below_alloc ?_ _) | (with_reducible refine below_ext (w1 := ?_) ?_ ?_; rotate_left 2; (with_reducible assumption)) | (with_reducible refine Below.setCell ?_ ?_ _; rotate_left; ((try simp) <;> omega)) | (with_reducible refine Below.drew ?_) | (with_reducible refine below_drewN ?_ _) | fail))⟩
def oddsP (x : Pt) : Int := wrap64 (max x.demand x.supply - min x.demand x.supply)
theorem rodds_any (x : Pt) (w : World) : Calls Try.prog 11 #[.agg x.arr] w fun e w' => e = .returned (.int .i64 (oddsP x)) ∧ Below w.heap.size w w' := by
  have hX : Blk (w.alloc (.cells x.arr 24)) w.heap.size 24 x.arr := Blk.new _ _ _ _ rfl
  have c1 : (w.alloc (.cells x.arr 24)).cell? ⟨w.heap.size, 1, none⟩ = some (.int .i64 x.demand) := hX.cell 1
  have c2 : (w.alloc (.cells x.arr 24)).cell? ⟨w.heap.size, 2, none⟩ = some (.int .i64 x.supply) := hX.cell 2
  go_enter Try.func11, Try.ntmps11
  go_wp2_with fail
  go_ret
  exact ⟨rfl, by (repeat (first | with_reducible exact Below.refl _ _ | (with_reducible assumption) | (with_reducible refine below_alloc ?_ _) | (with_reducible refine below_ext (w1 := ?_) ?_ ?_; rotate_left 2; (with_reducible assumption)) | (with_reducible refine Below.setCell ?_ ?_ _; rotate_left; ((try simp) <;> omega)) | (with_reducible refine Below.drew ?_) | (with_reducible refine below_drewN ?_ _) | fail))⟩
theorem oddsf_any (a b : Int) (w : World) : Calls Try.prog 19 #[.int .i64 a, .int .i64 b] w fun e w' => e = .returned (.int .i64 (wrap64 (max a b - min a b))) ∧ Below w.heap.size w w' := by
  go_enter Try.func19, Try.ntmps19
  go_wp2_with fail
  go_ret
  exact ⟨rfl, by (repeat (first | with_reducible exact Below.refl _ _ | (with_reducible assumption) | (with_reducible refine below_alloc ?_ _) | (with_reducible refine below_ext (w1 := ?_) ?_ ?_; rotate_left 2; (with_reducible assumption)) | (with_reducible refine Below.setCell ?_ ?_ _; rotate_left; ((try simp) <;> omega)) | (with_reducible refine Below.drew ?_) | (with_reducible refine below_drewN ?_ _) | fail))⟩
theorem odds_any (x : Pt) (w : World) : Calls Try.prog 10 #[.agg x.arr] w fun e w' => e = .returned (.int .i64 (oddsP x)) ∧ Below w.heap.size w w' := by
  have hX : Blk (w.alloc (.cells x.arr 26)) w.heap.size 26 x.arr := Blk.new _ _ _ _ rfl
  have c1 : (w.alloc (.cells x.arr 26)).cell? ⟨w.heap.size, 1, none⟩ = some (.int .i64 x.demand) := hX.cell 1
  have c2 : (w.alloc (.cells x.arr 26)).cell? ⟨w.heap.size, 2, none⟩ = some (.int .i64 x.supply) := hX.cell 2
  have hb1 : Below w.heap.size w (w.alloc (.cells x.arr 26)) := by (repeat (first | with_reducible exact Below.refl _ _ | (with_reducible assumption) | (with_reducible refine below_alloc ?_ _) | (with_reducible refine below_ext (w1 := ?_) ?_ ?_; rotate_left 2; (with_reducible assumption)) | (with_reducible refine Below.setCell ?_ ?_ _; rotate_left; ((try simp) <;> omega)) | (with_reducible refine Below.drew ?_) | (with_reducible refine below_drewN ?_ _) | fail))
  go_enter Try.func10, Try.ntmps10
  go_wp2_with fail
  refine (oddsf_any _ _ _).mono ?_
  rintro e w2 ⟨rfl, hb2⟩
  go_wp2_with fail
  go_ret
  exact ⟨rfl, below_ext hb1 hb2⟩
theorem own_any (x : Pt) (w : World) : Calls Try.prog 8 #[.agg x.arr] w fun e w' => e = .returned (.agg x.arr) ∧ Below w.heap.size w w' := by
  have hX : Blk (w.alloc (.cells x.arr 24)) w.heap.size 24 x.arr := Blk.new _ _ _ _ rfl
  have c0 : (w.alloc (.cells x.arr 24)).cell? ⟨w.heap.size, 0, none⟩ = some (.int .i64 x.price) := hX.cell 0
  have hR : Blk ((w.alloc (.cells x.arr 24)).alloc (.cells #[.int .i64 0, .int .i64 0, .int .i64 0] 26)) (w.heap.size + 1) 26 #[.int .i64 0, .int .i64 0, .int .i64 0] := Blk.new _ _ _ _ (sz_alloc _ _)
  have hb0 : Below w.heap.size w ((w.alloc (.cells x.arr 24)).alloc (.cells #[.int .i64 0, .int .i64 0, .int .i64 0] 26)) := by (repeat (first | with_reducible exact Below.refl _ _ | (with_reducible assumption) | (with_reducible refine below_alloc ?_ _) | (with_reducible refine below_ext (w1 := ?_) ?_ ?_; rotate_left 2; (with_reducible assumption)) | (with_reducible refine Below.setCell ?_ ?_ _; rotate_left; ((try simp) <;> omega)) | (with_reducible refine Below.drew ?_) | (with_reducible refine below_drewN ?_ _) | fail))
  go_enter Try.func8, Try.ntmps8
  go_wp2_with (first | ((with_reducible show wpList _ _ _ (⟨_, .build _ _, _, _, _, _⟩ :: _) _ _); refine wpList_build_is (by rfl) _ _ (by rfl) ?_ ?_ ?_; rotate_left; (next => simp only [List.map_toArray, List.map_cons, List.map_nil, go_sem]; exact built_p ..)) | ((with_reducible show wpList _ _ _ (⟨_, .store 26 _ _, _, _, _, _⟩ :: _) _ _); refine wpList_store_blk (by rfl) 26 _ _ (by rfl) _ _ (by rfl) (by rfl) _ _ hR (by kernel_rfl) (by rfl) ?_ ?_; (next => exact pt_one ..); intro w3 hR3 hU3) | fail)
  refine bodyPost_ret (results_pt rfl _ _ (w.heap.size + 1) x.arr (by rfl) hR3 rfl) rfl ⟨rfl, below_upd hb0 (Nat.le_succ _) hU3⟩
end Cu
end Go.Proofs.Ytacpjpkhmdcagaa
