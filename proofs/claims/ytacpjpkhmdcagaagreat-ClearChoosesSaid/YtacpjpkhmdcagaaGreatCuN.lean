/- This text proves that the statements' own example of curves stands. It has no conditions but those that it states. This text proves what a point trades and what is left over: curve.Volume, curve.Odds, and the document's. It has no conditions but those that it states. -/
import Derived.Test.YtacpjpkhmdcagaaGreatCuO
namespace Go.Proofs.YtacpjpkhmdcagaaGreat
set_option linter.unusedVariables false
open Go.RowKit
namespace Cu
set_option maxHeartbeats 1000000
set_option maxRecDepth 10000
open Bk (bkO)
def al16 : List Ord := [⟨1, 0, 0, 10, 3, 0, 0⟩, ⟨2, 0, 1, 9, 2, 0, 0⟩]
def flatO3 (l : List Ord) : List Value := (l.map Ord.cells).flatten
theorem al_wf : ∀ o ∈ al16, Idx.Wf o.id := by
  intro o ho
  simp [al16] at ho
  rcases ho with rfl | rfl <;> rfl
theorem al_9 : dem (bkO al16) 9 = 3 ∧ sup (bkO al16) 9 = 2 := ⟨rfl, rfl⟩
theorem al_10 : dem (bkO al16) 10 = 3 ∧ sup (bkO al16) 10 = 2 := ⟨rfl, rfl⟩
theorem built_p (x y z : Int) : Tryz.prog.built 67 [(0, .int .i64 x), (1, .int .i64 y), (2, .int .i64 z)] = some (Pt.mk x y z).arr := by kernel_rfl
end Cu
end Go.Proofs.YtacpjpkhmdcagaaGreat
namespace Go.Proofs.YtacpjpkhmdcagaaGreat
set_option linter.unusedVariables false
open Go.RowKit
namespace Cu
set_option maxHeartbeats 1000000
set_option maxRecDepth 10000
theorem vol_any (x : Pt) (w : World) : Calls Tryz.prog 30 #[.agg x.arr] w fun e w' => e = .returned (.int .i64 (min x.demand x.supply)) ∧ Below w.heap.size w w' := by
  have hX : Blk (w.alloc (.cells x.arr 67)) w.heap.size 67 x.arr := Blk.new _ _ _ _ rfl
  have c1 : (w.alloc (.cells x.arr 67)).cell? ⟨w.heap.size, 1, none⟩ = some (.int .i64 x.demand) := hX.cell 1
  have c2 : (w.alloc (.cells x.arr 67)).cell? ⟨w.heap.size, 2, none⟩ = some (.int .i64 x.supply) := hX.cell 2
  go_enter Tryz.func30, Tryz.ntmps30
  go_wp2_with fail
  go_ret
  exact ⟨rfl, by (repeat (first | with_reducible exact Below.refl _ _ | (with_reducible assumption) | (with_reducible refine below_alloc ?_ _) | (with_reducible refine below_ext (w1 := ?_) ?_ ?_; rotate_left 2; (with_reducible assumption)) | (with_reducible refine Below.setCell ?_ ?_ _; rotate_left; ((try simp) <;> omega)) | (with_reducible refine Below.drew ?_) | (with_reducible refine below_drewN ?_ _) | fail))⟩
theorem rvol_any (x : Pt) (w : World) : Calls Tryz.prog 36 #[.agg x.arr] w fun e w' => e = .returned (.int .i64 (min x.demand x.supply)) ∧ Below w.heap.size w w' := by
  have hX : Blk (w.alloc (.cells x.arr 72)) w.heap.size 72 x.arr := Blk.new _ _ _ _ rfl
  have c1 : (w.alloc (.cells x.arr 72)).cell? ⟨w.heap.size, 1, none⟩ = some (.int .i64 x.demand) := hX.cell 1
  have c2 : (w.alloc (.cells x.arr 72)).cell? ⟨w.heap.size, 2, none⟩ = some (.int .i64 x.supply) := hX.cell 2
  go_enter Tryz.func36, Tryz.ntmps36
  go_wp2_with fail
  go_ret
  exact ⟨rfl, by (repeat (first | with_reducible exact Below.refl _ _ | (with_reducible assumption) | (with_reducible refine below_alloc ?_ _) | (with_reducible refine below_ext (w1 := ?_) ?_ ?_; rotate_left 2; (with_reducible assumption)) | (with_reducible refine Below.setCell ?_ ?_ _; rotate_left; ((try simp) <;> omega)) | (with_reducible refine Below.drew ?_) | (with_reducible refine below_drewN ?_ _) | fail))⟩
def oddsP (x : Pt) : Int := wrap64 (max x.demand x.supply - min x.demand x.supply)
theorem rodds_any (x : Pt) (w : World) : Calls Tryz.prog 37 #[.agg x.arr] w fun e w' => e = .returned (.int .i64 (oddsP x)) ∧ Below w.heap.size w w' := by
  have hX : Blk (w.alloc (.cells x.arr 72)) w.heap.size 72 x.arr := Blk.new _ _ _ _ rfl
  have c1 : (w.alloc (.cells x.arr 72)).cell? ⟨w.heap.size, 1, none⟩ = some (.int .i64 x.demand) := hX.cell 1
  have c2 : (w.alloc (.cells x.arr 72)).cell? ⟨w.heap.size, 2, none⟩ = some (.int .i64 x.supply) := hX.cell 2
  go_enter Tryz.func37, Tryz.ntmps37
  go_wp2_with fail
  go_ret
  exact ⟨rfl, by (repeat (first | with_reducible exact Below.refl _ _ | (with_reducible assumption) | (with_reducible refine below_alloc ?_ _) | (with_reducible refine below_ext (w1 := ?_) ?_ ?_; rotate_left 2; (with_reducible assumption)) | (with_reducible refine Below.setCell ?_ ?_ _; rotate_left; ((try simp) <;> omega)) | (with_reducible refine Below.drew ?_) | (with_reducible refine below_drewN ?_ _) | fail))⟩
theorem oddsf_any (a b : Int) (w : World) : Calls Tryz.prog 64 #[.int .i64 a, .int .i64 b] w fun e w' => e = .returned (.int .i64 (wrap64 (max a b - min a b))) ∧ Below w.heap.size w w' := by
  go_enter Tryz.func64, Tryz.ntmps64
  go_wp2_with fail
  go_ret
  exact ⟨rfl, by (repeat (first | with_reducible exact Below.refl _ _ | (with_reducible assumption) | (with_reducible refine below_alloc ?_ _) | (with_reducible refine below_ext (w1 := ?_) ?_ ?_; rotate_left 2; (with_reducible assumption)) | (with_reducible refine Below.setCell ?_ ?_ _; rotate_left; ((try simp) <;> omega)) | (with_reducible refine Below.drew ?_) | (with_reducible refine below_drewN ?_ _) | fail))⟩
theorem odds_any (x : Pt) (w : World) : Calls Tryz.prog 31 #[.agg x.arr] w fun e w' => e = .returned (.int .i64 (oddsP x)) ∧ Below w.heap.size w w' := by
  have hX : Blk (w.alloc (.cells x.arr 67)) w.heap.size 67 x.arr := Blk.new _ _ _ _ rfl
  have c1 : (w.alloc (.cells x.arr 67)).cell? ⟨w.heap.size, 1, none⟩ = some (.int .i64 x.demand) := hX.cell 1
  have c2 : (w.alloc (.cells x.arr 67)).cell? ⟨w.heap.size, 2, none⟩ = some (.int .i64 x.supply) := hX.cell 2
  have hb1 : Below w.heap.size w (w.alloc (.cells x.arr 67)) := by (repeat (first | with_reducible exact Below.refl _ _ | (with_reducible assumption) | (with_reducible refine below_alloc ?_ _) | (with_reducible refine below_ext (w1 := ?_) ?_ ?_; rotate_left 2; (with_reducible assumption)) | (with_reducible refine Below.setCell ?_ ?_ _; rotate_left; ((try simp) <;> omega)) | (with_reducible refine Below.drew ?_) | (with_reducible refine below_drewN ?_ _) | fail))
  go_enter Tryz.func31, Tryz.ntmps31
  go_wp2_with fail
  refine (oddsf_any _ _ _).mono ?_
  rintro e w2 ⟨rfl, hb2⟩
  go_wp2_with fail
  go_ret
  exact ⟨rfl, below_ext hb1 hb2⟩
end Cu
end Go.Proofs.YtacpjpkhmdcagaaGreat
