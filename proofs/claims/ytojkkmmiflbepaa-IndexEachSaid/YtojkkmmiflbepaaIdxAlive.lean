/- This text proves that damperlaw12's alive is true. It has no conditions. -/
import Derived.Test.YtojkkmmiflbepaaIndex
namespace Go.Proofs.Ytojkkmmiflbepaa
set_option linter.unusedVariables false
open Go.RowKit Go.Maps
namespace Idx
set_option maxHeartbeats 1000000
set_option maxRecDepth 10000
theorem wfc {n : Int} (h : -9223372036854775808 ≤ n ∧ n ≤ 9223372036854775807) : Wf n := WalkArith.wf_i64 h
theorem alive_any (w : World) : Calls Try.prog 4 #[] w fun e w' => e = .returned (.bool true) ∧ Below w.heap.size w w' := by
  have hw0 : Wf 0 := wfc (by omega)
  have hw5 : Wf 5 := wfc (by omega)
  have hw3 : Wf 3 := wfc (by omega)
  have hw1 : Wf 1 := wfc (by omega)
  go_enter Try.func4, Try.ntmps4
  go_wp2_with fail
  refine (new_any _).mono ?_
  rintro e w1 ⟨xb, bs, bm, rfl, hlo, x1, hb1⟩
  have hz1 := hb1.size
  go_wp2_with fail
  refine (put_new x1 (s := 0) (i := 5) (v := 3) hw0 hw5 hw3 rfl (by omega)).mono ?_
  rintro e w2 ⟨rfl, x2, hu2⟩
  have hb2 : Below w.heap.size w w2 := hb1.trans (hu2.below (by simp; omega) hz1)
  replace x2 : Xq w2 xb bs bm 1 [⟨0, 5, 3⟩] := x2
  have l1 : look [⟨0, 5, 3⟩] 0 5 = some ⟨0, 5, 3⟩ := rfl
  have l2 : look [⟨0, 5, 3⟩] 1 5 = none := rfl
  have l3 : cntS [⟨0, 5, 3⟩] 0 = 1 := rfl
  have G3 := Lib.hid (fun W (hW : Below w2.heap.size w2 W) => get_any (x2.ext hW) (s := 0) (i := 5) hw0 hw5)
  have G4 := Lib.hid (fun W (hW : Below w2.heap.size w2 W) => get_any (x2.ext hW) (s := 1) (i := 5) hw1 hw5)
  have G5 := Lib.hid (fun W (hW : Below w2.heap.size w2 W) => len_any (x2.ext hW) hw0)
  rw [l1] at G3
  rw [l2] at G4
  rw [l3] at G5
  clear l1 l2 l3
  go_wp2_with fail
  refine (G3.out _ (Below.refl _ _)).mono ?_
  rintro e w3 ⟨rfl, hb3⟩
  go_wp2_with fail
  refine (G4.out _ hb3).mono ?_
  rintro e w4 ⟨rfl, hb4⟩
  have hb24 := below_ext hb3 hb4
  go_wp2_with (first | (go_at_call 11; refine (G5.out _ hb24).mono ?_; rintro e w5 ⟨rfl, rfl⟩) | fail)
  go_ret
  exact ⟨rfl, below_ext hb2 hb24⟩
end Idx
end Go.Proofs.Ytojkkmmiflbepaa
