/- This text proves that damperlaw13's alive is true, and which price is better. It has no conditions but those that it states. -/
import Derived.Test.YtdhbioaoholcbaaBkRd
namespace Go.Proofs.Ytdhbioaoholcbaa
set_option linter.unusedVariables false
open Go.RowKit
namespace Bk
set_option maxHeartbeats 1000000
set_option maxRecDepth 10000
open Are (ord0)
open Idx (Wf)
theorem better_any (n x y : Int) (w : World) : Calls Try.prog 11 #[.int .i64 n, .int .i64 x, .int .i64 y] w fun e w' => e = .returned (.bool (bet n x y)) ∧ w = w' := by
  unfold bet
  by_cases h0 : n = 0
  · subst h0
    go_enter Try.func11, Try.ntmps11
    go_wp2_with fail
    go_ret
    exact ⟨by simp, rfl⟩
  · by_cases h1 : n = 1
    · subst h1
      go_enter Try.func11, Try.ntmps11
      go_wp2_with fail
      go_ret
      exact ⟨by simp, rfl⟩
    · have e0 : (n == 0) = false := by simpa using h0
      have e1 : (n == 1) = false := by simpa using h1
      go_enter Try.func11, Try.ntmps11
      go_wp2_with fail
      go_ret
      exact ⟨by simp [h0, h1], rfl⟩
theorem rbetter_any (n x y : Int) (w : World) : Calls Try.prog 27 #[.int .i64 n, .int .i64 x, .int .i64 y] w fun e w' => e = .returned (.bool (bet n x y)) ∧ w = w' := by
  unfold bet
  by_cases h0 : n = 0
  · subst h0
    by_cases h : y < x
    · go_enter Try.func27, Try.ntmps27
      go_wp2_with fail
      go_ret
      exact ⟨by simp [h], rfl⟩
    · go_enter Try.func27, Try.ntmps27
      go_wp2_with fail
      go_ret
      exact ⟨by simp [h], rfl⟩
  · have e0 : (n == 0) = false := by simpa using h0
    by_cases h1 : n = 1
    · subst h1
      go_enter Try.func27, Try.ntmps27
      go_wp2_with fail
      go_ret
      exact ⟨by simp, rfl⟩
    · have e1 : (n == 1) = false := by simpa using h1
      go_enter Try.func27, Try.ntmps27
      go_wp2_with fail
      go_ret
      exact ⟨by simp [h0, h1], rfl⟩
theorem alive_any (w : World) : Calls Try.prog 7 #[] w fun e w' => e = .returned (.bool true) ∧ Below w.heap.size w w' := by
  go_enter Try.func7, Try.ntmps7
  go_wp2_with fail
  refine (new_ok 5 3 _ (by omega) (by omega)).mono ?_
  rintro e w1 ⟨b, c1, rfl, B1, hb1, h9⟩
  go_wp2_with fail
  refine (add_any B1 ⟨1, 0, 0, 10, 1, 0, 0⟩ rfl (by omega)).mono ?_
  rintro e w2 ⟨he, c2, s2, B2, h2, cs2⟩
  rw [show addF 5 3 (osOf []) ⟨1, 0, 0, 10, 1, 0, 0⟩ = 0 from by decide] at he
  rw [show addO 5 3 (osOf []) ⟨1, 0, 0, 10, 1, 0, 0⟩ = [⟨1, 0, 0, 10, 1, 0, 0⟩] from rfl] at h2
  subst he
  go_wp2_with fail
  refine (add_any B2 ⟨2, 0, 0, 12, 1, 0, 0⟩ rfl (by omega)).mono ?_
  rintro e w3 ⟨he, c3, s3, B3, h3, cs3⟩
  rw [h2] at he h3
  rw [show addF 5 3 [⟨1, 0, 0, 10, 1, 0, 0⟩] ⟨2, 0, 0, 12, 1, 0, 0⟩ = 0 from by decide] at he
  rw [show addO 5 3 [⟨1, 0, 0, 10, 1, 0, 0⟩] ⟨2, 0, 0, 12, 1, 0, 0⟩ = [⟨1, 0, 0, 10, 1, 0, 0⟩, ⟨2, 0, 0, 12, 1, 0, 0⟩] from rfl] at h3
  subst he
  clear h2
  go_wp2_with fail
  refine (add_any B3 ⟨3, 0, 0, 12, 1, 0, 0⟩ rfl (by omega)).mono ?_
  rintro e w4 ⟨he, c4, s4, B4, h4, cs4⟩
  rw [h3] at he h4
  rw [show addF 5 3 [⟨1, 0, 0, 10, 1, 0, 0⟩, ⟨2, 0, 0, 12, 1, 0, 0⟩] ⟨3, 0, 0, 12, 1, 0, 0⟩ = 0 from by decide] at he
  rw [show addO 5 3 [⟨1, 0, 0, 10, 1, 0, 0⟩, ⟨2, 0, 0, 12, 1, 0, 0⟩] ⟨3, 0, 0, 12, 1, 0, 0⟩ = [⟨1, 0, 0, 10, 1, 0, 0⟩, ⟨2, 0, 0, 12, 1, 0, 0⟩, ⟨3, 0, 0, 12, 1, 0, 0⟩] from rfl] at h4
  subst he
  clear h3
  have HF := Lib.hid (front_any B4 0)
  have HW := Lib.hid (fun W (hW : Below w4.heap.size w4 W) => worth_any (B4.ext hW) 0 11 (by omega))
  rw [h4] at HF HW
  rw [show frontO 0 [⟨1, 0, 0, 10, 1, 0, 0⟩, ⟨2, 0, 0, 12, 1, 0, 0⟩, ⟨3, 0, 0, 12, 1, 0, 0⟩] = some ⟨2, 0, 0, 12, 1, 0, 0⟩ from rfl] at HF
  rw [show worthB 0 11 [⟨1, 0, 0, 10, 1, 0, 0⟩, ⟨2, 0, 0, 12, 1, 0, 0⟩, ⟨3, 0, 0, 12, 1, 0, 0⟩] = 2 from rfl] at HW
  clear h4
  have cs : Cs c1 c4 w1 w4 := (cs2.trans cs3).trans cs4
  have hbw : Below w.heap.size w w4 := hb1.trans (cs.below hb1.size h9)
  clear cs2 cs3 cs4 B1 B2 B3
  go_wp2_with (first | (go_at_call 10; refine HF.out.mono ?_; rintro e w5 ⟨rfl, hb5⟩; have hT := Blk.new w5 30 #[.int .i64 0, .int .i64 0, .int .i64 0, .int .i64 0, .int .i64 0, .int .i64 0, .int .i64 0] _ rfl) | (((with_reducible show wpList _ _ _ (⟨_, .store 30 _ _, _, _, _, _⟩ :: _) _ _); refine wpList_store_blk (by rfl) 30 _ _ (by rfl) _ _ (by rfl) (by rfl) _ _ hT (by kernel_rfl) (by rfl) ?_ ?_; (next => first | (simp [Value.oneCell']; done) | (simp [Value.oneCell', Edt.cells]; done) | exact Are.ordArr_one _); intro w6 hT6 hU6); have hb6 : Below w5.heap.size w5 w6 := below_upd (by (repeat (first | with_reducible exact Below.refl _ _ | (with_reducible assumption) | (with_reducible refine below_alloc ?_ _) | (with_reducible refine below_ext (w1 := ?_) ?_ ?_; rotate_left 2; (with_reducible assumption)) | (with_reducible refine Below.setCell ?_ ?_ _; rotate_left; ((try simp) <;> omega)) | (with_reducible refine Below.drew ?_) | (with_reducible refine below_drewN ?_ _) | fail))) (Nat.le_refl _) hU6; have cq : w6.cell? ⟨w5.heap.size, 0, none⟩ = some (.int .i64 2) := hT6.cell 0; have hb46 := below_ext hb5 hb6) | (go_at_call 23; refine (HW.out _ hb46).mono ?_; rintro e w7 ⟨rfl, hb7⟩) | fail)
  go_ret
  exact ⟨rfl, below_ext hbw (below_ext hb46 hb7)⟩
end Bk
end Go.Proofs.Ytdhbioaoholcbaa
