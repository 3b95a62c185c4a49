/- This text proves what the document's Better answers, and how keys and prices stand to each other. It has no conditions but those that it states. -/
import Derived.Test.YtbhidcfhpkljbaaLadB
namespace Go.Proofs.Ytbhidcfhpkljbaa
set_option linter.unusedVariables false
open Go.RowKit
namespace Lad
set_option maxHeartbeats 1000000
set_option maxRecDepth 10000
theorem better_any (side a b : Int) (w : World) (hs : side = 0 ∨ side = 1) (ha : 1 ≤ a ∧ a ≤ 4611686018427387904) (hb : 1 ≤ b ∧ b ≤ 4611686018427387904) :
    Calls Try.prog 9 #[.int .i64 side, .int .i64 a, .int .i64 b] w fun e w' => e = .returned (.bool (decide (keyF side a < keyF side b))) ∧ w = w' := by
  rcases hs with rfl | rfl
  · have hk : ∀ x : Int, 1 ≤ x ∧ x ≤ 4611686018427387904 → keyF 0 x = -x := fun x hx => by
      unfold keyF
      rw [if_pos rfl]
      unfold wrap64
      omega
    have e : decide (keyF 0 a < keyF 0 b) = decide (b < a) := by rw [hk a ha, hk b hb]; exact decide_eq_decide.2 (by omega)
    have E := Lib.hid e
    clear e hk
    go_enter Try.func9, Try.ntmps9
    go_wp2_with fail
    go_ret
    exact ⟨by rw [E.out]; rfl, rfl⟩
  · have e : decide (keyF 1 a < keyF 1 b) = decide (a < b) := by unfold keyF; rw [if_neg (by decide), if_neg (by decide)]
    have E := Lib.hid e
    clear e
    go_enter Try.func9, Try.ntmps9
    go_wp2_with fail
    go_ret
    exact ⟨by rw [E.out]; rfl, rfl⟩
theorem key_inj {side a b : Int} (hs : side = 0 ∨ side = 1) (ha : 1 ≤ a ∧ a ≤ 4611686018427387904) (hb : 1 ≤ b ∧ b ≤ 4611686018427387904) (h : keyF side a = keyF side b) : a = b := by
  rcases hs with rfl | rfl
  · have hk : ∀ x : Int, 1 ≤ x ∧ x ≤ 4611686018427387904 → keyF 0 x = -x := fun x hx => by
      unfold keyF
      rw [if_pos rfl]
      unfold wrap64
      omega
    rw [hk a ha, hk b hb] at h
    omega
  · unfold keyF at h
    rw [if_neg (by decide), if_neg (by decide)] at h
    exact h
end Lad
end Go.Proofs.Ytbhidcfhpkljbaa
