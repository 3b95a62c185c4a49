/- This text proves what the document's Better answers, and how keys and prices stand to each other. It has no conditions but those that it states. -/
import Derived.Test.YtdhbioaoholcbaaLadB
namespace Go.Proofs.Ytdhbioaoholcbaa
set_option linter.unusedVariables false
open Go.RowKit
namespace Lad
set_option maxHeartbeats 1000000
set_option maxRecDepth 10000
theorem key_inj {side a b : Int} (hs : side = 0 ∨ side = 1) (ha : 1 ≤ a ∧ a ≤ 4611686018427387904) (hb : 1 ≤ b ∧ b ≤ 4611686018427387904) (h : keyF side a = keyF side b) : a = b := by
  rcases hs with rfl | rfl
  · have hk : ∀ x : Int, 1 ≤ x ∧ x ≤ 4611686018427387904 → keyF 0 x = -x := fun x hx => by
      unfold keyF
      rw [if_pos rfl]
      unfold wrap64
      omega
    rw [hk a ha, hk b hb] at h
    omega
  · unfold keyF at h
    rw [if_neg (by decide), if_neg (by decide)] at h
    exact h
end Lad
end Go.Proofs.Ytdhbioaoholcbaa
