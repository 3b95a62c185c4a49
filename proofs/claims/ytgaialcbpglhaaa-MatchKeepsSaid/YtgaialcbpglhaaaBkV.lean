/- This text proves that damperlaw13's alive is true, and which price is better. It has no conditions but those that it states. -/
import Derived.Test.YtgaialcbpglhaaaBkRd
namespace Go.Proofs.Ytgaialcbpglhaaa
set_option linter.unusedVariables false
open Go.RowKit
namespace Bk
set_option maxHeartbeats 1000000
set_option maxRecDepth 10000
open Are (ord0)
open Idx (Wf)
theorem better_any (n x y : Int) (w : World) : Calls Try.prog 28 #[.int .i64 n, .int .i64 x, .int .i64 y] w fun e w' => e = .returned (.bool (bet n x y)) ∧ w = w' := by
  unfold bet
  by_cases h0 : n = 0
  · subst h0
    go_enter Try.func28, Try.ntmps28
    go_wp2_with fail
    go_ret
    exact ⟨by simp, rfl⟩
  · by_cases h1 : n = 1
    · subst h1
      go_enter Try.func28, Try.ntmps28
      go_wp2_with fail
      go_ret
      exact ⟨by simp, rfl⟩
    · have e0 : (n == 0) = false := by simpa using h0
      have e1 : (n == 1) = false := by simpa using h1
      go_enter Try.func28, Try.ntmps28
      go_wp2_with fail
      go_ret
      exact ⟨by simp [h0, h1], rfl⟩
theorem rbetter_any (n x y : Int) (w : World) : Calls Try.prog 93 #[.int .i64 n, .int .i64 x, .int .i64 y] w fun e w' => e = .returned (.bool (bet n x y)) ∧ w = w' := by
  unfold bet
  by_cases h0 : n = 0
  · subst h0
    by_cases h : y < x
    · go_enter Try.func93, Try.ntmps93
      go_wp2_with fail
      go_ret
      exact ⟨by simp [h], rfl⟩
    · go_enter Try.func93, Try.ntmps93
      go_wp2_with fail
      go_ret
      exact ⟨by simp [h], rfl⟩
  · have e0 : (n == 0) = false := by simpa using h0
    by_cases h1 : n = 1
    · subst h1
      go_enter Try.func93, Try.ntmps93
      go_wp2_with fail
      go_ret
      exact ⟨by simp, rfl⟩
    · have e1 : (n == 1) = false := by simpa using h1
      go_enter Try.func93, Try.ntmps93
      go_wp2_with fail
      go_ret
      exact ⟨by simp [h0, h1], rfl⟩
end Bk
end Go.Proofs.Ytgaialcbpglhaaa
