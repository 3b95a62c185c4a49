/- This text proves how the bits of a ladder's used queues turn: plain laws. It has no conditions but those that it states. -/
import Derived.Test.YtdhbioaoholcbaaLadT
namespace Go.Proofs.Ytdhbioaoholcbaa
set_option linter.unusedVariables false
namespace Lad
theorem clr_bit (n r j : Nat) (hn : n < 2 ^ 64) (hr : r < 64) : (clr n r).testBit j = (n.testBit j && decide (j ≠ r)) := by
  have h2 : 2 ^ r < 2 ^ 64 := Nat.pow_lt_pow_right (by decide) hr
  have e : 18446744073709551615 - 2 ^ r = 2 ^ 64 - (2 ^ r + 1) := by omega
  unfold clr
  rw [Nat.testBit_and, e, Nat.testBit_two_pow_sub_succ h2, Nat.testBit_two_pow]
  by_cases hj : j < 64
  · by_cases hjr : j = r
    · subst hjr; simp
    · have : ¬ r = j := fun e => hjr e.symm
      simp [hj, hjr, this]
  · have h3 : n.testBit j = false := Nat.testBit_lt_two_pow (Nat.lt_of_lt_of_le hn (Nat.pow_le_pow_right (by decide) (by omega)))
    rw [h3]; simp
theorem clr_lt (n r : Nat) (hn : n < 2 ^ 64) : clr n r < 2 ^ 64 := by
  unfold clr
  exact Nat.lt_of_le_of_lt Nat.and_le_left hn
theorem clrU_lt {u : Nat → Nat} (hu : ∀ j, j < 4 → u j < 2 ^ 64) (q : Nat) : ∀ j, j < 4 → clrU u q j < 2 ^ 64 := by
  intro j hj
  unfold clrU
  split
  · exact clr_lt _ _ (hu j hj)
  · exact hu j hj
theorem setU_lt {u : Nat → Nat} (hu : ∀ j, j < 4 → u j < 2 ^ 64) (q : Nat) : ∀ j, j < 4 → setU u q j < 2 ^ 64 := by
  intro j hj
  unfold setU
  split
  · exact Nat.or_lt_two_pow (hu j hj) (Nat.pow_lt_pow_right (by decide) (Nat.mod_lt _ (by decide)))
  · exact hu j hj
theorem busy_clr {u : Nat → Nat} (hu : ∀ j, j < 4 → u j < 2 ^ 64) (q j : Nat) (hj : j < 256) : busy (clrU u q) j = (busy u j && decide (j ≠ q)) := by
  unfold busy clrU
  by_cases h : j / 64 = q / 64
  · rw [if_pos h, clr_bit _ _ _ (hu _ (by omega)) (Nat.mod_lt _ (by decide))]
    have : (j % 64 ≠ q % 64) ↔ (j ≠ q) := by omega
    simp only [this]
  · rw [if_neg h]
    have : j ≠ q := fun e => h (by rw [e])
    simp [this]
theorem busy_set {u : Nat → Nat} (q j : Nat) : busy (setU u q) j = (busy u j || decide (j = q)) := by
  unfold busy setU
  by_cases h : j / 64 = q / 64
  · rw [if_pos h, Nat.testBit_or, Nat.testBit_two_pow]
    have : (q % 64 = j % 64) ↔ (j = q) := by omega
    simp only [this]
  · rw [if_neg h]
    have : j ≠ q := fun e => h (by rw [e])
    simp [this]
end Lad
end Go.Proofs.Ytdhbioaoholcbaa
