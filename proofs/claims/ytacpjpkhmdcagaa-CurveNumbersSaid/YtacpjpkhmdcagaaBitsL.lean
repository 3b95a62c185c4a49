/- This text proves plain lemmas about numbers as rows of 128 bits: how a bit is set, and what sums, shifts and products are, bit by bit. It has no conditions but those that they state. -/
import Derived.Test.YtacpjpkhmdcagaaQuiet
import Derived.Laws.Bits64
import Derived.Laws.Bits64b
namespace Go.Proofs.Ytacpjpkhmdcagaa
set_option linter.unusedVariables false
open Go.RowKit
namespace Bit
/-- The row of a number's bits, the lowest first. -/
def arr (n : Nat) : Array Value := Array.ofFn (n := 128) fun i => .bool (n.testBit i.val)
theorem arr_size (n : Nat) : (arr n).size = 128 := by simp [arr]
attribute [irreducible] arr
attribute [go_sem] arr_size
/-! ### Of -/
/-! ### bits of words -/
theorem and_one (n k : Nat) (hn : n < 2 ^ 64) : (bits .and .u64 ((n : Int) / 2 ^ k) 1 == 1) = n.testBit k := by
  have e : ((n : Int) / 2 ^ k) = ((n / 2 ^ k : Nat) : Int) := by simp
  have h1 : n / 2 ^ k < 18446744073709551616 := Nat.lt_of_le_of_lt (Nat.div_le_self _ _) hn
  have h2 := bits_and_u64_nat (n / 2 ^ k) 1 h1 (by decide)
  rw [e, show (1 : Int) = ((1 : Nat) : Int) from rfl, h2, Nat.and_one_is_mod, Nat.testBit_eq_decide_div_mod_eq]
  rw [Bool.eq_iff_iff]
  simp
  omega
/-! ### sums -/
/-! ### shifts -/
/-! ### halves -/
theorem wrap_pow {k : Nat} (hk : k < 64) : IntKind.u64.wrap (2 ^ k) = ((2 ^ k : Nat) : Int) := by
  have h2 : 2 ^ k < 2 ^ 64 := Nat.pow_lt_pow_right (by decide) hk
  have h3 : ((2 : Int) ^ k) = ((2 ^ k : Nat) : Int) := by simp
  rw [h3]
  generalize 2 ^ k = p at *
  exact IntWalk.u64_in _ (by omega)
end Bit
end Go.Proofs.Ytacpjpkhmdcagaa
