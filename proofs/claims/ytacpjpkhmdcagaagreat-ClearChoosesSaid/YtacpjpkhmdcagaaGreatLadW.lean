/- This text proves what the ladder's Worth answers where all levels count, and of a nil ladder. It has no conditions but those that it states. -/
import Derived.Test.YtacpjpkhmdcagaaGreatLadE
import Derived.Test.YtacpjpkhmdcagaaGreatRangeH
import Derived.Test.YtacpjpkhmdcagaaGreatFree
import Derived.Deep.CutRange
import Derived.Scope
namespace Go.Proofs.YtacpjpkhmdcagaaGreat
set_option linter.unusedVariables false
open Go.RowKit
namespace Lad
set_option maxHeartbeats 2000000
set_option maxRecDepth 10000
attribute [local go_sem] Oper.semAt_some
section
variable {w : World} {g : Nat} {side most : Int} {v : Value} {ls : List Lvl} {u : Nat → Nat}
def sumQ {ls : List Lvl} : List (Of ls) → Int
  | [] => 0
  | x :: l => x.1.qty + sumQ l
theorem sumQ_app (a b : List (Of ls)) : sumQ (a ++ b) = sumQ a + sumQ b := by
  induction a with
  | nil => simp [sumQ]
  | cons x l ih => simp [sumQ, ih]; omega
theorem sumQ_nonneg (hq : ∀ l ∈ ls, 0 ≤ l.qty) (a : List (Of ls)) : 0 ≤ sumQ a := by
  induction a with
  | nil => simp [sumQ]
  | cons x l ih => have := hq x.1 x.2; simp [sumQ]; omega
theorem sumQ_le (hq : ∀ l ∈ ls, 0 ≤ l.qty) {a b : List (Of ls)} (h : a <+: b) : sumQ a ≤ sumQ b := by
  obtain ⟨c, rfl⟩ := h
  have := sumQ_nonneg hq c
  rw [sumQ_app]
  omega
theorem sumQ_mem (hq : ∀ l ∈ ls, 0 ≤ l.qty) {x : Of ls} : ∀ (a : List (Of ls)), x ∈ a → x.1.qty ≤ sumQ a
  | [], h => absurd h (by simp)
  | y :: l, h => by
    have h1 := sumQ_nonneg hq l
    have h2 := hq y.1 y.2
    rcases List.mem_cons.1 h with rfl | h
    · simp [sumQ]; omega
    · have := sumQ_mem hq l h
      simp [sumQ]; omega
end
end Lad
end Go.Proofs.YtacpjpkhmdcagaaGreat
