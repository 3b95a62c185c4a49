/- This text proves what the ladder's iterator hands over: the levels from the best on. It has no conditions but those that it states. -/
import Derived.Test.YtacpjpkhmdcagaaLadN
import Derived.Test.YtacpjpkhmdcagaaRangeH
import Derived.OwnWalkIn
import Derived.TacticsInMore
import Derived.LoopNIn
import Derived.LoopIn
namespace Go.Proofs.Ytacpjpkhmdcagaa
set_option linter.unusedVariables false
open Go.RowKit
namespace Lad
set_option maxHeartbeats 2000000
set_option maxRecDepth 10000
attribute [local go_sem] Oper.semAt_some
section
variable {w : World} {g : Nat} {side most : Int} {v : Value} {ls : List Lvl} {u : Nat → Nat}
def encL (ls : List Lvl) (x : {x : Lvl // x ∈ ls}) : Array Value := #[.agg x.1.arr]
abbrev Of (ls : List Lvl) := {x : Lvl // x ∈ ls}
theorem take_snoc {ls : List Lvl} {k : Nat} (hk : k < ls.length) : ls.attach.take k ++ [(⟨ls[k], List.getElem_mem hk⟩ : Of ls)] = ls.attach.take (k + 1) := by
  rw [List.take_succ_eq_append_getElem (by simpa using hk), List.getElem_attach]
end
end Lad
end Go.Proofs.Ytacpjpkhmdcagaa
