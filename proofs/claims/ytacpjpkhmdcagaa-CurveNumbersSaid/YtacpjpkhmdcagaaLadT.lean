/- This text proves what Take makes of a level whose last order goes. It has no conditions but those that it states. (Under way.) -/
import Derived.Test.YtacpjpkhmdcagaaLadA
import Derived.Test.YtacpjpkhmdcagaaLadD
namespace Go.Proofs.Ytacpjpkhmdcagaa
set_option linter.unusedVariables false
open Go.RowKit
namespace Lad
set_option maxHeartbeats 300000
set_option maxRecDepth 10000
def clr (n r : Nat) : Nat := n &&& (18446744073709551615 - 2 ^ r)
attribute [irreducible] clr
section
variable {P : Program} {ops : Array Oper} {C : World → Prop} {Q : Act → Prop} {a : Act} {o : Oper} {rest : List Oper}
end
def clrU (u : Nat → Nat) (q : Nat) : Nat → Nat := fun i => if i = q / 64 then clr (u i) (q % 64) else u i
section
variable {w : World} {g : Nat} {side most : Int} {v : Value} {ls : List Lvl} {u : Nat → Nat}
end
end Lad
end Go.Proofs.Ytacpjpkhmdcagaa
