/- This text proves what the iterators of a ladder and of queues hand over to a body that keeps all blocks of cells but those that are named. It has no conditions but those that it states. -/
import Derived.Test.YtbnappiaomiciaaLadE
import Derived.Test.YtbnappiaomiciaaFifoNew
import Derived.Test.YtbnappiaomiciaaMidRd
import Derived.OwnWalkIn
import Derived.TacticsInMore
import Derived.LoopNIn
import Derived.LoopIn
namespace Go.Proofs.Ytbnappiaomiciaa
set_option linter.unusedVariables false
open Go.RowKit
namespace Lad
set_option maxHeartbeats 2000000
set_option maxRecDepth 10000
attribute [local go_sem] Oper.semAt_some
section
variable {w : World} {g : Nat} {side most : Int} {v : Value} {ls : List Lvl} {u : Nat → Nat}
end
end Lad
namespace Fif
set_option maxHeartbeats 1000000
set_option maxRecDepth 10000
attribute [local go_sem] Oper.semAt_some
def left (l : List Nat) (v : Value) : Nat := if intOf v < 0 then 0 else l.length - l.idxOf (intOf v).toNat
theorem idx_at {l pre rest : List Nat} {x : Nat} (hx : l = pre ++ x :: rest) (hn : l.Nodup) : l.idxOf x = pre.length := by
  have hp : x ∉ pre := fun h => by
    rw [hx, List.nodup_append] at hn
    exact hn.2.2 x h x (by simp) rfl
  rw [hx, List.idxOf_append, if_neg hp]
  simp
theorem left_lt {l pre rest : List Nat} {x : Nat} (hx : l = pre ++ x :: rest) (hn : l.Nodup) : left l (.int .i64 (Fif.hd rest)) < left l (.int .i64 (x : Int)) := by
  have h1 := idx_at hx hn
  have hl : l.length = pre.length + 1 + rest.length := by rw [hx]; simp; omega
  have e1 : left l (.int .i64 (x : Int)) = l.length - pre.length := by
    unfold left
    simp only [intOf, Int.toNat_natCast, h1]
    rw [if_neg (by omega)]
  rw [e1]
  cases rest with
  | nil => unfold left; simp [intOf, Fif.hd]; omega
  | cons y r =>
    have h2 := idx_at (pre := pre ++ [x]) (x := y) (rest := r) (by simpa using hx) hn
    have e2 : left l (.int .i64 (Fif.hd (y :: r))) = l.length - (pre.length + 1) := by
      show left l (.int .i64 (y : Int)) = _
      unfold left
      simp only [intOf, Int.toNat_natCast, h2]
      rw [if_neg (by omega)]
      simp
    rw [e2]
    omega
abbrev Sl1 (l : List Nat) := {x : Nat // x ∈ l}
end Fif
end Go.Proofs.Ytbnappiaomiciaa
