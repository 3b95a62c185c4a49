/- This text proves which commands are right: contracts of command.Right and damperref05.Right. It has no conditions but those that it states. -/
import Derived.Test.YtbnappiaomiciaaFirst
import Derived.Laws.StructEq
namespace Go.Proofs.Ytbnappiaomiciaa
set_option linter.unusedVariables false
open Go.RowKit
structure Cmd where
  (kind sym id owner side typ price qty flags : Int)
def Cmd.cells (s : Cmd) : List Value := [.int .i64 s.kind, .int .i64 s.sym, .int .i64 s.id, .int .i64 s.owner, .int .i64 s.side, .int .i64 s.typ, .int .i64 s.price, .int .i64 s.qty, .int .i64 s.flags]
def Cmd.arr (s : Cmd) : Array Value := s.cells.toArray
@[go_sem] theorem Cmd.arr_size (s : Cmd) : s.arr.size = 9 := rfl
@[go_sem] theorem Cmd.arr_0 (s : Cmd) : s.arr[0]? = some (.int .i64 s.kind) := rfl
@[go_sem] theorem Cmd.arr_1 (s : Cmd) : s.arr[1]? = some (.int .i64 s.sym) := rfl
@[go_sem] theorem Cmd.arr_2 (s : Cmd) : s.arr[2]? = some (.int .i64 s.id) := rfl
@[go_sem] theorem Cmd.arr_3 (s : Cmd) : s.arr[3]? = some (.int .i64 s.owner) := rfl
@[go_sem] theorem Cmd.arr_4 (s : Cmd) : s.arr[4]? = some (.int .i64 s.side) := rfl
@[go_sem] theorem Cmd.arr_5 (s : Cmd) : s.arr[5]? = some (.int .i64 s.typ) := rfl
@[go_sem] theorem Cmd.arr_6 (s : Cmd) : s.arr[6]? = some (.int .i64 s.price) := rfl
@[go_sem] theorem Cmd.arr_7 (s : Cmd) : s.arr[7]? = some (.int .i64 s.qty) := rfl
@[go_sem] theorem Cmd.arr_8 (s : Cmd) : s.arr[8]? = some (.int .i64 s.flags) := rfl
theorem Cmd.cells_arr (s : Cmd) : s.cells.toArray = s.arr := rfl

namespace Adm
set_option maxHeartbeats 1000000
set_option maxRecDepth 10000
def inF (n lo hi : Int) : Bool := decide (lo ≤ n) && decide (n ≤ hi)
theorem in_any (n lo hi : Int) (w : World) : Calls Try.prog 48 #[.int .i64 n, .int .i64 lo, .int .i64 hi] w fun e w' => e = .returned (.bool (inF n lo hi)) ∧ w = w' := by
  by_cases h : lo ≤ n
  · go_enter Try.func48, Try.ntmps48
    go_wp2_with fail
    go_ret
    exact ⟨ret_bool (by simp [inF]; try omega), rfl⟩
  · go_enter Try.func48, Try.ntmps48
    go_wp2_with fail
    go_ret
    exact ⟨ret_bool (by simp [inF]; try omega), rfl⟩
def rightF (c : Cmd) : Bool := inF c.sym 0 255 && (inF c.id 0 4611686018427387904 &&
  (if c.kind = 1 then inF c.owner 0 1073741824 && (inF c.side 0 1 && (inF c.typ 1 5 && inF c.flags 0 7))
   else if c.kind = 3 then c.owner == 0 && (c.side == 0 && (c.typ == 0 && c.flags == 0))
   else if c.kind = 2 then c.owner == 0 && (c.side == 0 && (c.typ == 0 && (c.price == 0 && (c.qty == 0 && c.flags == 0))))
   else false))
theorem right_any (c : Cmd) (w : World) : Calls Try.prog 28 #[.agg c.arr] w fun e w' => e = .returned (.bool (rightF c)) ∧ Below w.heap.size w w' := by
  go_enter Try.func28, Try.ntmps28
  go_wp2_with (first | (go_at_call 48; refine (in_any _ _ _ _).mono ?_; rintro e w' ⟨rfl, rfl⟩) | fail)
  all_goals go_ret
  all_goals refine ⟨ret_bool ?_, by (repeat (first | with_reducible exact Below.refl _ _ | (with_reducible assumption) | (with_reducible refine below_alloc ?_ _) | (with_reducible refine below_ext (w1 := ?_) ?_ ?_; rotate_left 2; (with_reducible assumption)) | (with_reducible refine Below.setCell ?_ ?_ _; rotate_left; ((try simp) <;> omega)) | (with_reducible refine Below.drew ?_) | (with_reducible refine below_drewN ?_ _) | fail))⟩
  all_goals (simp_all [rightF, inF] <;> omega)
end Adm
end Go.Proofs.Ytbnappiaomiciaa
