/- This text proves what the ladder's New, Best, Len and Each answer, and what a nil ladder says: contracts of the package ladder. It has no conditions but those that it states. -/
import Derived.Test.YtacpjpkhmdcagaaGreatLadP
import Derived.Test.YtacpjpkhmdcagaaGreatRangeH
namespace Go.Proofs.YtacpjpkhmdcagaaGreat
set_option linter.unusedVariables false
open Go.RowKit
namespace Lad
set_option maxHeartbeats 4000000
set_option maxRecDepth 10000
theorem new_ok (side most : Int) (w : World) (hs : side = 0 ∨ side = 1) (hm : 1 ≤ most ∧ most ≤ 200) :
    Calls Tryz.prog 43 #[.int .i64 side, .int .i64 most] w fun e w' => e = .returned (.tuple #[.pointer (some ⟨w.heap.size, 0, none⟩), .int .i64 0]) ∧ La w' w.heap.size side most (.slice none 0 0) [] (fun _ => 0) ∧ Below w.heap.size w w' := by
  have h1 : ¬ most < 1 := by omega
  have h2 : most ≤ 200 := hm.2
  have h2' : ¬ most > 200 := by omega
  have hLa : La (w.alloc (.cells #[.int .i64 side, .int .i64 most, .slice none 0 0, .int .u64 0, .int .u64 0, .int .u64 0, .int .u64 0] 142)) w.heap.size side most (.slice none 0 0) [] (fun _ => 0) :=
    ⟨Blk.new _ _ _ _ rfl, World.ownsRow_nil _ _ _ _, by simp, fun l hl => absurd hl (by simp)⟩
  have hLa := Lib.hid hLa
  rcases hs with rfl | rfl
  · go_enter Tryz.func43, Tryz.ntmps43
    go_wp2_with fail
    go_ret2
    exact ⟨rfl, hLa.out, by (repeat (first | with_reducible exact Below.refl _ _ | (with_reducible assumption) | (with_reducible refine below_alloc ?_ _) | (with_reducible refine below_ext (w1 := ?_) ?_ ?_; rotate_left 2; (with_reducible assumption)) | (with_reducible refine Below.setCell ?_ ?_ _; rotate_left; ((try simp) <;> omega)) | (with_reducible refine Below.drew ?_) | (with_reducible refine below_drewN ?_ _) | fail))⟩
  · go_enter Tryz.func43, Tryz.ntmps43
    go_wp2_with fail
    go_ret2
    exact ⟨rfl, hLa.out, by (repeat (first | with_reducible exact Below.refl _ _ | (with_reducible assumption) | (with_reducible refine below_alloc ?_ _) | (with_reducible refine below_ext (w1 := ?_) ?_ ?_; rotate_left 2; (with_reducible assumption)) | (with_reducible refine Below.setCell ?_ ?_ _; rotate_left; ((try simp) <;> omega)) | (with_reducible refine Below.drew ?_) | (with_reducible refine below_drewN ?_ _) | fail))⟩
theorem fits_nil (p : Int) (w : World) : Calls Tryz.prog 89 #[.pointer none, .int .i64 p] w fun e w' => e = .returned (.bool false) ∧ w = w' := by
  go_enter Tryz.func89, Tryz.ntmps89
  go_wp2_with fail
  go_ret
  exact ⟨rfl, rfl⟩
theorem each_any (p : Option Addr) (w : World) : Calls Tryz.prog 81 #[.pointer p] w fun e w' => e = .returned (.func (.func 96) #[] #[.pointer (some ⟨w.heap.size, 0, none⟩)]) ∧ Blk w' w.heap.size 85 #[.pointer p] ∧ Below w.heap.size w w' := by
  go_enter Tryz.func81, Tryz.ntmps81
  go_wp2_with fail
  go_ret
  exact ⟨rfl, Blk.new _ _ _ _ rfl, by (repeat (first | with_reducible exact Below.refl _ _ | (with_reducible assumption) | (with_reducible refine below_alloc ?_ _) | (with_reducible refine below_ext (w1 := ?_) ?_ ?_; rotate_left 2; (with_reducible assumption)) | (with_reducible refine Below.setCell ?_ ?_ _; rotate_left; ((try simp) <;> omega)) | (with_reducible refine Below.drew ?_) | (with_reducible refine below_drewN ?_ _) | fail))⟩
theorem each_nil (b : Nat) (w : World) (hb : Blk w b 85 #[.pointer none]) : SeqNil Tryz.prog 96 #[.pointer (some ⟨b, 0, none⟩)] w := by
  intro l W hW R h0
  have hc : W.cell? ⟨b, 0, none⟩ = some (.pointer none) := (hb.ext hW).cell 0
  show Calls _ _ (#[.func (.yield l) #[] #[], .pointer (some ⟨b, 0, none⟩)]) _ _
  go_enter Tryz.func96, Tryz.ntmps96
  go_wp2_with fail
  exact bodyPost_ret (results_none rfl _ _ _) rfl ⟨⟨_, rfl⟩, h0⟩
def lvlZ : Array Value := #[.int .i64 0, .int .i64 0, .int .i64 0, .int .i64 0]
theorem lvlZ_one (w : World) : ∀ v ∈ lvlZ.toList, v.oneCell' = true := by simp [lvlZ, Value.oneCell']
theorem results_lvl {fn : Func} {p u : Tmp} (h : fn.results = #[.cell p 156, .tmp u]) (tmps : Array Value) (w : World) (g : Nat) (cs : Array Value) (x : Value) (hp : tmps.getD p undef = .pointer (some ⟨g, 0, none⟩)) (hx : tmps.getD u undef = x) (hb : Blk w g 156 cs) (h4 : cs.size = 4) :
    (results fn tmps).run Tryz.prog w = .ok (.tuple #[.agg cs, x]) w := by
  rw [results_cell_tmp h, hp, hx]
  simp only [asAddr, Sem.run_pure, Result.andThen_ok, run_loadVar_row w g 156 156 cs _ _ hb Tryz.underlying156 rfl (by rw [h4]; kernel_rfl)]
section
variable {w : World} {g : Nat} {side most : Int} {v : Value} {ls : List Lvl} {u : Nat → Nat}
end
end Lad
end Go.Proofs.YtacpjpkhmdcagaaGreat
