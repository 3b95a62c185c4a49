/- This text proves what the ladder's New, Best, Len and Each answer, and what a nil ladder says: contracts of the package ladder. It has no conditions but those that it states. -/
import Derived.Test.YtbnappiaomiciaaGreatLadP
import Derived.Test.YtbnappiaomiciaaGreatRangeH
namespace Go.Proofs.YtbnappiaomiciaaGreat
set_option linter.unusedVariables false
open Go.RowKit
namespace Lad
set_option maxHeartbeats 4000000
set_option maxRecDepth 10000
theorem new_ok (side most : Int) (w : World) (hs : side = 0 ∨ side = 1) (hm : 1 ≤ most ∧ most ≤ 200) :
    Calls Tryz.prog 23 #[.int .i64 side, .int .i64 most] w fun e w' => e = .returned (.tuple #[.pointer (some ⟨w.heap.size, 0, none⟩), .int .i64 0]) ∧ La w' w.heap.size side most (.slice none 0 0) [] (fun _ => 0) ∧ Below w.heap.size w w' := by
  have h1 : ¬ most < 1 := by omega
  have h2 : most ≤ 200 := hm.2
  have h2' : ¬ most > 200 := by omega
  have hLa : La (w.alloc (.cells #[.int .i64 side, .int .i64 most, .slice none 0 0, .int .u64 0, .int .u64 0, .int .u64 0, .int .u64 0] 137)) w.heap.size side most (.slice none 0 0) [] (fun _ => 0) :=
    ⟨Blk.new _ _ _ _ rfl, World.ownsRow_nil _ _ _ _, by simp, fun l hl => absurd hl (by simp)⟩
  have hLa := Lib.hid hLa
  rcases hs with rfl | rfl
  · go_enter Tryz.func23, Tryz.ntmps23
    go_wp2_with fail
    go_ret2
    exact ⟨rfl, hLa.out, by (repeat (first | with_reducible exact Below.refl _ _ | (with_reducible assumption) | (with_reducible refine below_alloc ?_ _) | (with_reducible refine below_ext (w1 := ?_) ?_ ?_; rotate_left 2; (with_reducible assumption)) | (with_reducible refine Below.setCell ?_ ?_ _; rotate_left; ((try simp) <;> omega)) | (with_reducible refine Below.drew ?_) | (with_reducible refine below_drewN ?_ _) | fail))⟩
  · go_enter Tryz.func23, Tryz.ntmps23
    go_wp2_with fail
    go_ret2
    exact ⟨rfl, hLa.out, by (repeat (first | with_reducible exact Below.refl _ _ | (with_reducible assumption) | (with_reducible refine below_alloc ?_ _) | (with_reducible refine below_ext (w1 := ?_) ?_ ?_; rotate_left 2; (with_reducible assumption)) | (with_reducible refine Below.setCell ?_ ?_ _; rotate_left; ((try simp) <;> omega)) | (with_reducible refine Below.drew ?_) | (with_reducible refine below_drewN ?_ _) | fail))⟩
theorem each_any (p : Option Addr) (w : World) : Calls Tryz.prog 102 #[.pointer p] w fun e w' => e = .returned (.func (.func 115) #[] #[.pointer (some ⟨w.heap.size, 0, none⟩)]) ∧ Blk w' w.heap.size 71 #[.pointer p] ∧ Below w.heap.size w w' := by
  go_enter Tryz.func102, Tryz.ntmps102
  go_wp2_with fail
  go_ret
  exact ⟨rfl, Blk.new _ _ _ _ rfl, by (repeat (first | with_reducible exact Below.refl _ _ | (with_reducible assumption) | (with_reducible refine below_alloc ?_ _) | (with_reducible refine below_ext (w1 := ?_) ?_ ?_; rotate_left 2; (with_reducible assumption)) | (with_reducible refine Below.setCell ?_ ?_ _; rotate_left; ((try simp) <;> omega)) | (with_reducible refine Below.drew ?_) | (with_reducible refine below_drewN ?_ _) | fail))⟩
def lvlZ : Array Value := #[.int .i64 0, .int .i64 0, .int .i64 0, .int .i64 0]
theorem results_lvl {fn : Func} {p u : Tmp} (h : fn.results = #[.cell p 171, .tmp u]) (tmps : Array Value) (w : World) (g : Nat) (cs : Array Value) (x : Value) (hp : tmps.getD p undef = .pointer (some ⟨g, 0, none⟩)) (hx : tmps.getD u undef = x) (hb : Blk w g 171 cs) (h4 : cs.size = 4) :
    (results fn tmps).run Tryz.prog w = .ok (.tuple #[.agg cs, x]) w := by
  rw [results_cell_tmp h, hp, hx]
  simp only [asAddr, Sem.run_pure, Result.andThen_ok, run_loadVar_row w g 171 171 cs _ _ hb Tryz.underlying171 rfl (by rw [h4]; kernel_rfl)]
section
variable {w : World} {g : Nat} {side most : Int} {v : Value} {ls : List Lvl} {u : Nat → Nat}
theorem len_any (L : La w g side most v ls u) : Calls Tryz.prog 114 #[.pointer (some ⟨g, 0, none⟩)] w fun e w' => e = .returned (.int .i64 ls.length) ∧ w = w' := by
  obtain ⟨A, cap, rfl, _, _⟩ := L.rd
  have c2 : w.cell? ⟨g, 2, none⟩ = some (.slice A ls.length cap) := L.hd.cell 2
  clear L
  go_enter Tryz.func114, Tryz.ntmps114
  go_wp2_with fail
  go_ret
  exact ⟨rfl, rfl⟩
theorem best_none (L : La w g side most v [] u) : Calls Tryz.prog 97 #[.pointer (some ⟨g, 0, none⟩)] w fun e w' => e = .returned (.tuple #[.agg lvlZ, .bool false]) ∧ Below w.heap.size w w' := by
  have hN := Blk.new w 171 lvlZ _ rfl
  have hLn : Hid (Calls Tryz.prog 114 #[.pointer (some ⟨g, 0, none⟩)] (w.alloc (.cells #[.int .i64 0, .int .i64 0, .int .i64 0, .int .i64 0] 171)) fun e w' => e = .returned (.int .i64 0) ∧ w.alloc (.cells #[.int .i64 0, .int .i64 0, .int .i64 0, .int .i64 0] 171) = w') := Lib.hid (len_any (L.ext (below_alloc (Below.refl w.heap.size w) (.cells lvlZ 171))))
  clear L
  go_enter Tryz.func97, Tryz.ntmps97
  go_wp2_with (first | (go_at_call 114; refine hLn.out.mono ?_; rintro e w' ⟨rfl, rfl⟩) | fail)
  exact bodyPost_ret (results_lvl rfl _ _ _ _ _ (by rfl) (by rfl) hN rfl) rfl ⟨rfl, by (repeat (first | with_reducible exact Below.refl _ _ | (with_reducible assumption) | (with_reducible refine below_alloc ?_ _) | (with_reducible refine below_ext (w1 := ?_) ?_ ?_; rotate_left 2; (with_reducible assumption)) | (with_reducible refine Below.setCell ?_ ?_ _; rotate_left; ((try simp) <;> omega)) | (with_reducible refine Below.drew ?_) | (with_reducible refine below_drewN ?_ _) | fail))⟩
theorem best_some {x : Lvl} (L : La w g side most v (x :: ls) u) : Calls Tryz.prog 97 #[.pointer (some ⟨g, 0, none⟩)] w fun e w' => e = .returned (.tuple #[.agg x.arr, .bool true]) ∧ Below w.heap.size w w' := by
  have hN := Blk.new w 171 lvlZ _ rfl
  have L1 := L.ext (below_alloc (Below.refl w.heap.size w) (.cells lvlZ 171))
  have hLn := Lib.hid (len_any L1)
  obtain ⟨A, cap, rfl, hrd, _⟩ := L1.rd
  obtain ⟨b, o, rfl, hr, hbl⟩ := rd_lvl hrd (i := 0) (by simp)
  have c2 : (w.alloc (.cells lvlZ 171)).cell? ⟨g, 2, none⟩ = some (.slice (some ⟨b, o, none⟩) (x :: ls).length cap) := L1.hd.cell 2
  have hr' : (w.alloc (.cells lvlZ 171)).rangeAt b (o + 0) x.cells := by simpa using hr
  rw [List.length_cons] at c2 hLn
  clear L L1 hr hrd
  go_enter Tryz.func97, Tryz.ntmps97
  go_wp2_with (first | (go_at_call 114; refine hLn.out.mono ?_; rintro e w' ⟨rfl, rfl⟩) | (refine wpList_load_mid (by rfl) _ _ (by rfl) _ _ (by rfl) _ _ hr' Tryz.underlying171 rfl (by kernel_rfl) ?_) | ((with_reducible show wpList _ _ _ (⟨_, .store 171 _ _, _, _, _, _⟩ :: _) _ _); refine wpList_store_blk (by rfl) 171 _ _ (by rfl) _ _ (by rfl) (by rfl) _ _ hN (by kernel_rfl) (by rfl) ?_ ?_; (next => simp [Value.oneCell', Lvl.arr, Lvl.cells]); intro w2 hN2 hU2) | fail)
  have hN3 : Blk w2 w.heap.size 171 x.arr := hN2
  exact bodyPost_ret (results_lvl rfl _ _ _ _ _ (by rfl) (by rfl) hN3 rfl) rfl ⟨rfl, below_upd (by (repeat (first | with_reducible exact Below.refl _ _ | (with_reducible assumption) | (with_reducible refine below_alloc ?_ _) | (with_reducible refine below_ext (w1 := ?_) ?_ ?_; rotate_left 2; (with_reducible assumption)) | (with_reducible refine Below.setCell ?_ ?_ _; rotate_left; ((try simp) <;> omega)) | (with_reducible refine Below.drew ?_) | (with_reducible refine below_drewN ?_ _) | fail))) (Nat.le_refl _) hU2⟩
end
end Lad
end Go.Proofs.YtbnappiaomiciaaGreat
