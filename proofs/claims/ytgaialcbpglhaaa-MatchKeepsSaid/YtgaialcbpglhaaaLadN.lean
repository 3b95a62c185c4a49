/- This text proves what the ladder's New, Best, Len and Each answer, and what a nil ladder says: contracts of the package ladder. It has no conditions but those that it states. -/
import Derived.Test.YtgaialcbpglhaaaLadP
import Derived.Test.YtgaialcbpglhaaaRangeH
namespace Go.Proofs.Ytgaialcbpglhaaa
set_option linter.unusedVariables false
open Go.RowKit
namespace Lad
set_option maxHeartbeats 4000000
set_option maxRecDepth 10000
theorem new_ok (side most : Int) (w : World) (hs : side = 0 ∨ side = 1) (hm : 1 ≤ most ∧ most ≤ 200) :
    Calls Try.prog 65 #[.int .i64 side, .int .i64 most] w fun e w' => e = .returned (.tuple #[.pointer (some ⟨w.heap.size, 0, none⟩), .int .i64 0]) ∧ La w' w.heap.size side most (.slice none 0 0) [] (fun _ => 0) ∧ Below w.heap.size w w' := by
  have h1 : ¬ most < 1 := by omega
  have h2 : most ≤ 200 := hm.2
  have h2' : ¬ most > 200 := by omega
  have hLa : La (w.alloc (.cells #[.int .i64 side, .int .i64 most, .slice none 0 0, .int .u64 0, .int .u64 0, .int .u64 0, .int .u64 0] 184)) w.heap.size side most (.slice none 0 0) [] (fun _ => 0) :=
    ⟨Blk.new _ _ _ _ rfl, World.ownsRow_nil _ _ _ _, by simp, fun l hl => absurd hl (by simp)⟩
  have hLa := Lib.hid hLa
  rcases hs with rfl | rfl
  · go_enter Try.func65, Try.ntmps65
    go_wp2_with fail
    go_ret2
    exact ⟨rfl, hLa.out, by (repeat (first | with_reducible exact Below.refl _ _ | (with_reducible assumption) | (with_reducible refine below_alloc ?_ _) | (with_reducible refine below_ext (w1 := ?_) ?_ ?_; rotate_left 2; (with_reducible assumption)) | (with_reducible refine Below.setCell ?_ ?_ _; rotate_left; ((try simp) <;> omega)) | (with_reducible refine Below.drew ?_) | (with_reducible refine below_drewN ?_ _) | fail))⟩
  · go_enter Try.func65, Try.ntmps65
    go_wp2_with fail
    go_ret2
    exact ⟨rfl, hLa.out, by (repeat (first | with_reducible exact Below.refl _ _ | (with_reducible assumption) | (with_reducible refine below_alloc ?_ _) | (with_reducible refine below_ext (w1 := ?_) ?_ ?_; rotate_left 2; (with_reducible assumption)) | (with_reducible refine Below.setCell ?_ ?_ _; rotate_left; ((try simp) <;> omega)) | (with_reducible refine Below.drew ?_) | (with_reducible refine below_drewN ?_ _) | fail))⟩
theorem len_nil (w : World) : Calls Try.prog 136 #[.pointer none] w fun e w' => e = .returned (.int .i64 0) ∧ w = w' := by
  go_enter Try.func136, Try.ntmps136
  go_wp2_with fail
  go_ret
  exact ⟨rfl, rfl⟩
theorem take_nil (p q : Int) (b : Bool) (w : World) : Calls Try.prog 119 #[.pointer none, .int .i64 p, .int .i64 q, .bool b] w fun e w' => e = .returned (.tuple #[.int .i64 0, .int .i64 1]) ∧ w = w' := by
  go_enter Try.func119, Try.ntmps119
  go_wp2_with fail
  go_ret2
  exact ⟨rfl, rfl⟩
theorem fits_nil (p : Int) (w : World) : Calls Try.prog 140 #[.pointer none, .int .i64 p] w fun e w' => e = .returned (.bool false) ∧ w = w' := by
  go_enter Try.func140, Try.ntmps140
  go_wp2_with fail
  go_ret
  exact ⟨rfl, rfl⟩
theorem each_any (p : Option Addr) (w : World) : Calls Try.prog 116 #[.pointer p] w fun e w' => e = .returned (.func (.func 147) #[] #[.pointer (some ⟨w.heap.size, 0, none⟩)]) ∧ Blk w' w.heap.size 117 #[.pointer p] ∧ Below w.heap.size w w' := by
  go_enter Try.func116, Try.ntmps116
  go_wp2_with fail
  go_ret
  exact ⟨rfl, Blk.new _ _ _ _ rfl, by (repeat (first | with_reducible exact Below.refl _ _ | (with_reducible assumption) | (with_reducible refine below_alloc ?_ _) | (with_reducible refine below_ext (w1 := ?_) ?_ ?_; rotate_left 2; (with_reducible assumption)) | (with_reducible refine Below.setCell ?_ ?_ _; rotate_left; ((try simp) <;> omega)) | (with_reducible refine Below.drew ?_) | (with_reducible refine below_drewN ?_ _) | fail))⟩
theorem each_nil (b : Nat) (w : World) (hb : Blk w b 117 #[.pointer none]) : SeqNil Try.prog 147 #[.pointer (some ⟨b, 0, none⟩)] w := by
  intro l W hW R h0
  have hc : W.cell? ⟨b, 0, none⟩ = some (.pointer none) := (hb.ext hW).cell 0
  show Calls _ _ (#[.func (.yield l) #[] #[], .pointer (some ⟨b, 0, none⟩)]) _ _
  go_enter Try.func147, Try.ntmps147
  go_wp2_with fail
  exact bodyPost_ret (results_none rfl _ _ _) rfl ⟨⟨_, rfl⟩, h0⟩
def lvlZ : Array Value := #[.int .i64 0, .int .i64 0, .int .i64 0, .int .i64 0]
theorem lvlZ_one (w : World) : ∀ v ∈ lvlZ.toList, v.oneCell' = true := by simp [lvlZ, Value.oneCell']
theorem results_lvl {fn : Func} {p u : Tmp} (h : fn.results = #[.cell p 157, .tmp u]) (tmps : Array Value) (w : World) (g : Nat) (cs : Array Value) (x : Value) (hp : tmps.getD p undef = .pointer (some ⟨g, 0, none⟩)) (hx : tmps.getD u undef = x) (hb : Blk w g 157 cs) (h4 : cs.size = 4) :
    (results fn tmps).run Try.prog w = .ok (.tuple #[.agg cs, x]) w := by
  rw [results_cell_tmp h, hp, hx]
  simp only [asAddr, Sem.run_pure, Result.andThen_ok, run_loadVar_row w g 157 157 cs _ _ hb Try.underlying157 rfl (by rw [h4]; kernel_rfl)]
theorem best_nil (w : World) : Calls Try.prog 91 #[.pointer none] w fun e w' => e = .returned (.tuple #[.agg lvlZ, .bool false]) ∧ Below w.heap.size w w' := by
  have hN := Blk.new w 157 lvlZ _ rfl
  go_enter Try.func91, Try.ntmps91
  go_wp2_with (first | (go_at_call 136; refine (len_nil _).mono ?_; rintro e w' ⟨rfl, rfl⟩) | ((with_reducible show wpList _ _ _ (⟨_, .load 157 _, _, _, _, _⟩ :: _) _ _); refine wpList_load_ho 157 _ (by rfl) (by rfl) ?_ (.pointer (some ⟨_, 0, none⟩)) (by rfl) ?_ _ Try.underlying157 rfl ?_ ?_; rotate_left; (next => (repeat (first | (with_reducible refine BlkAt.new _ _ _ _ ?_; ((try simp) <;> omega)) | (with_reducible assumption) | (with_reducible refine Blk.at (t := ?_) ?_; rotate_left; with_reducible assumption) | with_reducible refine BlkAt.alloc ?_ _ | with_reducible refine BlkAt.drew ?_ | (with_reducible refine BlkAt.setSame ?_ _ _) | (with_reducible refine BlkAt.setCell ?_ ?_ _; rotate_left; ((try simp) <;> omega)) | (with_reducible refine BlkAt.ext (w := ?_) ?_ ?_; rotate_left 2; (with_reducible assumption)) | fail))); (next => kernel_rfl)) | fail)
  exact bodyPost_ret (results_lvl rfl _ _ _ _ _ (by rfl) (by rfl) hN rfl) rfl ⟨rfl, by (repeat (first | with_reducible exact Below.refl _ _ | (with_reducible assumption) | (with_reducible refine below_alloc ?_ _) | (with_reducible refine below_ext (w1 := ?_) ?_ ?_; rotate_left 2; (with_reducible assumption)) | (with_reducible refine Below.setCell ?_ ?_ _; rotate_left; ((try simp) <;> omega)) | (with_reducible refine Below.drew ?_) | (with_reducible refine below_drewN ?_ _) | fail))⟩
section
variable {w : World} {g : Nat} {side most : Int} {v : Value} {ls : List Lvl} {u : Nat → Nat}
theorem len_any (L : La w g side most v ls u) : Calls Try.prog 136 #[.pointer (some ⟨g, 0, none⟩)] w fun e w' => e = .returned (.int .i64 ls.length) ∧ w = w' := by
  obtain ⟨A, cap, rfl, _, _⟩ := L.rd
  have c2 : w.cell? ⟨g, 2, none⟩ = some (.slice A ls.length cap) := L.hd.cell 2
  clear L
  go_enter Try.func136, Try.ntmps136
  go_wp2_with fail
  go_ret
  exact ⟨rfl, rfl⟩
theorem best_none (L : La w g side most v [] u) : Calls Try.prog 91 #[.pointer (some ⟨g, 0, none⟩)] w fun e w' => e = .returned (.tuple #[.agg lvlZ, .bool false]) ∧ Below w.heap.size w w' := by
  have hN := Blk.new w 157 lvlZ _ rfl
  have hLn : Hid (Calls Try.prog 136 #[.pointer (some ⟨g, 0, none⟩)] (w.alloc (.cells #[.int .i64 0, .int .i64 0, .int .i64 0, .int .i64 0] 157)) fun e w' => e = .returned (.int .i64 0) ∧ w.alloc (.cells #[.int .i64 0, .int .i64 0, .int .i64 0, .int .i64 0] 157) = w') := Lib.hid (len_any (L.ext (below_alloc (Below.refl w.heap.size w) (.cells lvlZ 157))))
  clear L
  go_enter Try.func91, Try.ntmps91
  go_wp2_with (first | (go_at_call 136; refine hLn.out.mono ?_; rintro e w' ⟨rfl, rfl⟩) | fail)
  exact bodyPost_ret (results_lvl rfl _ _ _ _ _ (by rfl) (by rfl) hN rfl) rfl ⟨rfl, by (repeat (first | with_reducible exact Below.refl _ _ | (with_reducible assumption) | (with_reducible refine below_alloc ?_ _) | (with_reducible refine below_ext (w1 := ?_) ?_ ?_; rotate_left 2; (with_reducible assumption)) | (with_reducible refine Below.setCell ?_ ?_ _; rotate_left; ((try simp) <;> omega)) | (with_reducible refine Below.drew ?_) | (with_reducible refine below_drewN ?_ _) | fail))⟩
theorem best_some {x : Lvl} (L : La w g side most v (x :: ls) u) : Calls Try.prog 91 #[.pointer (some ⟨g, 0, none⟩)] w fun e w' => e = .returned (.tuple #[.agg x.arr, .bool true]) ∧ Below w.heap.size w w' := by
  have hN := Blk.new w 157 lvlZ _ rfl
  have L1 := L.ext (below_alloc (Below.refl w.heap.size w) (.cells lvlZ 157))
  have hLn := Lib.hid (len_any L1)
  obtain ⟨A, cap, rfl, hrd, _⟩ := L1.rd
  obtain ⟨b, o, rfl, hr, hbl⟩ := rd_lvl hrd (i := 0) (by simp)
  have c2 : (w.alloc (.cells lvlZ 157)).cell? ⟨g, 2, none⟩ = some (.slice (some ⟨b, o, none⟩) (x :: ls).length cap) := L1.hd.cell 2
  have hr' : (w.alloc (.cells lvlZ 157)).rangeAt b (o + 0) x.cells := by simpa using hr
  rw [List.length_cons] at c2 hLn
  clear L L1 hr hrd
  go_enter Try.func91, Try.ntmps91
  go_wp2_with (first | (go_at_call 136; refine hLn.out.mono ?_; rintro e w' ⟨rfl, rfl⟩) | (refine wpList_load_mid (by rfl) _ _ (by rfl) _ _ (by rfl) _ _ hr' Try.underlying157 rfl (by kernel_rfl) ?_) | ((with_reducible show wpList _ _ _ (⟨_, .store 157 _ _, _, _, _, _⟩ :: _) _ _); refine wpList_store_blk (by rfl) 157 _ _ (by rfl) _ _ (by rfl) (by rfl) _ _ hN (by kernel_rfl) (by rfl) ?_ ?_; (next => simp [Value.oneCell', Lvl.cells]); intro w2 hN2 hU2) | fail)
  have hN3 : Blk w2 w.heap.size 157 x.arr := hN2
  exact bodyPost_ret (results_lvl rfl _ _ _ _ _ (by rfl) (by rfl) hN3 rfl) rfl ⟨rfl, below_upd (by (repeat (first | with_reducible exact Below.refl _ _ | (with_reducible assumption) | (with_reducible refine below_alloc ?_ _) | (with_reducible refine below_ext (w1 := ?_) ?_ ?_; rotate_left 2; (with_reducible assumption)) | (with_reducible refine Below.setCell ?_ ?_ _; rotate_left; ((try simp) <;> omega)) | (with_reducible refine Below.drew ?_) | (with_reducible refine below_drewN ?_ _) | fail))) (Nat.le_refl _) hU2⟩
end
end Lad
end Go.Proofs.Ytgaialcbpglhaaa
