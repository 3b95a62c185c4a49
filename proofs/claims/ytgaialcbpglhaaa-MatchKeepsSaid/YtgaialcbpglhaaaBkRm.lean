/- This text proves the contracts of a book's gone and Remove. It has no conditions but those that it states. -/
import Derived.Test.YtgaialcbpglhaaaBkR
namespace Go.Proofs.Ytgaialcbpglhaaa
set_option linter.unusedVariables false
open Go.RowKit
namespace Bk
set_option maxHeartbeats 1000000
set_option maxRecDepth 10000
open Are (St Ar ord0 ordArr_one dropS setS)
open Fif (Fq up up_same up_ne)
open Idx (R3 Xq Wf)
section
variable {w : World} {c : Nat → Nat} {b N most k : Nat} {ss : List Sl}
theorem gone_any {A C : List Sl} {kk : Nat} {o : Ord} (B : Bs w c b N most k (A ++ (kk, o) :: C)) (x : Ord) (hx : x.id = o.id ∧ x.side = o.side ∧ x.price = o.price) (hk : k < 1000) :
    Calls Try.prog 77 #[.pointer (some ⟨b, 0, none⟩), .agg x.arr, .int .i64 kk, .int .i64 o.qty] w fun e w' => e = .returned (.tuple #[]) ∧ ∃ c', Bs w' c' b N most (k + 1) (A ++ C) ∧ Cs c c' w w' := by
  obtain ⟨d, B, I⟩ := B
  have hok : okO o := I.ok (kk, o) (by simp)
  obtain ⟨n, hsd, hn⟩ : ∃ n : Nat, o.side = (n : Int) ∧ n < 2 := ⟨o.side.toNat, by have := hok.1; omega, by have := hok.1; omega⟩
  obtain ⟨st, fl, ls, u, l, hQ, hT, hA, hX, hI⟩ := rem_plan I hn hsd
  obtain ⟨hx1, hx2, hx3⟩ := hx
  rw [← hx3] at hT
  rw [← hx1] at hX
  have HQ := Lib.hid hQ
  have HT := Lib.hid hT
  have HA := Lib.hid hA
  have HX := Lib.hid hX
  have HI := Lib.hid hI
  have HO := Lib.hid (fun W => of_yes (w := W) (b := b) (m := n) x.side (hx2.trans hsd) hn)
  clear hQ hT hA hX hI I hx1 hx2 hx3 hsd hok
  have hbl := B.lt
  have h9 : c w.heap.size = 9 := B.out _ (Nat.le_refl _)
  have hO : Blk (w.alloc (.cells x.arr 43)) w.heap.size 43 x.arr := Blk.new _ _ _ _ rfl
  have hb0 : Below w.heap.size w (w.alloc (.cells x.arr 43)) := by (repeat (first | with_reducible exact Below.refl _ _ | (with_reducible assumption) | (with_reducible refine below_alloc ?_ _) | (with_reducible refine below_ext (w1 := ?_) ?_ ?_; rotate_left 2; (with_reducible assumption)) | (with_reducible refine Below.setCell ?_ ?_ _; rotate_left; ((try simp) <;> omega)) | (with_reducible refine Below.drew ?_) | (with_reducible refine below_drewN ?_ _) | fail))
  generalize hW0 : w.alloc (.cells x.arr 43) = w0 at hO hb0
  have HW0 := Lib.hid hW0
  have B0 := Lib.hid (B.ext hb0)
  clear hW0 B
  have k2 : w0.cell? ⟨w.heap.size, 2, none⟩ = some (.int .i64 x.side) := hO.cell 2
  have HB := Lib.hid hO
  have HCS := Lib.hid (Cs.of_below (c := c) hb0)
  have hbl0 : b < w0.heap.size := Nat.lt_of_lt_of_le hbl hb0.size
  clear hO
  have hn2 : n = 0 ∨ n = 1 := by omega
  rcases hn2 with rfl | rfl
  · go_enter Try.func77, Try.ntmps77
    go_wp2_with fail
    rw [HW0.out]
    go_wp2_with (first | (go_at_call 67; refine (HO.out _).mono ?_; rintro e w1 ⟨rfl, rfl⟩; have e2 : w0.cell? ⟨b, 2, none⟩ = some (.pointer (some ⟨d.q 0, 0, none⟩)) := B0.out.cells.2.2.1) | (go_at_call 118; refine (HQ.out _ _ _ _ _ B0.out).mono ?_; rintro e w1 ⟨y, rfl, B1, cs1⟩) | fail)
    have hO1 := Lib.hid (cs1.blk HB.out h9)
    have B1' := Lib.hid B1
    have e1 : w1.cell? ⟨b, 1, none⟩ = some (.pointer (some ⟨d.l 0, 0, none⟩)) := B1.cells.2.1
    have e3 : w1.cell? ⟨w.heap.size, 3, none⟩ = some (.int .i64 x.price) := hO1.out.cell 3
    have hbl1 := B1.lt
    have hwl1 := hO1.out.lt
    clear k2 e2 B0 B1 HQ
    refine wp_region_below_tail 7 (by kernel_rfl) (by kernel_rfl) ?_
    simp only [List.take_succ_cons, List.take_zero, List.drop_succ_cons, List.drop_zero]
    repeat (first | go_big_quiet_skip | (go_big_quiet_want; go_big_quiet_op; go_big_quiet_on) | (refine q_load_fld (by rfl) _ _ (by rfl) (fun _ h => h) _ _ (by rfl) ?_ ?_ ?_ ?_ ?_ ?_; rotate_left; (next => (repeat (first | (with_reducible refine BlkAt.new _ _ _ _ ?_; ((try simp) <;> omega)) | (with_reducible assumption) | (with_reducible refine Blk.at (t := ?_) ?_; rotate_left; with_reducible assumption) | with_reducible refine BlkAt.alloc ?_ _ | with_reducible refine BlkAt.drew ?_ | (with_reducible refine BlkAt.setSame ?_ _ _) | (with_reducible refine BlkAt.setCell ?_ ?_ _; rotate_left; ((try simp) <;> omega)) | (with_reducible refine BlkAt.ext (w := ?_) ?_ ?_; rotate_left 2; (with_reducible assumption)) | fail))); rotate_left; (next => first | (simp only [go_sem]; rfl) | rfl); (next => kernel_rfl); (try simp only [Act.put, List.setIfInBounds_toArray, List.set_cons_zero, List.set_cons_succ])) | (refine q_rem (by rfl) _ _ _ _ (by rfl) _ _ (by rfl) (by rfl) (by kernel_rfl) (by kernel_rfl) ?_ ?_; (next => omega); (try simp only [Act.put, List.setIfInBounds_toArray, List.set_cons_zero, List.set_cons_succ])) | (refine q_step_ex (by rfl) ?_; apply Exists.intro; refine ⟨fun W hW => ?_, ?_⟩; (next => (have hWc := fun (b o : Nat) (h : b < _) => (Ext.out hW).cell (p := ⟨b, o, none⟩) h); (try have hLK := HLK.out W (Ext.out hW)); go_simp; first | rfl | fail | fail); (try simp only [Act.put, List.setIfInBounds_toArray, List.set_cons_zero, List.set_cons_succ])) | fail)
    refine wpQuiet_nil ?_
    intro w2 hb2
    go_wp2_with (first | (go_at_call 119; refine (HT.out _ _ _ _ _ (B1'.out.ext hb2)).mono ?_; rintro e w3 ⟨y, rfl, v, c3, B3, cs3⟩; have r3 := (cs1.trans (Cs.of_below hb2)).trans cs3; have B3' := Lib.hid B3; have f0 : w3.cell? ⟨b, 0, none⟩ = some (.pointer (some ⟨d.a, 0, none⟩)) := B3.cells.1; clear e1 e3) | (go_at_call 120; refine (HA.out _ _ _ _ _ _ B3'.out).mono ?_; rintro e w4 ⟨rfl, B4, cs4⟩) | fail)
    have r4 := r3.trans cs4
    have hO4 := Lib.hid (r4.blk HB.out h9)
    have B4' := Lib.hid B4
    have g5 : w4.cell? ⟨b, 5, none⟩ = some (.pointer (some ⟨d.x, 0, none⟩)) := B4.cells.2.2.2.2.2
    have g0 : w4.cell? ⟨w.heap.size, 0, none⟩ = some (.int .i64 x.id) := hO4.out.cell 0
    have hbl4 := B4.lt
    have hwl4 := hO4.out.lt
    clear f0 B4 B3 B3' HA HT
    refine wp_region_below_tail 7 (by kernel_rfl) (by kernel_rfl) ?_
    simp only [List.take_succ_cons, List.take_zero, List.drop_succ_cons, List.drop_zero]
    repeat (first | go_big_quiet_skip | (go_big_quiet_want; go_big_quiet_op; go_big_quiet_on) | (refine q_load_fld (by rfl) _ _ (by rfl) (fun _ h => h) _ _ (by rfl) ?_ ?_ ?_ ?_ ?_ ?_; rotate_left; (next => (repeat (first | (with_reducible refine BlkAt.new _ _ _ _ ?_; ((try simp) <;> omega)) | (with_reducible assumption) | (with_reducible refine Blk.at (t := ?_) ?_; rotate_left; with_reducible assumption) | with_reducible refine BlkAt.alloc ?_ _ | with_reducible refine BlkAt.drew ?_ | (with_reducible refine BlkAt.setSame ?_ _ _) | (with_reducible refine BlkAt.setCell ?_ ?_ _; rotate_left; ((try simp) <;> omega)) | (with_reducible refine BlkAt.ext (w := ?_) ?_ ?_; rotate_left 2; (with_reducible assumption)) | fail))); rotate_left; (next => first | (simp only [go_sem]; rfl) | rfl); (next => kernel_rfl); (try simp only [Act.put, List.setIfInBounds_toArray, List.set_cons_zero, List.set_cons_succ])) | (refine q_rem (by rfl) _ _ _ _ (by rfl) _ _ (by rfl) (by rfl) (by kernel_rfl) (by kernel_rfl) ?_ ?_; (next => omega); (try simp only [Act.put, List.setIfInBounds_toArray, List.set_cons_zero, List.set_cons_succ])) | (refine q_step_ex (by rfl) ?_; apply Exists.intro; refine ⟨fun W hW => ?_, ?_⟩; (next => (have hWc := fun (b o : Nat) (h : b < _) => (Ext.out hW).cell (p := ⟨b, o, none⟩) h); (try have hLK := HLK.out W (Ext.out hW)); go_simp; first | rfl | (go_at_call 69; refine (key_any _ _).mono ?_; rintro e w'' ⟨rfl, hb2⟩; exact ⟨rfl, below_ext hW hb2⟩) | fail); (try simp only [Act.put, List.setIfInBounds_toArray, List.set_cons_zero, List.set_cons_succ])) | fail)
    refine wpQuiet_nil ?_
    intro w5 hb5
    go_wp2_with (first | (go_at_call 121; refine (HX.out _ _ _ _ v hk (B4'.out.ext hb5)).mono ?_; rintro e w6 ⟨rfl, B6, cs6⟩) | fail)
    go_end0
    exact ⟨rfl, c3, ⟨_, B6, HI.out v⟩, HCS.out.trans (r4.trans ((Cs.of_below hb5).trans cs6))⟩
  · go_enter Try.func77, Try.ntmps77
    go_wp2_with fail
    rw [HW0.out]
    go_wp2_with (first | (go_at_call 67; refine (HO.out _).mono ?_; rintro e w1 ⟨rfl, rfl⟩; have e2 : w0.cell? ⟨b, 4, none⟩ = some (.pointer (some ⟨d.q 1, 0, none⟩)) := B0.out.cells.2.2.2.2.1) | (go_at_call 118; refine (HQ.out _ _ _ _ _ B0.out).mono ?_; rintro e w1 ⟨y, rfl, B1, cs1⟩) | fail)
    have hO1 := Lib.hid (cs1.blk HB.out h9)
    have B1' := Lib.hid B1
    have e1 : w1.cell? ⟨b, 3, none⟩ = some (.pointer (some ⟨d.l 1, 0, none⟩)) := B1.cells.2.2.2.1
    have e3 : w1.cell? ⟨w.heap.size, 3, none⟩ = some (.int .i64 x.price) := hO1.out.cell 3
    have hbl1 := B1.lt
    have hwl1 := hO1.out.lt
    clear k2 e2 B0 B1 HQ
    refine wp_region_below_tail 7 (by kernel_rfl) (by kernel_rfl) ?_
    simp only [List.take_succ_cons, List.take_zero, List.drop_succ_cons, List.drop_zero]
    repeat (first | go_big_quiet_skip | (go_big_quiet_want; go_big_quiet_op; go_big_quiet_on) | (refine q_load_fld (by rfl) _ _ (by rfl) (fun _ h => h) _ _ (by rfl) ?_ ?_ ?_ ?_ ?_ ?_; rotate_left; (next => (repeat (first | (with_reducible refine BlkAt.new _ _ _ _ ?_; ((try simp) <;> omega)) | (with_reducible assumption) | (with_reducible refine Blk.at (t := ?_) ?_; rotate_left; with_reducible assumption) | with_reducible refine BlkAt.alloc ?_ _ | with_reducible refine BlkAt.drew ?_ | (with_reducible refine BlkAt.setSame ?_ _ _) | (with_reducible refine BlkAt.setCell ?_ ?_ _; rotate_left; ((try simp) <;> omega)) | (with_reducible refine BlkAt.ext (w := ?_) ?_ ?_; rotate_left 2; (with_reducible assumption)) | fail))); rotate_left; (next => first | (simp only [go_sem]; rfl) | rfl); (next => kernel_rfl); (try simp only [Act.put, List.setIfInBounds_toArray, List.set_cons_zero, List.set_cons_succ])) | (refine q_rem (by rfl) _ _ _ _ (by rfl) _ _ (by rfl) (by rfl) (by kernel_rfl) (by kernel_rfl) ?_ ?_; (next => omega); (try simp only [Act.put, List.setIfInBounds_toArray, List.set_cons_zero, List.set_cons_succ])) | (refine q_step_ex (by rfl) ?_; apply Exists.intro; refine ⟨fun W hW => ?_, ?_⟩; (next => (have hWc := fun (b o : Nat) (h : b < _) => (Ext.out hW).cell (p := ⟨b, o, none⟩) h); (try have hLK := HLK.out W (Ext.out hW)); go_simp; first | rfl | fail | fail); (try simp only [Act.put, List.setIfInBounds_toArray, List.set_cons_zero, List.set_cons_succ])) | fail)
    refine wpQuiet_nil ?_
    intro w2 hb2
    go_wp2_with (first | (go_at_call 119; refine (HT.out _ _ _ _ _ (B1'.out.ext hb2)).mono ?_; rintro e w3 ⟨y, rfl, v, c3, B3, cs3⟩; have r3 := (cs1.trans (Cs.of_below hb2)).trans cs3; have B3' := Lib.hid B3; have f0 : w3.cell? ⟨b, 0, none⟩ = some (.pointer (some ⟨d.a, 0, none⟩)) := B3.cells.1; clear e1 e3) | (go_at_call 120; refine (HA.out _ _ _ _ _ _ B3'.out).mono ?_; rintro e w4 ⟨rfl, B4, cs4⟩) | fail)
    have r4 := r3.trans cs4
    have hO4 := Lib.hid (r4.blk HB.out h9)
    have B4' := Lib.hid B4
    have g5 : w4.cell? ⟨b, 5, none⟩ = some (.pointer (some ⟨d.x, 0, none⟩)) := B4.cells.2.2.2.2.2
    have g0 : w4.cell? ⟨w.heap.size, 0, none⟩ = some (.int .i64 x.id) := hO4.out.cell 0
    have hbl4 := B4.lt
    have hwl4 := hO4.out.lt
    clear f0 B4 B3 B3' HA HT
    refine wp_region_below_tail 7 (by kernel_rfl) (by kernel_rfl) ?_
    simp only [List.take_succ_cons, List.take_zero, List.drop_succ_cons, List.drop_zero]
    repeat (first | go_big_quiet_skip | (go_big_quiet_want; go_big_quiet_op; go_big_quiet_on) | (refine q_load_fld (by rfl) _ _ (by rfl) (fun _ h => h) _ _ (by rfl) ?_ ?_ ?_ ?_ ?_ ?_; rotate_left; (next => (repeat (first | (with_reducible refine BlkAt.new _ _ _ _ ?_; ((try simp) <;> omega)) | (with_reducible assumption) | (with_reducible refine Blk.at (t := ?_) ?_; rotate_left; with_reducible assumption) | with_reducible refine BlkAt.alloc ?_ _ | with_reducible refine BlkAt.drew ?_ | (with_reducible refine BlkAt.setSame ?_ _ _) | (with_reducible refine BlkAt.setCell ?_ ?_ _; rotate_left; ((try simp) <;> omega)) | (with_reducible refine BlkAt.ext (w := ?_) ?_ ?_; rotate_left 2; (with_reducible assumption)) | fail))); rotate_left; (next => first | (simp only [go_sem]; rfl) | rfl); (next => kernel_rfl); (try simp only [Act.put, List.setIfInBounds_toArray, List.set_cons_zero, List.set_cons_succ])) | (refine q_rem (by rfl) _ _ _ _ (by rfl) _ _ (by rfl) (by rfl) (by kernel_rfl) (by kernel_rfl) ?_ ?_; (next => omega); (try simp only [Act.put, List.setIfInBounds_toArray, List.set_cons_zero, List.set_cons_succ])) | (refine q_step_ex (by rfl) ?_; apply Exists.intro; refine ⟨fun W hW => ?_, ?_⟩; (next => (have hWc := fun (b o : Nat) (h : b < _) => (Ext.out hW).cell (p := ⟨b, o, none⟩) h); (try have hLK := HLK.out W (Ext.out hW)); go_simp; first | rfl | (go_at_call 69; refine (key_any _ _).mono ?_; rintro e w'' ⟨rfl, hb2⟩; exact ⟨rfl, below_ext hW hb2⟩) | fail); (try simp only [Act.put, List.setIfInBounds_toArray, List.set_cons_zero, List.set_cons_succ])) | fail)
    refine wpQuiet_nil ?_
    intro w5 hb5
    go_wp2_with (first | (go_at_call 121; refine (HX.out _ _ _ _ v hk (B4'.out.ext hb5)).mono ?_; rintro e w6 ⟨rfl, B6, cs6⟩) | fail)
    go_end0
    exact ⟨rfl, c3, ⟨_, B6, HI.out v⟩, HCS.out.trans (r4.trans ((Cs.of_below hb5).trans cs6))⟩
/-- The rest of a list of orders when an ID goes. -/
def rmI (id : Int) (os : List Ord) : List Ord := os.filter fun o => !decide (o.id = id)
theorem rm_none {id : Int} {os : List Ord} (h : fndI id os = none) : rmI id os = os := by
  unfold fndI at h
  unfold rmI
  rw [List.filter_eq_self]
  intro o ho
  have := List.find?_eq_none.1 h o ho
  simpa using this
theorem rm_mid {A C : List Sl} {kk : Nat} {o : Ord} (h : ((A ++ (kk, o) :: C).map (·.2.id)).Nodup) : rmI o.id (osOf (A ++ (kk, o) :: C)) = osOf (A ++ C) := by
  rw [List.map_append, List.map_cons, List.nodup_append, List.nodup_cons] at h
  obtain ⟨_, ⟨h2, _⟩, h4⟩ := h
  have keep : ∀ l : List Sl, (∀ x ∈ l, x.2.id ≠ o.id) → rmI o.id (osOf l) = osOf l := fun l hl => by
    unfold rmI osOf
    rw [List.filter_eq_self]
    intro r hr
    obtain ⟨x, hx, rfl⟩ := List.mem_map.1 hr
    simp [hl x hx]
  have hA := keep A (fun x hx e => h4 _ (List.mem_map.2 ⟨x, hx, rfl⟩) _ (by simp) e)
  have hC := keep C (fun x hx e => h2 (List.mem_map.2 ⟨x, hx, e⟩))
  have e1 : osOf (A ++ (kk, o) :: C) = osOf A ++ o :: osOf C := by simp [osOf]
  have e2 : osOf (A ++ C) = osOf A ++ osOf C := by simp [osOf]
  rw [e1, e2]
  unfold rmI at *
  rw [List.filter_append, hA, List.filter_cons_of_neg (by simp), hC]
theorem remove_nil (id : Int) (w : World) : Calls Try.prog 23 #[.pointer none, .int .i64 id] w fun e w' => e = .returned (.tuple #[.agg ord0.arr, .int .i64 1]) ∧ Below w.heap.size w w' := by
  have hN0 : Blk (w.alloc (.cells #[.int .i64 0, .int .i64 0, .int .i64 0, .int .i64 0, .int .i64 0, .int .i64 0, .int .i64 0] 43)) w.heap.size 43 #[.int .i64 0, .int .i64 0, .int .i64 0, .int .i64 0, .int .i64 0, .int .i64 0, .int .i64 0] := Blk.new _ _ _ _ rfl
  have hb0 : Below w.heap.size w (w.alloc (.cells #[.int .i64 0, .int .i64 0, .int .i64 0, .int .i64 0, .int .i64 0, .int .i64 0, .int .i64 0] 43)) := by (repeat (first | with_reducible exact Below.refl _ _ | (with_reducible assumption) | (with_reducible refine below_alloc ?_ _) | (with_reducible refine below_ext (w1 := ?_) ?_ ?_; rotate_left 2; (with_reducible assumption)) | (with_reducible refine Below.setCell ?_ ?_ _; rotate_left; ((try simp) <;> omega)) | (with_reducible refine Below.drew ?_) | (with_reducible refine below_drewN ?_ _) | fail))
  go_enter Try.func23, Try.ntmps23
  go_wp2_with (first | ((with_reducible show wpList _ _ _ (⟨_, .store 43 _ _, _, _, _, _⟩ :: _) _ _); refine wpList_store_blk (by rfl) 43 _ _ (by rfl) _ _ (by rfl) (by rfl) _ _ hN0 (by kernel_rfl) (by rfl) ?_ ?_; (next => first | (simp [Value.oneCell']; done) | (simp [Value.oneCell', Edt.cells]; done) | exact Are.ordArr_one _); intro w3 hN3 hU3) | ((with_reducible show wpList _ _ _ (⟨_, .load 43 _, _, _, _, _⟩ :: _) _ _); refine wpList_load_ho 43 _ (by rfl) (by rfl) ?_ (.pointer (some ⟨_, 0, none⟩)) (by rfl) ?_ _ Try.underlying43 rfl ?_ ?_; rotate_left; (next => (repeat (first | (with_reducible refine BlkAt.new _ _ _ _ ?_; ((try simp) <;> omega)) | (with_reducible assumption) | (with_reducible refine Blk.at (t := ?_) ?_; rotate_left; with_reducible assumption) | with_reducible refine BlkAt.alloc ?_ _ | with_reducible refine BlkAt.drew ?_ | (with_reducible refine BlkAt.setSame ?_ _ _) | (with_reducible refine BlkAt.setCell ?_ ?_ _; rotate_left; ((try simp) <;> omega)) | (with_reducible refine BlkAt.ext (w := ?_) ?_ ?_; rotate_left 2; (with_reducible assumption)) | fail))); (next => kernel_rfl)) | fail)
  have hN5 : Blk w3 w.heap.size 43 ord0.arr := hN3
  exact bodyPost_ret (results_ord2 rfl _ _ _ _ _ (by rfl) (by rfl) hN5 rfl) rfl ⟨rfl, below_upd hb0 (Nat.le_refl _) hU3⟩
theorem remove_no (B : Bs w c b N most k ss) {id : Int} (hid : Wf id) (h : ∀ x ∈ ss, x.2.id ≠ id) : Calls Try.prog 23 #[.pointer (some ⟨b, 0, none⟩), .int .i64 id] w fun e w' => e = .returned (.tuple #[.agg ord0.arr, .int .i64 5]) ∧ Below w.heap.size w w' := by
  have hN0 : Blk (w.alloc (.cells #[.int .i64 0, .int .i64 0, .int .i64 0, .int .i64 0, .int .i64 0, .int .i64 0, .int .i64 0] 43)) w.heap.size 43 #[.int .i64 0, .int .i64 0, .int .i64 0, .int .i64 0, .int .i64 0, .int .i64 0, .int .i64 0] := Blk.new _ _ _ _ rfl
  have hb0 : Below w.heap.size w (w.alloc (.cells #[.int .i64 0, .int .i64 0, .int .i64 0, .int .i64 0, .int .i64 0, .int .i64 0, .int .i64 0] 43)) := by (repeat (first | with_reducible exact Below.refl _ _ | (with_reducible assumption) | (with_reducible refine below_alloc ?_ _) | (with_reducible refine below_ext (w1 := ?_) ?_ ?_; rotate_left 2; (with_reducible assumption)) | (with_reducible refine Below.setCell ?_ ?_ _; rotate_left; ((try simp) <;> omega)) | (with_reducible refine Below.drew ?_) | (with_reducible refine below_drewN ?_ _) | fail))
  have HF := Lib.hid (find_no (B.ext hb0) hid h)
  clear B h
  go_enter Try.func23, Try.ntmps23
  go_wp2_with (first | (go_at_call 76; refine HF.out.mono ?_; rintro e w1 ⟨rfl, hb1⟩; have hN1 := hN0.ext hb1; clear hN0; have hT1 := Blk.new w1 43 #[.int .i64 0, .int .i64 0, .int .i64 0, .int .i64 0, .int .i64 0, .int .i64 0, .int .i64 0] _ rfl) | (((with_reducible show wpList _ _ _ (⟨_, .store 43 _ _, _, _, _, _⟩ :: _) _ _); refine wpList_store_blk (by rfl) 43 _ _ (by rfl) _ _ (by rfl) (by rfl) _ _ hT1 (by kernel_rfl) (by rfl) ?_ ?_; (next => first | (simp [Value.oneCell']; done) | (simp [Value.oneCell']; done) | exact Are.ordArr_one _); intro w3 hT3 hU3); have hN3 := (hN1.alloc (.cells #[.int .i64 0, .int .i64 0, .int .i64 0, .int .i64 0, .int .i64 0, .int .i64 0, .int .i64 0] 43)).upd (by have := hN1.lt; omega) hU3) | ((with_reducible show wpList _ _ _ (⟨_, .load 43 _, _, _, _, _⟩ :: _) _ _); refine wpList_load_ho 43 _ (by rfl) (by rfl) ?_ (.pointer (some ⟨_, 0, none⟩)) (by rfl) ?_ _ Try.underlying43 rfl ?_ ?_; rotate_left; (next => (repeat (first | (with_reducible refine BlkAt.new _ _ _ _ ?_; ((try simp) <;> omega)) | (with_reducible assumption) | (with_reducible refine Blk.at (t := ?_) ?_; rotate_left; with_reducible assumption) | with_reducible refine BlkAt.alloc ?_ _ | with_reducible refine BlkAt.drew ?_ | (with_reducible refine BlkAt.setSame ?_ _ _) | (with_reducible refine BlkAt.setCell ?_ ?_ _; rotate_left; ((try simp) <;> omega)) | (with_reducible refine BlkAt.ext (w := ?_) ?_ ?_; rotate_left 2; (with_reducible assumption)) | fail))); (next => kernel_rfl)) | ((with_reducible show wpList _ _ _ (⟨_, .store 43 _ _, _, _, _, _⟩ :: _) _ _); refine wpList_store_blk (by rfl) 43 _ _ (by rfl) _ _ (by rfl) (by rfl) _ _ hN3 (by kernel_rfl) (by rfl) ?_ ?_; (next => first | (simp [Value.oneCell']; done) | (simp [Value.oneCell']; done) | exact Are.ordArr_one _); intro w4 hN4 hU4) | fail)
  have hb3 : Below w1.heap.size w1 w3 := below_upd (by (repeat (first | with_reducible exact Below.refl _ _ | (with_reducible assumption) | (with_reducible refine below_alloc ?_ _) | (with_reducible refine below_ext (w1 := ?_) ?_ ?_; rotate_left 2; (with_reducible assumption)) | (with_reducible refine Below.setCell ?_ ?_ _; rotate_left; ((try simp) <;> omega)) | (with_reducible refine Below.drew ?_) | (with_reducible refine below_drewN ?_ _) | fail))) (Nat.le_refl _) hU3
  have hN5 : Blk w4 w.heap.size 43 ord0.arr := hN4
  exact bodyPost_ret (results_ord2 rfl _ _ _ _ _ (by rfl) (by rfl) hN5 rfl) rfl ⟨rfl, below_upd (below_ext (below_ext hb0 hb1) hb3) (Nat.le_refl _) hU4⟩
theorem remove_yes {A C : List Sl} {kk : Nat} {o : Ord} (B : Bs w c b N most k (A ++ (kk, o) :: C)) (hk : k < 1000) : Calls Try.prog 23 #[.pointer (some ⟨b, 0, none⟩), .int .i64 o.id] w fun e w' => e = .returned (.tuple #[.agg o.arr, .int .i64 0]) ∧ ∃ c', Bs w' c' b N most (k + 1) (A ++ C) ∧ Cs c c' w w' := by
  have hbl := B.lt
  have h9 : c w.heap.size = 9 := by
    obtain ⟨d, B, I⟩ := B
    exact B.out _ (Nat.le_refl _)
  have h9b : ∀ q, w.heap.size ≤ q → c q = 9 := by
    obtain ⟨d, B, I⟩ := B
    exact B.out
  have hN0 : Blk (w.alloc (.cells #[.int .i64 0, .int .i64 0, .int .i64 0, .int .i64 0, .int .i64 0, .int .i64 0, .int .i64 0] 43)) w.heap.size 43 #[.int .i64 0, .int .i64 0, .int .i64 0, .int .i64 0, .int .i64 0, .int .i64 0, .int .i64 0] := Blk.new _ _ _ _ rfl
  have hb0 : Below w.heap.size w (w.alloc (.cells #[.int .i64 0, .int .i64 0, .int .i64 0, .int .i64 0, .int .i64 0, .int .i64 0, .int .i64 0] 43)) := by (repeat (first | with_reducible exact Below.refl _ _ | (with_reducible assumption) | (with_reducible refine below_alloc ?_ _) | (with_reducible refine below_ext (w1 := ?_) ?_ ?_; rotate_left 2; (with_reducible assumption)) | (with_reducible refine Below.setCell ?_ ?_ _; rotate_left; ((try simp) <;> omega)) | (with_reducible refine Below.drew ?_) | (with_reducible refine below_drewN ?_ _) | fail))
  have HF := Lib.hid (find_yes (B.ext hb0) (x := (kk, o)) (by simp))
  have HB := Lib.hid B
  clear B
  go_enter Try.func23, Try.ntmps23
  go_wp2_with (first | (go_at_call 76; refine HF.out.mono ?_; rintro e w1 ⟨rfl, hb1⟩; have hN1 := hN0.ext hb1; clear hN0; have hT1 := Blk.new w1 43 #[.int .i64 0, .int .i64 0, .int .i64 0, .int .i64 0, .int .i64 0, .int .i64 0, .int .i64 0] _ rfl) | (((with_reducible show wpList _ _ _ (⟨_, .store 43 _ _, _, _, _, _⟩ :: _) _ _); refine wpList_store_blk (by rfl) 43 _ _ (by rfl) _ _ (by rfl) (by rfl) _ _ hT1 (by kernel_rfl) (by rfl) ?_ ?_; (next => first | (simp [Value.oneCell']; done) | (simp [Value.oneCell']; done) | exact Are.ordArr_one _); intro w3 hT3 hU3); have cq4 : w3.cell? ⟨w1.heap.size, 4, none⟩ = some (.int .i64 o.qty) := hT3.cell 4; have hN3 := Lib.hid ((hN1.alloc (.cells #[.int .i64 0, .int .i64 0, .int .i64 0, .int .i64 0, .int .i64 0, .int .i64 0, .int .i64 0] 43)).upd (by have := hN1.lt; omega) hU3); have hb3 : Below w1.heap.size w1 w3 := below_upd (by (repeat (first | with_reducible exact Below.refl _ _ | (with_reducible assumption) | (with_reducible refine below_alloc ?_ _) | (with_reducible refine below_ext (w1 := ?_) ?_ ?_; rotate_left 2; (with_reducible assumption)) | (with_reducible refine Below.setCell ?_ ?_ _; rotate_left; ((try simp) <;> omega)) | (with_reducible refine Below.drew ?_) | (with_reducible refine below_drewN ?_ _) | fail))) (Nat.le_refl _) hU3; have hb03 := below_ext (below_ext hb0 hb1) hb3; have HG := Lib.hid (gone_any (HB.out.ext hb03) o ⟨rfl, rfl, rfl⟩ hk)) | ((with_reducible show wpList _ _ _ (⟨_, .load 43 _, _, _, _, _⟩ :: _) _ _); refine wpList_load_ho 43 _ (by rfl) (by rfl) ?_ (.pointer (some ⟨_, 0, none⟩)) (by rfl) ?_ _ Try.underlying43 rfl ?_ ?_; rotate_left; (next => (repeat (first | (with_reducible refine BlkAt.new _ _ _ _ ?_; ((try simp) <;> omega)) | (with_reducible assumption) | (with_reducible refine Blk.at (t := ?_) ?_; rotate_left; with_reducible assumption) | with_reducible refine BlkAt.alloc ?_ _ | with_reducible refine BlkAt.drew ?_ | (with_reducible refine BlkAt.setSame ?_ _ _) | (with_reducible refine BlkAt.setCell ?_ ?_ _; rotate_left; ((try simp) <;> omega)) | (with_reducible refine BlkAt.ext (w := ?_) ?_ ?_; rotate_left 2; (with_reducible assumption)) | fail))); (next => kernel_rfl)) | (go_at_call 77; refine HG.out.mono ?_; rintro e w4 ⟨rfl, c4, B4, cs4⟩; have hT4 := cs4.blk hT3 (h9b _ (by have := hb1.size; have := hb0.size; omega)); have hN4 := cs4.blk hN3.out h9; clear hT3 cq4) | ((with_reducible show wpList _ _ _ (⟨_, .store 43 _ _, _, _, _, _⟩ :: _) _ _); refine wpList_store_blk (by rfl) 43 _ _ (by rfl) _ _ (by rfl) (by rfl) _ _ hN4 (by kernel_rfl) (by rfl) ?_ ?_; (next => first | (simp [Value.oneCell']; done) | (simp [Value.oneCell']; done) | exact Are.ordArr_one _); intro w5 hN5 hU5) | fail)
  have hN5 : Blk w5 w.heap.size 43 o.arr := hN5
  refine bodyPost_ret (results_ord2 rfl _ _ _ _ _ (by rfl) (by rfl) hN5 rfl) rfl ⟨rfl, c4, ?_, ?_⟩
  · exact B4.only9 (Only.upd9 hU5 ((cs4.old _ hN3.out.lt).trans h9))
  · exact ((Cs.of_below hb03).trans cs4).upd (Nat.le_refl _) hU5
/-- What Remove answers. -/
theorem remove_any (B : Bs w c b N most k ss) {id : Int} (hid : Wf id) (hk : k < 1000) : Calls Try.prog 23 #[.pointer (some ⟨b, 0, none⟩), .int .i64 id] w fun e w' => e = .returned (.tuple #[.agg ((fndI id (osOf ss)).getD ord0).arr, .int .i64 (if (fndI id (osOf ss)).isSome then 0 else 5)]) ∧ ∃ c' ss', Bs w' c' b N most (k + 1) ss' ∧ osOf ss' = rmI id (osOf ss) ∧ Cs c c' w w' := by
  rcases fnd_cases ss id with ⟨x, hx, rfl, h2⟩ | ⟨h1, h2⟩
  · rw [h2]
    obtain ⟨A, C, rfl⟩ := List.append_of_mem hx
    obtain ⟨kk, o⟩ := x
    have hids : ((A ++ (kk, o) :: C).map (·.2.id)).Nodup := by
      obtain ⟨d, B, I⟩ := B
      exact I.ids
    refine (remove_yes B hk).mono ?_
    rintro e w' ⟨rfl, c', h3, h4⟩
    exact ⟨rfl, c', _, h3, (rm_mid hids).symm, h4⟩
  · rw [h2]
    refine (remove_no B hid h1).mono ?_
    rintro e w' ⟨rfl, hb⟩
    exact ⟨rfl, c, ss, (B.ext hb).mono1 hk, (rm_none h2).symm, Cs.of_below hb⟩
end
end Bk
end Go.Proofs.Ytgaialcbpglhaaa
