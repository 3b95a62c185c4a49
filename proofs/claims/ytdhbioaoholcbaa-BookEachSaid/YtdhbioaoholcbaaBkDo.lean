/- This text proves what an act on both books answers: the same on both. It has no conditions but those that it states. -/
import Derived.Test.YtdhbioaoholcbaaBkD
namespace Go.Proofs.Ytdhbioaoholcbaa
set_option linter.unusedVariables false
open Go.RowKit
namespace Bk
set_option maxHeartbeats 4000000
set_option maxRecDepth 10000
open Rk (Rb wp_calm)
open Idx (Wf)
structure Ac where
  (kind : Int) (o : Ord) (by_ : Int)
def Ac.cells (x : Ac) : List Value := [.int .i64 x.kind, .int .i64 x.o.id, .int .i64 x.o.owner, .int .i64 x.o.side, .int .i64 x.o.price, .int .i64 x.o.qty, .int .i64 x.o.flags, .int .i64 x.o.seq, .int .i64 x.by_]
def Ac.arr (x : Ac) : Array Value := x.cells.toArray
@[go_sem] theorem Ac.arr_size (x : Ac) : x.arr.size = 9 := rfl
@[go_sem] theorem Ac.arr_0 (x : Ac) : x.arr[0]? = some (.int .i64 x.kind) := rfl
@[go_sem] theorem Ac.arr_1 (x : Ac) : x.arr[1]? = some (.int .i64 x.o.id) := rfl
@[go_sem] theorem Ac.arr_8 (x : Ac) : x.arr[8]? = some (.int .i64 x.by_) := rfl
def SDo (ab : Nat) (o : Ord) (W : World) : Prop := W.cell? ⟨ab, 1, none⟩ = some (.int .i64 o.id) ∧ (W.cell? ⟨ab, 2, none⟩ = some (.int .i64 o.owner) ∧ W.cell? ⟨ab, 3, none⟩ = some (.int .i64 o.side) ∧ W.cell? ⟨ab, 4, none⟩ = some (.int .i64 o.price) ∧ W.cell? ⟨ab, 5, none⟩ = some (.int .i64 o.qty) ∧ W.cell? ⟨ab, 6, none⟩ = some (.int .i64 o.flags) ∧ W.cell? ⟨ab, 7, none⟩ = some (.int .i64 o.seq))
theorem sdo_of {x : Ac} {ab : Nat} {W : World} (h : Blk W ab 46 x.arr) : SDo ab x.o W := ⟨h.cell 1, h.cell 2, h.cell 3, h.cell 4, h.cell 5, h.cell 6, h.cell 7⟩
section
variable {w w' : World} {c c' : Nat → Nat} {b rb N most k k' : Nat} {ss ss' : List Sl} {A : Option Addr} {cap : Nat}
/-- What an act leaves: both books alike again. -/
def DoPost (w : World) (c : Nat → Nat) (b rb N most k : Nat) (e : Ending) (w' : World) : Prop :=
  e = .returned (.bool true) ∧ ∃ c' ss' A' cap', Two w' c' b rb N most (k + 1) ss' A' cap' ∧ Cr rb c c' w w'
theorem Bs.small (B : Bs w c b N most k ss) : ∀ o ∈ osOf ss, o.qty ≤ 4294967296 := by
  obtain ⟨d, B, I⟩ := B
  intro o ho
  obtain ⟨y, hy, rfl⟩ := List.mem_map.1 ho
  have := I.ok y hy
  unfold okO at this
  omega
theorem do_add (T : Two w c b rb N most k ss A cap) (x : Ac) (hx : x.kind = 0) (hwf : Wf x.o.id) (hk : k < 1000) (hl : (osOf ss).length < 1000) : Calls Try.prog 16 #[.pointer (some ⟨b, 0, none⟩), .pointer (some ⟨rb, 0, none⟩), .agg x.arr] w (DoPost w c b rb N most k) := by
  have hA0 : Blk (w.alloc (.cells x.arr 46)) w.heap.size 46 x.arr := Blk.new _ _ _ _ rfl
  have hb0 : Below w.heap.size w (w.alloc (.cells x.arr 46)) := by (repeat (first | with_reducible exact Below.refl _ _ | (with_reducible assumption) | (with_reducible refine below_alloc ?_ _) | (with_reducible refine below_ext (w1 := ?_) ?_ ?_; rotate_left 2; (with_reducible assumption)) | (with_reducible refine Below.setCell ?_ ?_ _; rotate_left; ((try simp) <;> omega)) | (with_reducible refine Below.drew ?_) | (with_reducible refine below_drewN ?_ _) | fail))
  have c0 : (w.alloc (.cells x.arr 46)).cell? ⟨w.heap.size, 0, none⟩ = some (.int .i64 0) := by rw [← hx]; exact hA0.cell 0
  have h9 : c w.heap.size = 9 := by
    obtain ⟨d, B, I⟩ := T.bs
    exact B.out _ (Nat.le_refl _)
  have hrl := T.rf.hd.lt
  have T0 := T.ext hb0
  clear T hx
  go_enter Try.func16, Try.ntmps16
  go_wp2_with fail
  generalize w.alloc (.cells x.arr 46) = w0 at *
  clear c0
  have hbd : Below w0.heap.size w0 w0.drew := (Below.refl _ _).drew
  have T1 := T0.ext hbd
  have hA1 := hA0.ext hbd
  have hC1 : Cr rb c c w w0.drew := Cr.of_below (below_ext hb0 hbd)
  have hzb := hA0.lt
  generalize hab : w.heap.size = ab at *
  refine wp_region_T (S := SDo ab x.o) 9 (by kernel_rfl) ?_
  generalize w0.drew = w1 at T1 hA1 hC1 ⊢
  clear T0 hA0 hb0 hbd hzb
  have hS := sdo_of hA1
  (refine T_take (i := 0) rfl (by kernel_rfl) (fun _ _ _ _ h => h) hS ?_; apply Exists.intro; refine ⟨.inl ⟨by rfl, fun W hW => ?_⟩, ?_⟩; (next => (obtain ⟨hs1, hs2⟩ := hW; go_simp; first | done | rfl)); simp only [Act.put, List.setIfInBounds_toArray, List.set_cons_zero, List.set_cons_succ])
  (refine T_take (i := 1) rfl (by kernel_rfl) (fun _ _ _ _ h => h) hS ?_; apply Exists.intro; refine ⟨.inl ⟨by rfl, fun W hW => ?_⟩, ?_⟩; (next => (obtain ⟨hs1, hs2⟩ := hW; go_simp; first | done | rfl)); simp only [Act.put, List.setIfInBounds_toArray, List.set_cons_zero, List.set_cons_succ])
  (refine T_take (i := 2) rfl (by kernel_rfl) (fun _ _ _ _ h => h) hS ?_; apply Exists.intro; refine ⟨.inl ⟨by rfl, fun W hW => ?_⟩, ?_⟩; (next => (obtain ⟨hs1, hs2⟩ := hW; go_simp; first | done | rfl)); simp only [Act.put, List.setIfInBounds_toArray, List.set_cons_zero, List.set_cons_succ])
  (refine T_take (i := 4) rfl (by kernel_rfl) (fun _ _ _ _ h => h) hS ?_; apply Exists.intro; refine ⟨.inl ⟨by rfl, fun W hW => ?_⟩, ?_⟩; (next => (obtain ⟨hs1, hs2⟩ := hW; go_simp; first | done | rfl)); simp only [Act.put, List.setIfInBounds_toArray, List.set_cons_zero, List.set_cons_succ])
  (refine T_take (i := 5) rfl (by kernel_rfl) (fun _ _ _ _ h => h) hS ?_; apply Exists.intro; refine ⟨.inl ⟨by rfl, fun W hW => ?_⟩, ?_⟩; (next => (obtain ⟨hs1, hs2⟩ := hW; go_simp; first | done | rfl)); simp only [Act.put, List.setIfInBounds_toArray, List.set_cons_zero, List.set_cons_succ])
  (refine T_take (i := 6) rfl (by kernel_rfl) (fun _ _ _ _ h => h) hS ?_; apply Exists.intro; refine ⟨.inl ⟨by rfl, fun W hW => ?_⟩, ?_⟩; (next => (obtain ⟨hs1, hs2⟩ := hW; go_simp; first | done | rfl)); simp only [Act.put, List.setIfInBounds_toArray, List.set_cons_zero, List.set_cons_succ])
  refine T_all [3] (by kernel_rfl) (by decide) ?_
  intro j hj
  simp only [List.mem_cons, List.mem_nil_iff, or_false, List.not_mem_nil] at hj
  subst hj
  refine T_op rfl (by rfl) (wp_enter (F := 8) (args := #[.pointer (some ⟨b, 0, none⟩), .agg x.o.arr]) (v := .int .i64 (addF N most (osOf ss) x.o)) (by go_simp; first | done | rfl) ?_)
  refine (add_any T1.bs x.o hwf hk).mono ?_
  rintro e w2 ⟨rfl, c2, ss2, B2, hos, hs2⟩
  obtain ⟨hR2, h92⟩ := T1.left hs2
  have hA2 : Blk w2 ab 46 x.arr := hs2.blk hA1 h9
  have hC2 := hC1.trans (Cr.of_cs hs2)
  refine ⟨rfl, .inr (sdo_of hA2), ?_⟩
  simp only [Act.put, List.setIfInBounds_toArray, List.set_cons_zero, List.set_cons_succ]
  refine T_all [7] (by kernel_rfl) (by decide) ?_
  intro j hj
  simp only [List.mem_cons, List.mem_nil_iff, or_false, List.not_mem_nil] at hj
  subst hj
  refine T_op rfl (by rfl) (wp_enter (F := 45) (args := #[.pointer (some ⟨rb, 0, none⟩), .agg x.o.arr]) (v := .int .i64 (addF N most (osOf ss) x.o)) (by go_simp; first | done | rfl) ?_)
  refine (Rk.radd_any hR2 x.o hl).mono ?_
  rintro e w3 ⟨rfl, ⟨A', cap', hR3, hA'⟩, hb3⟩
  have hA3 : Blk w3 ab 46 x.arr := (hb3.block ab hA2.lt (by simp; omega)).trans hA2
  have B3 := right_bs B2 h92.1 hb3
  have h93 := right_c9 B2 h92.2 hA'
  have hC3 := hC2.trans (Cr.of_butL hb3)
  refine ⟨rfl, .inr (sdo_of hA3), ?_⟩
  simp only [Act.put, List.setIfInBounds_toArray, List.set_cons_zero, List.set_cons_succ]
  have HP : Hid (∃ c' ss' A' cap', Two w3 c' b rb N most (k + 1) ss' A' cap' ∧ Cr rb c c' w w3) := Lib.hid ⟨c2, ss2, A', cap', ⟨B3, by rw [hos]; exact hR3, h92.1, h93⟩, hC3⟩
  generalize addF N most (osOf ss) x.o = f at *
  clear hC1 hC2 hC3 hA1 hA2 T1 B2 B3 hR2 hR3 hs2 hb3
  refine T_all [8] (by kernel_rfl) (by decide) ?_
  intro j hj
  simp only [List.mem_cons, List.mem_nil_iff, or_false, List.not_mem_nil] at hj
  subst hj
  refine T_op rfl (by rfl) (wp_calm (v := .bool true) (by go_simp; first | done | rfl | simp) ⟨.inr (sdo_of hA3), ?_⟩)
  simp only [Act.put, List.setIfInBounds_toArray, List.set_cons_zero, List.set_cons_succ]
  refine T_all [9] (by kernel_rfl) (by decide) ?_
  intro j hj
  simp only [List.mem_cons, List.mem_nil_iff, or_false, List.not_mem_nil] at hj
  subst hj
  refine T_op rfl (by rfl) (wp_calm (v := .bool true) (by go_simp; first | done | rfl | simp) ⟨.inl rfl, ?_⟩)
  simp only [Act.put, List.setIfInBounds_toArray, List.set_cons_zero, List.set_cons_succ]
  refine T_done (by kernel_rfl) ?_
  go_wp2_with fail
  go_ret
  exact ⟨rfl, HP.out⟩
theorem do_remove (T : Two w c b rb N most k ss A cap) (x : Ac) (hx : x.kind = 1) (hwf : Wf x.o.id) (hk : k < 1000) : Calls Try.prog 16 #[.pointer (some ⟨b, 0, none⟩), .pointer (some ⟨rb, 0, none⟩), .agg x.arr] w (DoPost w c b rb N most k) := by
  have hA0 : Blk (w.alloc (.cells x.arr 46)) w.heap.size 46 x.arr := Blk.new _ _ _ _ rfl
  have hb0 : Below w.heap.size w (w.alloc (.cells x.arr 46)) := by (repeat (first | with_reducible exact Below.refl _ _ | (with_reducible assumption) | (with_reducible refine below_alloc ?_ _) | (with_reducible refine below_ext (w1 := ?_) ?_ ?_; rotate_left 2; (with_reducible assumption)) | (with_reducible refine Below.setCell ?_ ?_ _; rotate_left; ((try simp) <;> omega)) | (with_reducible refine Below.drew ?_) | (with_reducible refine below_drewN ?_ _) | fail))
  have c0 : (w.alloc (.cells x.arr 46)).cell? ⟨w.heap.size, 0, none⟩ = some (.int .i64 1) := by rw [← hx]; exact hA0.cell 0
  have h9 : c w.heap.size = 9 := by
    obtain ⟨d, B, I⟩ := T.bs
    exact B.out _ (Nat.le_refl _)
  have hrl := T.rf.hd.lt
  have T0 := T.ext hb0
  have HNb := Lib.hid T.bs.ids
  have HB := Lib.hid (remove_any T0.bs hwf hk)
  have hC0 : Cr rb c c w (w.alloc (.cells x.arr 46)) := Cr.of_below hb0
  have HT0 := Lib.hid T0
  have c1 : (w.alloc (.cells x.arr 46)).cell? ⟨w.heap.size, 1, none⟩ = some (.int .i64 x.o.id) := hA0.cell 1
  have hz0 : w.heap.size < (w.alloc (.cells x.arr 46)).heap.size := hA0.lt
  have HRM := Lib.hid (fun (W : World) (q : Rb W rb (N : Int) (most : Int) (osOf ss) A cap) => Rk.rremove_any q HNb.out x.o.id)
  clear T hx T0
  generalize ((Bk.fndI x.o.id (osOf ss)).getD Are.ord0) = ro at *
  generalize (if (Bk.fndI x.o.id (osOf ss)).isSome = true then (0 : Int) else 5) = fo at *
  go_enter Try.func16, Try.ntmps16
  go_wp2_with (first | (go_at_call 13; refine HB.out.mono ?_; rintro e w2 ⟨rfl, c2, ss2, B2, hos, hs2⟩; have hX2 := Blk.new w2 30 #[.int .i64 0, .int .i64 0, .int .i64 0, .int .i64 0, .int .i64 0, .int .i64 0, .int .i64 0] _ rfl; have hA2 : Blk w2 w.heap.size 46 x.arr := hs2.blk hA0 h9) | (((with_reducible show wpList _ _ _ (⟨_, .store 30 _ _, _, _, _, _⟩ :: _) _ _); refine wpList_store_blk (by rfl) 30 _ _ (by rfl) _ _ (by rfl) (by rfl) _ _ hX2 (by kernel_rfl) (by rfl) ?_ ?_; (next => first | (simp [Value.oneCell']; done) | (simp [Value.oneCell', Edt.cells]; done) | exact Are.ordArr_one _); intro w3 hX3 hU3); have hb23 : Below w2.heap.size w2 w3 := below_upd (by (repeat (first | with_reducible exact Below.refl _ _ | (with_reducible assumption) | (with_reducible refine below_alloc ?_ _) | (with_reducible refine below_ext (w1 := ?_) ?_ ?_; rotate_left 2; (with_reducible assumption)) | (with_reducible refine Below.setCell ?_ ?_ _; rotate_left; ((try simp) <;> omega)) | (with_reducible refine Below.drew ?_) | (with_reducible refine below_drewN ?_ _) | fail))) (Nat.le_refl _) hU3; have hA3 := hA2.ext hb23; have c3 : w3.cell? ⟨w.heap.size, 1, none⟩ = some (.int .i64 x.o.id) := hA3.cell 1; have hR3 := (HT0.out.left hs2).1.ext hb23; clear hX2 hU3) | (go_at_call 46; refine (HRM.out _ hR3).mono ?_; rintro e w4 ⟨rfl, ⟨A', cap', hR4, hA'⟩, hb4⟩; have hX4 := Blk.new w4 30 #[.int .i64 0, .int .i64 0, .int .i64 0, .int .i64 0, .int .i64 0, .int .i64 0, .int .i64 0] _ rfl; have hX34 : Blk w4 w2.heap.size 30 ro.arr := (hb4.block w2.heap.size hX3.lt (by have := hs2.size; simp; omega)).trans hX3) | (((with_reducible show wpList _ _ _ (⟨_, .store 30 _ _, _, _, _, _⟩ :: _) _ _); refine wpList_store_blk (by rfl) 30 _ _ (by rfl) _ _ (by rfl) (by rfl) _ _ hX4 (by kernel_rfl) (by rfl) ?_ ?_; (next => first | (simp [Value.oneCell']; done) | (simp [Value.oneCell', Edt.cells]; done) | exact Are.ordArr_one _); intro w5 hX5 hU5); have hb45 : Below w4.heap.size w4 w5 := below_upd (by (repeat (first | with_reducible exact Below.refl _ _ | (with_reducible assumption) | (with_reducible refine below_alloc ?_ _) | (with_reducible refine below_ext (w1 := ?_) ?_ ?_; rotate_left 2; (with_reducible assumption)) | (with_reducible refine Below.setCell ?_ ?_ _; rotate_left; ((try simp) <;> omega)) | (with_reducible refine Below.drew ?_) | (with_reducible refine below_drewN ?_ _) | fail))) (Nat.le_refl _) hU5; have hX35 := hX34.ext hb45; clear hX4 hU5) | ((with_reducible show wpList _ _ _ (⟨_, .load 30 _, _, _, _, _⟩ :: _) _ _); refine wpList_load_ho 30 _ (by rfl) (by rfl) ?_ (.pointer (some ⟨_, 0, none⟩)) (by rfl) ?_ _ Try.underlying30 rfl ?_ ?_; rotate_left; (next => (repeat (first | (with_reducible refine BlkAt.new _ _ _ _ ?_; ((try simp) <;> omega)) | (with_reducible assumption) | (with_reducible refine Blk.at (t := ?_) ?_; rotate_left; with_reducible assumption) | with_reducible refine BlkAt.alloc ?_ _ | with_reducible refine BlkAt.drew ?_ | (with_reducible refine BlkAt.setSame ?_ _ _) | (with_reducible refine BlkAt.setCell ?_ ?_ _; rotate_left; ((try simp) <;> omega)) | (with_reducible refine BlkAt.ext (w := ?_) ?_ ?_; rotate_left 2; (with_reducible assumption)) | fail))); (next => kernel_rfl)) | (refine wpList_eq_ord (by rfl) _ _ _ (by rfl) ro ro (by rfl) (by rfl) ?_; rw [ordEq_refl]) | fail)
  obtain ⟨hR2', h92⟩ := HT0.out.left hs2
  have B3 := B2.ext hb23
  have B4 := right_bs B3 h92.1 hb4
  have h94 := right_c9 B3 h92.2 hA'
  have hC := (((hC0.trans (Cr.of_cs hs2)).trans (Cr.of_below hb23)).trans (Cr.of_butL hb4)).trans (Cr.of_below hb45)
  go_ret
  exact ⟨rfl, c2, ss2, A', cap', ⟨B4.ext hb45, by rw [hos]; exact hR4.ext hb45, h92.1, h94⟩, hC⟩
theorem do_reduce (T : Two w c b rb N most k ss A cap) (x : Ac) (hx : x.kind = 2) (hwf : Wf x.o.id) (hk : k < 1000) : Calls Try.prog 16 #[.pointer (some ⟨b, 0, none⟩), .pointer (some ⟨rb, 0, none⟩), .agg x.arr] w (DoPost w c b rb N most k) := by
  have hA0 : Blk (w.alloc (.cells x.arr 46)) w.heap.size 46 x.arr := Blk.new _ _ _ _ rfl
  have hb0 : Below w.heap.size w (w.alloc (.cells x.arr 46)) := by (repeat (first | with_reducible exact Below.refl _ _ | (with_reducible assumption) | (with_reducible refine below_alloc ?_ _) | (with_reducible refine below_ext (w1 := ?_) ?_ ?_; rotate_left 2; (with_reducible assumption)) | (with_reducible refine Below.setCell ?_ ?_ _; rotate_left; ((try simp) <;> omega)) | (with_reducible refine Below.drew ?_) | (with_reducible refine below_drewN ?_ _) | fail))
  have c0 : (w.alloc (.cells x.arr 46)).cell? ⟨w.heap.size, 0, none⟩ = some (.int .i64 2) := by rw [← hx]; exact hA0.cell 0
  have h9 : c w.heap.size = 9 := by
    obtain ⟨d, B, I⟩ := T.bs
    exact B.out _ (Nat.le_refl _)
  have hrl := T.rf.hd.lt
  have T0 := T.ext hb0
  have HNb := Lib.hid T.bs.ids
  have HOK := Lib.hid T.bs.small
  have c8 : (w.alloc (.cells x.arr 46)).cell? ⟨w.heap.size, 8, none⟩ = some (.int .i64 x.by_) := hA0.cell 8
  have HB := Lib.hid (reduce_any T0.bs x.by_ hwf hk)
  have hC0 : Cr rb c c w (w.alloc (.cells x.arr 46)) := Cr.of_below hb0
  have HT0 := Lib.hid T0
  have c1 : (w.alloc (.cells x.arr 46)).cell? ⟨w.heap.size, 1, none⟩ = some (.int .i64 x.o.id) := hA0.cell 1
  have hz0 : w.heap.size < (w.alloc (.cells x.arr 46)).heap.size := hA0.lt
  have HRM := Lib.hid (fun (W : World) (q : Rb W rb (N : Int) (most : Int) (osOf ss) A cap) => Rk.rreduce_any q HNb.out HOK.out x.o.id x.by_)
  clear T hx T0
  generalize (Bk.redF x.o.id x.by_ (osOf ss)).2 = ro at *
  generalize (Bk.redF x.o.id x.by_ (osOf ss)).1 = fo at *
  go_enter Try.func16, Try.ntmps16
  go_wp2_with (first | (go_at_call 19; refine HB.out.mono ?_; rintro e w2 ⟨rfl, c2, ss2, B2, hos, hs2⟩; have hX2 := Blk.new w2 30 #[.int .i64 0, .int .i64 0, .int .i64 0, .int .i64 0, .int .i64 0, .int .i64 0, .int .i64 0] _ rfl; have hA2 : Blk w2 w.heap.size 46 x.arr := hs2.blk hA0 h9) | (((with_reducible show wpList _ _ _ (⟨_, .store 30 _ _, _, _, _, _⟩ :: _) _ _); refine wpList_store_blk (by rfl) 30 _ _ (by rfl) _ _ (by rfl) (by rfl) _ _ hX2 (by kernel_rfl) (by rfl) ?_ ?_; (next => first | (simp [Value.oneCell']; done) | (simp [Value.oneCell', Edt.cells]; done) | exact Are.ordArr_one _); intro w3 hX3 hU3); have hb23 : Below w2.heap.size w2 w3 := below_upd (by (repeat (first | with_reducible exact Below.refl _ _ | (with_reducible assumption) | (with_reducible refine below_alloc ?_ _) | (with_reducible refine below_ext (w1 := ?_) ?_ ?_; rotate_left 2; (with_reducible assumption)) | (with_reducible refine Below.setCell ?_ ?_ _; rotate_left; ((try simp) <;> omega)) | (with_reducible refine Below.drew ?_) | (with_reducible refine below_drewN ?_ _) | fail))) (Nat.le_refl _) hU3; have hA3 := hA2.ext hb23; have c3 : w3.cell? ⟨w.heap.size, 1, none⟩ = some (.int .i64 x.o.id) := hA3.cell 1; have c38 : w3.cell? ⟨w.heap.size, 8, none⟩ = some (.int .i64 x.by_) := hA3.cell 8; have hR3 := (HT0.out.left hs2).1.ext hb23; clear hX2 hU3) | (go_at_call 47; refine (HRM.out _ hR3).mono ?_; rintro e w4 ⟨rfl, ⟨A', cap', hR4, hA'⟩, hb4⟩; have hX4 := Blk.new w4 30 #[.int .i64 0, .int .i64 0, .int .i64 0, .int .i64 0, .int .i64 0, .int .i64 0, .int .i64 0] _ rfl; have hX34 : Blk w4 w2.heap.size 30 ro.arr := (hb4.block w2.heap.size hX3.lt (by have := hs2.size; simp; omega)).trans hX3) | (((with_reducible show wpList _ _ _ (⟨_, .store 30 _ _, _, _, _, _⟩ :: _) _ _); refine wpList_store_blk (by rfl) 30 _ _ (by rfl) _ _ (by rfl) (by rfl) _ _ hX4 (by kernel_rfl) (by rfl) ?_ ?_; (next => first | (simp [Value.oneCell']; done) | (simp [Value.oneCell', Edt.cells]; done) | exact Are.ordArr_one _); intro w5 hX5 hU5); have hb45 : Below w4.heap.size w4 w5 := below_upd (by (repeat (first | with_reducible exact Below.refl _ _ | (with_reducible assumption) | (with_reducible refine below_alloc ?_ _) | (with_reducible refine below_ext (w1 := ?_) ?_ ?_; rotate_left 2; (with_reducible assumption)) | (with_reducible refine Below.setCell ?_ ?_ _; rotate_left; ((try simp) <;> omega)) | (with_reducible refine Below.drew ?_) | (with_reducible refine below_drewN ?_ _) | fail))) (Nat.le_refl _) hU5; have hX35 := hX34.ext hb45; clear hX4 hU5) | ((with_reducible show wpList _ _ _ (⟨_, .load 30 _, _, _, _, _⟩ :: _) _ _); refine wpList_load_ho 30 _ (by rfl) (by rfl) ?_ (.pointer (some ⟨_, 0, none⟩)) (by rfl) ?_ _ Try.underlying30 rfl ?_ ?_; rotate_left; (next => (repeat (first | (with_reducible refine BlkAt.new _ _ _ _ ?_; ((try simp) <;> omega)) | (with_reducible assumption) | (with_reducible refine Blk.at (t := ?_) ?_; rotate_left; with_reducible assumption) | with_reducible refine BlkAt.alloc ?_ _ | with_reducible refine BlkAt.drew ?_ | (with_reducible refine BlkAt.setSame ?_ _ _) | (with_reducible refine BlkAt.setCell ?_ ?_ _; rotate_left; ((try simp) <;> omega)) | (with_reducible refine BlkAt.ext (w := ?_) ?_ ?_; rotate_left 2; (with_reducible assumption)) | fail))); (next => kernel_rfl)) | (refine wpList_eq_ord (by rfl) _ _ _ (by rfl) ro ro (by rfl) (by rfl) ?_; rw [ordEq_refl]) | fail)
  obtain ⟨hR2', h92⟩ := HT0.out.left hs2
  have B3 := B2.ext hb23
  have B4 := right_bs B3 h92.1 hb4
  have h94 := right_c9 B3 h92.2 hA'
  have hC := (((hC0.trans (Cr.of_cs hs2)).trans (Cr.of_below hb23)).trans (Cr.of_butL hb4)).trans (Cr.of_below hb45)
  go_ret
  exact ⟨rfl, c2, ss2, A', cap', ⟨B4.ext hb45, by rw [hos]; exact hR4.ext hb45, h92.1, h94⟩, hC⟩
theorem do_get (T : Two w c b rb N most k ss A cap) (x : Ac) (hx : x.kind ≠ 0 ∧ x.kind ≠ 1 ∧ x.kind ≠ 2) (hwf : Wf x.o.id) (hk : k < 1000) : Calls Try.prog 16 #[.pointer (some ⟨b, 0, none⟩), .pointer (some ⟨rb, 0, none⟩), .agg x.arr] w (DoPost w c b rb N most k) := by
  have hA0 : Blk (w.alloc (.cells x.arr 46)) w.heap.size 46 x.arr := Blk.new _ _ _ _ rfl
  have hb0 : Below w.heap.size w (w.alloc (.cells x.arr 46)) := by (repeat (first | with_reducible exact Below.refl _ _ | (with_reducible assumption) | (with_reducible refine below_alloc ?_ _) | (with_reducible refine below_ext (w1 := ?_) ?_ ?_; rotate_left 2; (with_reducible assumption)) | (with_reducible refine Below.setCell ?_ ?_ _; rotate_left; ((try simp) <;> omega)) | (with_reducible refine Below.drew ?_) | (with_reducible refine below_drewN ?_ _) | fail))
  have c0 : (w.alloc (.cells x.arr 46)).cell? ⟨w.heap.size, 0, none⟩ = some (.int .i64 x.kind) := hA0.cell 0
  have k0 : (x.kind == 0) = false := by simpa using hx.1
  have k1 : (x.kind == 1) = false := by simpa using hx.2.1
  have k2 : (x.kind == 2) = false := by simpa using hx.2.2
  have hrl := T.rf.hd.lt
  have T0 := T.ext hb0
  have HB := Lib.hid (bget_any T0.bs hwf)
  have HT0 := Lib.hid T0
  have HT := Lib.hid T
  have c1 : (w.alloc (.cells x.arr 46)).cell? ⟨w.heap.size, 1, none⟩ = some (.int .i64 x.o.id) := hA0.cell 1
  have HRM := Lib.hid (fun (W : World) (q : Rb W rb (N : Int) (most : Int) (osOf ss) A cap) => Rk.rget_any q x.o.id)
  clear T hx T0
  generalize ((Bk.fndI x.o.id (osOf ss)).getD Are.ord0) = ro at *
  generalize (Bk.fndI x.o.id (osOf ss)).isSome = fo at *
  go_enter Try.func16, Try.ntmps16
  go_wp2_with (first | (go_at_call 20; refine HB.out.mono ?_; rintro e w2 ⟨rfl, hb2⟩; have hX2 := Blk.new w2 30 #[.int .i64 0, .int .i64 0, .int .i64 0, .int .i64 0, .int .i64 0, .int .i64 0, .int .i64 0] _ rfl; have hA2 := hA0.ext hb2) | (((with_reducible show wpList _ _ _ (⟨_, .store 30 _ _, _, _, _, _⟩ :: _) _ _); refine wpList_store_blk (by rfl) 30 _ _ (by rfl) _ _ (by rfl) (by rfl) _ _ hX2 (by kernel_rfl) (by rfl) ?_ ?_; (next => first | (simp [Value.oneCell']; done) | (simp [Value.oneCell', Edt.cells]; done) | exact Are.ordArr_one _); intro w3 hX3 hU3); have hb23 : Below w2.heap.size w2 w3 := below_upd (by (repeat (first | with_reducible exact Below.refl _ _ | (with_reducible assumption) | (with_reducible refine below_alloc ?_ _) | (with_reducible refine below_ext (w1 := ?_) ?_ ?_; rotate_left 2; (with_reducible assumption)) | (with_reducible refine Below.setCell ?_ ?_ _; rotate_left; ((try simp) <;> omega)) | (with_reducible refine Below.drew ?_) | (with_reducible refine below_drewN ?_ _) | fail))) (Nat.le_refl _) hU3; have hA3 := hA2.ext hb23; have c3 : w3.cell? ⟨w.heap.size, 1, none⟩ = some (.int .i64 x.o.id) := hA3.cell 1; have hR3 := (HT0.out.ext (below_ext hb2 hb23)).rf; clear hX2 hU3) | (go_at_call 48; refine (HRM.out _ hR3).mono ?_; rintro e w4 ⟨rfl, hb4⟩; have hX4 := Blk.new w4 30 #[.int .i64 0, .int .i64 0, .int .i64 0, .int .i64 0, .int .i64 0, .int .i64 0, .int .i64 0] _ rfl; have hX34 := hX3.ext hb4) | (((with_reducible show wpList _ _ _ (⟨_, .store 30 _ _, _, _, _, _⟩ :: _) _ _); refine wpList_store_blk (by rfl) 30 _ _ (by rfl) _ _ (by rfl) (by rfl) _ _ hX4 (by kernel_rfl) (by rfl) ?_ ?_; (next => first | (simp [Value.oneCell']; done) | (simp [Value.oneCell', Edt.cells]; done) | exact Are.ordArr_one _); intro w5 hX5 hU5); have hb45 : Below w4.heap.size w4 w5 := below_upd (by (repeat (first | with_reducible exact Below.refl _ _ | (with_reducible assumption) | (with_reducible refine below_alloc ?_ _) | (with_reducible refine below_ext (w1 := ?_) ?_ ?_; rotate_left 2; (with_reducible assumption)) | (with_reducible refine Below.setCell ?_ ?_ _; rotate_left; ((try simp) <;> omega)) | (with_reducible refine Below.drew ?_) | (with_reducible refine below_drewN ?_ _) | fail))) (Nat.le_refl _) hU5; have hX35 := hX34.ext hb45; clear hX4 hU5) | ((with_reducible show wpList _ _ _ (⟨_, .load 30 _, _, _, _, _⟩ :: _) _ _); refine wpList_load_ho 30 _ (by rfl) (by rfl) ?_ (.pointer (some ⟨_, 0, none⟩)) (by rfl) ?_ _ Try.underlying30 rfl ?_ ?_; rotate_left; (next => (repeat (first | (with_reducible refine BlkAt.new _ _ _ _ ?_; ((try simp) <;> omega)) | (with_reducible assumption) | (with_reducible refine Blk.at (t := ?_) ?_; rotate_left; with_reducible assumption) | with_reducible refine BlkAt.alloc ?_ _ | with_reducible refine BlkAt.drew ?_ | (with_reducible refine BlkAt.setSame ?_ _ _) | (with_reducible refine BlkAt.setCell ?_ ?_ _; rotate_left; ((try simp) <;> omega)) | (with_reducible refine BlkAt.ext (w := ?_) ?_ ?_; rotate_left 2; (with_reducible assumption)) | fail))); (next => kernel_rfl)) | (refine wpList_eq_ord (by rfl) _ _ _ (by rfl) ro ro (by rfl) (by rfl) ?_; rw [ordEq_refl]) | fail)
  have hbb := below_ext hb0 (below_ext (below_ext hb2 hb23) (below_ext hb4 hb45))
  have T5 := HT.out.ext hbb
  go_ret
  exact ⟨rfl, c, ss, A, cap, ⟨T5.bs.mono1 hk, T5.rf, T5.c9⟩, Cr.of_below hbb⟩
theorem do_any (T : Two w c b rb N most k ss A cap) (x : Ac) (hwf : Wf x.o.id) (hk : k < 1000) (hl : (osOf ss).length < 1000) : Calls Try.prog 16 #[.pointer (some ⟨b, 0, none⟩), .pointer (some ⟨rb, 0, none⟩), .agg x.arr] w (DoPost w c b rb N most k) := by
  by_cases h0 : x.kind = 0
  · exact do_add T x h0 hwf hk hl
  by_cases h1 : x.kind = 1
  · exact do_remove T x h1 hwf hk
  by_cases h2 : x.kind = 2
  · exact do_reduce T x h2 hwf hk
  exact do_get T x ⟨h0, h1, h2⟩ hwf hk
end
end Bk
end Go.Proofs.Ytdhbioaoholcbaa
