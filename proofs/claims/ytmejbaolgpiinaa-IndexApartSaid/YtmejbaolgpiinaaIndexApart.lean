/- This text proves IndexApart: whatever the input, the law returns true. It has no conditions. -/
import Derived.Test.YtmejbaolgpiinaaIdxAlive
import Derived.Test.YtmejbaolgpiinaaMid
namespace Go.Proofs.Ytmejbaolgpiinaa
set_option linter.unusedVariables false
open Go.RowKit Go.Maps
namespace Idx
set_option maxHeartbeats 2000000
set_option maxRecDepth 10000
structure Act where
  (kind sym slot id : Int)
def Act.cells (x : Act) : List Value := [.int .i64 x.kind, .int .i64 x.sym, .int .i64 x.slot, .int .i64 x.id]
def Act.arr (x : Act) : Array Value := x.cells.toArray
def Act.wf (x : Act) : Prop := Wf x.sym ∧ Wf x.slot ∧ Wf x.id
theorem apart_any (a b : Act) (w : World) (ha : a.wf) (hb : b.wf) : Calls Try.prog 4 #[.agg a.arr, .agg b.arr] w fun e w' => e = .returned (.bool true) ∧ Below w.heap.size w w' := by
  obtain ⟨ak, asy, asl, aid⟩ := a
  obtain ⟨bk, bsy, bsl, bid⟩ := b
  obtain ⟨ha1, ha2, ha3⟩ := ha
  obtain ⟨hb1, hb2, hb3'⟩ := hb
  simp only at ha1 ha2 ha3 hb1 hb2 hb3'
  show Calls Try.prog 4 #[.agg #[.int .i64 ak, .int .i64 asy, .int .i64 asl, .int .i64 aid], .agg #[.int .i64 bk, .int .i64 bsy, .int .i64 bsl, .int .i64 bid]] w _
  have hA : Blk ((w.alloc (.cells #[.int .i64 ak, .int .i64 asy, .int .i64 asl, .int .i64 aid] 32)).alloc (.cells #[.int .i64 bk, .int .i64 bsy, .int .i64 bsl, .int .i64 bid] 32)) w.heap.size 32 #[.int .i64 ak, .int .i64 asy, .int .i64 asl, .int .i64 aid] := (Blk.new w _ _ _ rfl).alloc _
  have hB : Blk ((w.alloc (.cells #[.int .i64 ak, .int .i64 asy, .int .i64 asl, .int .i64 aid] 32)).alloc (.cells #[.int .i64 bk, .int .i64 bsy, .int .i64 bsl, .int .i64 bid] 32)) (w.heap.size + 1) 32 #[.int .i64 bk, .int .i64 bsy, .int .i64 bsl, .int .i64 bid] := Blk.new _ _ _ _ (sz_alloc _ _)
  have hb0 : Below w.heap.size w ((w.alloc (.cells #[.int .i64 ak, .int .i64 asy, .int .i64 asl, .int .i64 aid] 32)).alloc (.cells #[.int .i64 bk, .int .i64 bsy, .int .i64 bsl, .int .i64 bid] 32)) := by (repeat (first | with_reducible exact Below.refl _ _ | (with_reducible assumption) | (with_reducible refine below_alloc ?_ _) | (with_reducible refine below_ext (w1 := ?_) ?_ ?_; rotate_left 2; (with_reducible assumption)) | (with_reducible refine Below.setCell ?_ ?_ _; rotate_left; ((try simp) <;> omega)) | (with_reducible refine Below.drew ?_) | (with_reducible refine below_drewN ?_ _) | fail))
  generalize hw0 : (w.alloc (.cells #[.int .i64 ak, .int .i64 asy, .int .i64 asl, .int .i64 aid] 32)).alloc (.cells #[.int .i64 bk, .int .i64 bsy, .int .i64 bsl, .int .i64 bid] 32) = w0 at hA hB hb0
  have HW0 := Lib.hid hw0
  have hz0 : w0.heap.size = w.heap.size + 1 + 1 := by rw [← hw0, sz_alloc, sz_alloc]
  have HZ0 := Lib.hid hz0
  clear hw0 hz0
  go_enter Try.func4, Try.ntmps4
  go_wp2_with fail
  rw [HW0.out]
  refine (new_any _).mono ?_
  rintro e w1 ⟨xb, bs, bm, rfl, hlo, x1, hb1'⟩
  have hz1 := hb1'.size
  have hA1 := hA.ext hb1'
  have hB1 := hB.ext hb1'
  have hw1 := hb0.trans (hb1'.mono hb0.size)
  have hlo2 : w.heap.size + 2 ≤ xb ∧ w.heap.size + 2 ≤ bs ∧ w.heap.size + 2 ≤ bm := by have := HZ0.out; omega
  have hla := hA1.lt
  have hlb := hB1.lt
  have a1 : w1.cell? ⟨w.heap.size, 1, none⟩ = some (.int .i64 asy) := hA1.cell 1
  have a3 : w1.cell? ⟨w.heap.size, 3, none⟩ = some (.int .i64 aid) := hA1.cell 3
  have b1 : w1.cell? ⟨w.heap.size + 1, 1, none⟩ = some (.int .i64 bsy) := hB1.cell 1
  have b3 : w1.cell? ⟨w.heap.size + 1, 3, none⟩ = some (.int .i64 bid) := hB1.cell 3
  clear hA hB hb0 HW0
  have hK : Blk ((w1.alloc (.cells #[.int .i64 asy, .int .i64 aid] 37)).alloc (.cells #[.int .i64 bsy, .int .i64 bid] 37)) w1.heap.size 37 #[.int .i64 asy, .int .i64 aid] := (Blk.new w1 _ _ _ rfl).alloc _
  have hM : Blk ((w1.alloc (.cells #[.int .i64 asy, .int .i64 aid] 37)).alloc (.cells #[.int .i64 bsy, .int .i64 bid] 37)) (w1.heap.size + 1) 37 #[.int .i64 bsy, .int .i64 bid] := Blk.new _ _ _ _ (sz_alloc _ _)
  have hb12 : Below w1.heap.size w1 ((w1.alloc (.cells #[.int .i64 asy, .int .i64 aid] 37)).alloc (.cells #[.int .i64 bsy, .int .i64 bid] 37)) := by (repeat (first | with_reducible exact Below.refl _ _ | (with_reducible assumption) | (with_reducible refine below_alloc ?_ _) | (with_reducible refine below_ext (w1 := ?_) ?_ ?_; rotate_left 2; (with_reducible assumption)) | (with_reducible refine Below.setCell ?_ ?_ _; rotate_left; ((try simp) <;> omega)) | (with_reducible refine Below.drew ?_) | (with_reducible refine below_drewN ?_ _) | fail))
  go_wp2_with fail
  generalize (w1.alloc (.cells #[.int .i64 asy, .int .i64 aid] 37)).alloc (.cells #[.int .i64 bsy, .int .i64 bid] 37) = w2 at hK hM hb12 ⊢
  have hw2 := below_ext hw1 hb12
  have hA2 := hA1.ext hb12
  have hB2 := hB1.ext hb12
  have x2 := x1.ext hb12
  have hz2 := hb12.size
  have hkl := hK.lt
  have hml := hM.lt
  have hlt2 := x2.lt
  have hx1 := x1.lt
  have a2 : w2.cell? ⟨w.heap.size, 2, none⟩ = some (.int .i64 asl) := hA2.cell 2
  have hal2 := hA2.lt
  clear a1 a3 b1 b3 hA1 hB1
  refine wp_region_mid (C := fun W => Ext _ W) 4 _ (by kernel_rfl) (by kernel_rfl) rfl rfl (Below.refl _ _).drew ?_
  simp only [List.take_succ_cons, List.take_zero, List.drop_succ_cons, List.drop_zero]
  repeat (first | go_big_quiet_skip | (go_big_quiet_want; go_big_quiet_op; go_big_quiet_on) | (refine q_load_blk (by rfl) 37 _ (by rfl) ?_ (.pointer (some ⟨_, 0, none⟩)) (by rfl) ?_ _ (fun _ h => h) Try.underlying37 rfl ?_ ?_; rotate_left; (next => (repeat (first | (with_reducible refine BlkAt.new _ _ _ _ ?_; ((try simp) <;> omega)) | (with_reducible assumption) | (with_reducible refine Blk.at (t := ?_) ?_; rotate_left; with_reducible assumption) | with_reducible refine BlkAt.alloc ?_ _ | with_reducible refine BlkAt.drew ?_ | (with_reducible refine BlkAt.setSame ?_ _ _) | (with_reducible refine BlkAt.setCell ?_ ?_ _; rotate_left; ((try simp) <;> omega)) | (with_reducible refine BlkAt.ext (w := ?_) ?_ ?_; rotate_left 2; (with_reducible assumption)) | fail))); (next => kernel_rfl); (try simp only [Act.put, List.setIfInBounds_toArray, List.set_cons_zero, List.set_cons_succ])) | (refine q_load_fld (by rfl) _ _ (by rfl) (fun _ h => h) _ _ (by rfl) ?_ ?_ ?_ ?_ ?_ ?_; rotate_left; (next => (repeat (first | (with_reducible refine BlkAt.new _ _ _ _ ?_; ((try simp) <;> omega)) | (with_reducible assumption) | (with_reducible refine Blk.at (t := ?_) ?_; rotate_left; with_reducible assumption) | with_reducible refine BlkAt.alloc ?_ _ | with_reducible refine BlkAt.drew ?_ | (with_reducible refine BlkAt.setSame ?_ _ _) | (with_reducible refine BlkAt.setCell ?_ ?_ _; rotate_left; ((try simp) <;> omega)) | (with_reducible refine BlkAt.ext (w := ?_) ?_ ?_; rotate_left 2; (with_reducible assumption)) | fail))); rotate_left; (next => first | (simp only [go_sem]; rfl) | rfl); (next => kernel_rfl); (try simp only [Act.put, List.setIfInBounds_toArray, List.set_cons_zero, List.set_cons_succ])) | (refine q_rem (by rfl) _ _ _ _ (by rfl) _ _ (by rfl) (by rfl) (by kernel_rfl) (by kernel_rfl) ?_ ?_; (next => omega); (try simp only [Act.put, List.setIfInBounds_toArray, List.set_cons_zero, List.set_cons_succ])) | (refine q_step_ex (by rfl) ?_; apply Exists.intro; refine ⟨fun W hW => ?_, ?_⟩; (next => (have hWc := fun (b o : Nat) (h : b < _) => (Ext.out hW).cell (p := ⟨b, o, none⟩) h); (try have hLK := HLK.out W (Ext.out hW)); go_simp; first | rfl | fail | fail); (try simp only [Act.put, List.setIfInBounds_toArray, List.set_cons_zero, List.set_cons_succ])) | fail)
  refine wpQuiet_nil ?_
  intro w3 hb3
  refine wp_enter (F := 10) (args := #[.pointer (some ⟨xb, 0, none⟩), .agg #[.int .i64 asy, .int .i64 aid], .int .i64 asl]) (v := .bool true) ?_ ?_
  (next => first | (go_simp; done) | (go_simp; rfl))
  have hz3 := hb3.size
  refine (put_new (x2.ext hb3) (s := asy) (i := aid) (v := asl) ha1 ha3 ha2 rfl (by omega)).mono ?_
  rintro e w4 ⟨rfl, x4', hu4⟩
  have x4 : Xq w4 xb bs bm 1 [⟨asy, aid, asl⟩] := x4'
  refine ⟨rfl, ?_⟩
  simp only [Act.put, List.setIfInBounds_toArray, List.set_cons_zero, List.set_cons_succ]
  have hw3 := below_ext hw2 hb3
  have hw4 : Below w.heap.size w w4 := hw3.trans (hu4.below (by simp; omega) hw3.size)
  have hK4 := (hK.ext hb3).butL hu4 (by simp; omega)
  have hM4 := (hM.ext hb3).butL hu4 (by simp; omega)
  have hA4 := (hA2.ext hb3).butL hu4 (by simp; omega)
  have hB4 := (hB2.ext hb3).butL hu4 (by simp; omega)
  have a4 : w4.cell? ⟨w.heap.size, 1, none⟩ = some (.int .i64 asy) := hA4.cell 1
  have hal4 := hA4.lt
  clear hK hM hA2 hB2 x2 x4' hu4 hb3 hb12 a2 x1 hb1'
  skip
  repeat (first | go_big_quiet_skip | (go_big_quiet_want; go_big_quiet_op; go_big_quiet_on) | (refine q_load_blk (by rfl) 37 _ (by rfl) ?_ (.pointer (some ⟨_, 0, none⟩)) (by rfl) ?_ _ (fun _ h => h) Try.underlying37 rfl ?_ ?_; rotate_left; (next => (repeat (first | (with_reducible refine BlkAt.new _ _ _ _ ?_; ((try simp) <;> omega)) | (with_reducible assumption) | (with_reducible refine Blk.at (t := ?_) ?_; rotate_left; with_reducible assumption) | with_reducible refine BlkAt.alloc ?_ _ | with_reducible refine BlkAt.drew ?_ | (with_reducible refine BlkAt.setSame ?_ _ _) | (with_reducible refine BlkAt.setCell ?_ ?_ _; rotate_left; ((try simp) <;> omega)) | (with_reducible refine BlkAt.ext (w := ?_) ?_ ?_; rotate_left 2; (with_reducible assumption)) | fail))); (next => kernel_rfl); (try simp only [Act.put, List.setIfInBounds_toArray, List.set_cons_zero, List.set_cons_succ])) | (refine q_load_fld (by rfl) _ _ (by rfl) (fun _ h => h) _ _ (by rfl) ?_ ?_ ?_ ?_ ?_ ?_; rotate_left; (next => (repeat (first | (with_reducible refine BlkAt.new _ _ _ _ ?_; ((try simp) <;> omega)) | (with_reducible assumption) | (with_reducible refine Blk.at (t := ?_) ?_; rotate_left; with_reducible assumption) | with_reducible refine BlkAt.alloc ?_ _ | with_reducible refine BlkAt.drew ?_ | (with_reducible refine BlkAt.setSame ?_ _ _) | (with_reducible refine BlkAt.setCell ?_ ?_ _; rotate_left; ((try simp) <;> omega)) | (with_reducible refine BlkAt.ext (w := ?_) ?_ ?_; rotate_left 2; (with_reducible assumption)) | fail))); rotate_left; (next => first | (simp only [go_sem]; rfl) | rfl); (next => kernel_rfl); (try simp only [Act.put, List.setIfInBounds_toArray, List.set_cons_zero, List.set_cons_succ])) | (refine q_rem (by rfl) _ _ _ _ (by rfl) _ _ (by rfl) (by rfl) (by kernel_rfl) (by kernel_rfl) ?_ ?_; (next => omega); (try simp only [Act.put, List.setIfInBounds_toArray, List.set_cons_zero, List.set_cons_succ])) | (refine q_step_ex (by rfl) ?_; apply Exists.intro; refine ⟨fun W hW => ?_, ?_⟩; (next => (have hWc := fun (b o : Nat) (h : b < _) => (Ext.out hW).cell (p := ⟨b, o, none⟩) h); (try have hLK := HLK.out W (Ext.out hW)); go_simp; first | rfl | (go_at_call 10; refine (put_nil _ asy aid 1).mono ?_; rintro e w'' ⟨rfl, hbz⟩; exact ⟨rfl, below_ext hW.out hbz⟩) | (go_at_call 11; refine (drop_nil _ asy aid).mono ?_; rintro e w'' ⟨rfl, hbz⟩; exact ⟨rfl, below_ext hW.out hbz⟩) | (go_at_call 8; refine (len_nil asy _).mono ?_; rintro e w'' ⟨rfl, rfl⟩; exact ⟨rfl, hW⟩) | (go_at_call 12; refine (clear_nil asy _).mono ?_; rintro e w'' ⟨rfl, hbz⟩; exact ⟨rfl, below_ext hW.out hbz⟩) | fail); (try simp only [Act.put, List.setIfInBounds_toArray, List.set_cons_zero, List.set_cons_succ])) | fail)
  refine wpQuiet_nil ?_
  intro w5 hb5
  have hK5 := hK4.ext hb5
  have hM5 := hM4.ext hb5
  have hA5 := hA4.ext hb5
  have hB5 := hB4.ext hb5
  have x5 := x4.ext hb5
  have hw5 := below_ext hw4 hb5
  have hz4 := hw5.size
  clear hK4 hM4 hA4 hB4 x4 a4 hal4 hb5
  by_cases e : bsy = asy ∧ bid = aid
  · obtain ⟨rfl, rfl⟩ := e
    have l1 : look [⟨bsy, bid, asl⟩] bsy bid = some ⟨bsy, bid, asl⟩ := by simp [look, R3.is]
    have l2 : cntS [⟨bsy, bid, asl⟩] bsy = 1 := by simp [cntS]
    have HP := Lib.hid (fun W (hW : Below w5.heap.size w5 W) => put_old (x5.ext hW) bsl ha1 ha3 (by rw [l1]; rfl))
    have HG := Lib.hid (fun W (hW : Below w5.heap.size w5 W) => get_any (x5.ext hW) ha1 ha3)
    have HL := Lib.hid (fun W (hW : Below w5.heap.size w5 W) => len_any (x5.ext hW) ha1)
    have HC := Lib.hid (fun W (hW : Below w5.heap.size w5 W) => clear_any (x5.ext hW) ha1)
    rw [l1] at HG
    rw [l2] at HL HC
    have hx5 := x5.lt
    clear l1 l2 x5
    go_wp2_with (first | (refine wpList_load_blk (by rfl) 37 _ (by rfl) ?_ (.pointer (some ⟨_, 0, none⟩)) (by rfl) ?_ _ Try.underlying37 rfl ?_ ?_; rotate_left; (next => (repeat (first | (with_reducible refine BlkAt.new _ _ _ _ ?_; ((try simp) <;> omega)) | (with_reducible assumption) | (with_reducible refine Blk.at (t := ?_) ?_; rotate_left; with_reducible assumption) | with_reducible refine BlkAt.alloc ?_ _ | with_reducible refine BlkAt.drew ?_ | (with_reducible refine BlkAt.setSame ?_ _ _) | (with_reducible refine BlkAt.setCell ?_ ?_ _; rotate_left; ((try simp) <;> omega)) | (with_reducible refine BlkAt.ext (w := ?_) ?_ ?_; rotate_left 2; (with_reducible assumption)) | fail))); (next => kernel_rfl)) | (refine wpList_load_fld (by rfl) _ _ (by rfl) _ _ (by rfl) ?_ ?_ ?_ ?_ ?_ ?_; rotate_left; (next => (repeat (first | (with_reducible refine BlkAt.new _ _ _ _ ?_; ((try simp) <;> omega)) | (with_reducible assumption) | (with_reducible refine Blk.at (t := ?_) ?_; rotate_left; with_reducible assumption) | with_reducible refine BlkAt.alloc ?_ _ | with_reducible refine BlkAt.drew ?_ | (with_reducible refine BlkAt.setSame ?_ _ _) | (with_reducible refine BlkAt.setCell ?_ ?_ _; rotate_left; ((try simp) <;> omega)) | (with_reducible refine BlkAt.ext (w := ?_) ?_ ?_; rotate_left 2; (with_reducible assumption)) | fail))); rotate_left; (next => first | (simp only [go_sem]; rfl) | rfl); (next => kernel_rfl); (try simp only [Act.put, List.setIfInBounds_toArray, List.set_cons_zero, List.set_cons_succ])) | fail)
    refine (HP.out _ (Below.refl _ _)).mono ?_
    rintro e w6 ⟨rfl, hb6⟩
    go_wp2_with (first | (refine wpList_load_blk (by rfl) 37 _ (by rfl) ?_ (.pointer (some ⟨_, 0, none⟩)) (by rfl) ?_ _ Try.underlying37 rfl ?_ ?_; rotate_left; (next => (repeat (first | (with_reducible refine BlkAt.new _ _ _ _ ?_; ((try simp) <;> omega)) | (with_reducible assumption) | (with_reducible refine Blk.at (t := ?_) ?_; rotate_left; with_reducible assumption) | with_reducible refine BlkAt.alloc ?_ _ | with_reducible refine BlkAt.drew ?_ | (with_reducible refine BlkAt.setSame ?_ _ _) | (with_reducible refine BlkAt.setCell ?_ ?_ _; rotate_left; ((try simp) <;> omega)) | (with_reducible refine BlkAt.ext (w := ?_) ?_ ?_; rotate_left 2; (with_reducible assumption)) | fail))); (next => kernel_rfl)) | (refine wpList_load_fld (by rfl) _ _ (by rfl) _ _ (by rfl) ?_ ?_ ?_ ?_ ?_ ?_; rotate_left; (next => (repeat (first | (with_reducible refine BlkAt.new _ _ _ _ ?_; ((try simp) <;> omega)) | (with_reducible assumption) | (with_reducible refine Blk.at (t := ?_) ?_; rotate_left; with_reducible assumption) | with_reducible refine BlkAt.alloc ?_ _ | with_reducible refine BlkAt.drew ?_ | (with_reducible refine BlkAt.setSame ?_ _ _) | (with_reducible refine BlkAt.setCell ?_ ?_ _; rotate_left; ((try simp) <;> omega)) | (with_reducible refine BlkAt.ext (w := ?_) ?_ ?_; rotate_left 2; (with_reducible assumption)) | fail))); rotate_left; (next => first | (simp only [go_sem]; rfl) | rfl); (next => kernel_rfl); (try simp only [Act.put, List.setIfInBounds_toArray, List.set_cons_zero, List.set_cons_succ])) | fail)
    refine (HG.out _ hb6).mono ?_
    rintro e w7 ⟨rfl, hb7⟩
    have hb57 := below_ext hb6 hb7
    go_wp2_with (first | (refine wpList_load_blk (by rfl) 37 _ (by rfl) ?_ (.pointer (some ⟨_, 0, none⟩)) (by rfl) ?_ _ Try.underlying37 rfl ?_ ?_; rotate_left; (next => (repeat (first | (with_reducible refine BlkAt.new _ _ _ _ ?_; ((try simp) <;> omega)) | (with_reducible assumption) | (with_reducible refine Blk.at (t := ?_) ?_; rotate_left; with_reducible assumption) | with_reducible refine BlkAt.alloc ?_ _ | with_reducible refine BlkAt.drew ?_ | (with_reducible refine BlkAt.setSame ?_ _ _) | (with_reducible refine BlkAt.setCell ?_ ?_ _; rotate_left; ((try simp) <;> omega)) | (with_reducible refine BlkAt.ext (w := ?_) ?_ ?_; rotate_left 2; (with_reducible assumption)) | fail))); (next => kernel_rfl)) | (refine wpList_load_fld (by rfl) _ _ (by rfl) _ _ (by rfl) ?_ ?_ ?_ ?_ ?_ ?_; rotate_left; (next => (repeat (first | (with_reducible refine BlkAt.new _ _ _ _ ?_; ((try simp) <;> omega)) | (with_reducible assumption) | (with_reducible refine Blk.at (t := ?_) ?_; rotate_left; with_reducible assumption) | with_reducible refine BlkAt.alloc ?_ _ | with_reducible refine BlkAt.drew ?_ | (with_reducible refine BlkAt.setSame ?_ _ _) | (with_reducible refine BlkAt.setCell ?_ ?_ _; rotate_left; ((try simp) <;> omega)) | (with_reducible refine BlkAt.ext (w := ?_) ?_ ?_; rotate_left 2; (with_reducible assumption)) | fail))); rotate_left; (next => first | (simp only [go_sem]; rfl) | rfl); (next => kernel_rfl); (try simp only [Act.put, List.setIfInBounds_toArray, List.set_cons_zero, List.set_cons_succ])) | fail)
    refine (HG.out _ hb57).mono ?_
    rintro e w8 ⟨rfl, hb8⟩
    have hb58 := below_ext hb57 hb8
    go_wp2_with (first | (refine wpList_load_blk (by rfl) 37 _ (by rfl) ?_ (.pointer (some ⟨_, 0, none⟩)) (by rfl) ?_ _ Try.underlying37 rfl ?_ ?_; rotate_left; (next => (repeat (first | (with_reducible refine BlkAt.new _ _ _ _ ?_; ((try simp) <;> omega)) | (with_reducible assumption) | (with_reducible refine Blk.at (t := ?_) ?_; rotate_left; with_reducible assumption) | with_reducible refine BlkAt.alloc ?_ _ | with_reducible refine BlkAt.drew ?_ | (with_reducible refine BlkAt.setSame ?_ _ _) | (with_reducible refine BlkAt.setCell ?_ ?_ _; rotate_left; ((try simp) <;> omega)) | (with_reducible refine BlkAt.ext (w := ?_) ?_ ?_; rotate_left 2; (with_reducible assumption)) | fail))); (next => kernel_rfl)) | (refine wpList_load_fld (by rfl) _ _ (by rfl) _ _ (by rfl) ?_ ?_ ?_ ?_ ?_ ?_; rotate_left; (next => (repeat (first | (with_reducible refine BlkAt.new _ _ _ _ ?_; ((try simp) <;> omega)) | (with_reducible assumption) | (with_reducible refine Blk.at (t := ?_) ?_; rotate_left; with_reducible assumption) | with_reducible refine BlkAt.alloc ?_ _ | with_reducible refine BlkAt.drew ?_ | (with_reducible refine BlkAt.setSame ?_ _ _) | (with_reducible refine BlkAt.setCell ?_ ?_ _; rotate_left; ((try simp) <;> omega)) | (with_reducible refine BlkAt.ext (w := ?_) ?_ ?_; rotate_left 2; (with_reducible assumption)) | fail))); rotate_left; (next => first | (simp only [go_sem]; rfl) | rfl); (next => kernel_rfl); (try simp only [Act.put, List.setIfInBounds_toArray, List.set_cons_zero, List.set_cons_succ])) | fail)
    refine (get_nil _ _ bsy bid rfl).mono ?_
    rintro e w9 ⟨rfl, hb9⟩
    have hb59 := below_ext hb58 hb9
    go_wp2_with (first | (refine wpList_load_blk (by rfl) 37 _ (by rfl) ?_ (.pointer (some ⟨_, 0, none⟩)) (by rfl) ?_ _ Try.underlying37 rfl ?_ ?_; rotate_left; (next => (repeat (first | (with_reducible refine BlkAt.new _ _ _ _ ?_; ((try simp) <;> omega)) | (with_reducible assumption) | (with_reducible refine Blk.at (t := ?_) ?_; rotate_left; with_reducible assumption) | with_reducible refine BlkAt.alloc ?_ _ | with_reducible refine BlkAt.drew ?_ | (with_reducible refine BlkAt.setSame ?_ _ _) | (with_reducible refine BlkAt.setCell ?_ ?_ _; rotate_left; ((try simp) <;> omega)) | (with_reducible refine BlkAt.ext (w := ?_) ?_ ?_; rotate_left 2; (with_reducible assumption)) | fail))); (next => kernel_rfl)) | (refine wpList_load_fld (by rfl) _ _ (by rfl) _ _ (by rfl) ?_ ?_ ?_ ?_ ?_ ?_; rotate_left; (next => (repeat (first | (with_reducible refine BlkAt.new _ _ _ _ ?_; ((try simp) <;> omega)) | (with_reducible assumption) | (with_reducible refine Blk.at (t := ?_) ?_; rotate_left; with_reducible assumption) | with_reducible refine BlkAt.alloc ?_ _ | with_reducible refine BlkAt.drew ?_ | (with_reducible refine BlkAt.setSame ?_ _ _) | (with_reducible refine BlkAt.setCell ?_ ?_ _; rotate_left; ((try simp) <;> omega)) | (with_reducible refine BlkAt.ext (w := ?_) ?_ ?_; rotate_left 2; (with_reducible assumption)) | fail))); rotate_left; (next => first | (simp only [go_sem]; rfl) | rfl); (next => kernel_rfl); (try simp only [Act.put, List.setIfInBounds_toArray, List.set_cons_zero, List.set_cons_succ])) | (go_at_call 8; refine (HL.out _ hb59).mono ?_; rintro e w'' ⟨rfl, rfl⟩) | (go_at_call 12; refine (HC.out _ hb59).mono ?_; rintro e w10 ⟨rfl, x10, hu10⟩) | (go_at_call 5; refine (alive_any _).mono ?_; rintro e w11 ⟨rfl, hb11⟩) | fail)
    go_ret
    have hw9 := below_ext hw5 hb59
    exact ⟨rfl, below_ext (hw9.trans (hu10.below (by simp; omega) hw9.size)) hb11⟩
  · by_cases hsy : asy = bsy
    · subst hsy
      have hne0 : ¬ aid = bid := fun h => e ⟨rfl, h.symm⟩
      have e2 : ¬ (asy = asy ∧ aid = bid) := fun h => hne0 h.2
      have l1 : look [⟨asy, aid, asl⟩] asy bid = none := by simp [look, R3.is, hne0]
      have l2 : look [⟨asy, aid, asl⟩, ⟨asy, bid, bsl⟩] asy aid = some ⟨asy, aid, asl⟩ := by simp [look, R3.is]
      have l3 : look [⟨asy, aid, asl⟩, ⟨asy, bid, bsl⟩] asy bid = some ⟨asy, bid, bsl⟩ := by
        unfold look
        rw [List.find?_cons]
        simp [R3.is, hne0]
      have l4 : dropR [⟨asy, aid, asl⟩, ⟨asy, bid, bsl⟩] asy bid = [⟨asy, aid, asl⟩] := by
        unfold dropR
        rw [List.filter_cons]
        simp [R3.is, hne0]
      have l5 : look [⟨asy, aid, asl⟩] asy aid = some ⟨asy, aid, asl⟩ := by simp [look, R3.is]
      have l6 : cntS [⟨asy, aid, asl⟩] asy = 1 := by simp [cntS]
      have hne : (asy == asy && aid == bid) = false := by simpa using fun h1 h2 => e2 ⟨h1, h2⟩
      have hx5 := x5.lt
      have HP := Lib.hid (put_new x5 (v := bsl) hb1 hb3' hb2 l1 (by omega))
      clear x5 l1
      go_wp2_with (first | (refine wpList_load_blk (by rfl) 37 _ (by rfl) ?_ (.pointer (some ⟨_, 0, none⟩)) (by rfl) ?_ _ Try.underlying37 rfl ?_ ?_; rotate_left; (next => (repeat (first | (with_reducible refine BlkAt.new _ _ _ _ ?_; ((try simp) <;> omega)) | (with_reducible assumption) | (with_reducible refine Blk.at (t := ?_) ?_; rotate_left; with_reducible assumption) | with_reducible refine BlkAt.alloc ?_ _ | with_reducible refine BlkAt.drew ?_ | (with_reducible refine BlkAt.setSame ?_ _ _) | (with_reducible refine BlkAt.setCell ?_ ?_ _; rotate_left; ((try simp) <;> omega)) | (with_reducible refine BlkAt.ext (w := ?_) ?_ ?_; rotate_left 2; (with_reducible assumption)) | fail))); (next => kernel_rfl)) | (refine wpList_load_fld (by rfl) _ _ (by rfl) _ _ (by rfl) ?_ ?_ ?_ ?_ ?_ ?_; rotate_left; (next => (repeat (first | (with_reducible refine BlkAt.new _ _ _ _ ?_; ((try simp) <;> omega)) | (with_reducible assumption) | (with_reducible refine Blk.at (t := ?_) ?_; rotate_left; with_reducible assumption) | with_reducible refine BlkAt.alloc ?_ _ | with_reducible refine BlkAt.drew ?_ | (with_reducible refine BlkAt.setSame ?_ _ _) | (with_reducible refine BlkAt.setCell ?_ ?_ _; rotate_left; ((try simp) <;> omega)) | (with_reducible refine BlkAt.ext (w := ?_) ?_ ?_; rotate_left 2; (with_reducible assumption)) | fail))); rotate_left; (next => first | (simp only [go_sem]; rfl) | rfl); (next => kernel_rfl); (try simp only [Act.put, List.setIfInBounds_toArray, List.set_cons_zero, List.set_cons_succ])) | fail)
      refine HP.out.mono ?_
      rintro e w6 ⟨rfl, x6', hu6⟩
      have x6 : Xq w6 xb bs bm 2 [⟨asy, aid, asl⟩, ⟨asy, bid, bsl⟩] := x6'
      have hz6 := hu6.size
      have hK6 := hK5.butL hu6 (by simp; omega)
      have hM6 := hM5.butL hu6 (by simp; omega)
      have hA6 := hA5.butL hu6 (by simp; omega)
      have hB6 := hB5.butL hu6 (by simp; omega)
      have hw6 : Below w.heap.size w w6 := hw5.trans (hu6.below (by simp; omega) hw5.size)
      have HG := Lib.hid (fun W (hW : Below w6.heap.size w6 W) => get_any (x6.ext hW) ha1 ha3)
      have HH := Lib.hid (fun W (hW : Below w6.heap.size w6 W) => get_any (x6.ext hW) hb1 hb3')
      have HD := Lib.hid (fun W (hW : Below w6.heap.size w6 W) => drop_yes (x6.ext hW) hb1 hb3' (by rw [l3]; rfl) (by omega))
      rw [l2] at HG
      rw [l3] at HH
      rw [l4] at HD
      clear x6' x6 l2 l3 l4 hK5 hM5 hA5 hB5
      go_wp2_with (first | (refine wpList_load_blk (by rfl) 37 _ (by rfl) ?_ (.pointer (some ⟨_, 0, none⟩)) (by rfl) ?_ _ Try.underlying37 rfl ?_ ?_; rotate_left; (next => (repeat (first | (with_reducible refine BlkAt.new _ _ _ _ ?_; ((try simp) <;> omega)) | (with_reducible assumption) | (with_reducible refine Blk.at (t := ?_) ?_; rotate_left; with_reducible assumption) | with_reducible refine BlkAt.alloc ?_ _ | with_reducible refine BlkAt.drew ?_ | (with_reducible refine BlkAt.setSame ?_ _ _) | (with_reducible refine BlkAt.setCell ?_ ?_ _; rotate_left; ((try simp) <;> omega)) | (with_reducible refine BlkAt.ext (w := ?_) ?_ ?_; rotate_left 2; (with_reducible assumption)) | fail))); (next => kernel_rfl)) | (refine wpList_load_fld (by rfl) _ _ (by rfl) _ _ (by rfl) ?_ ?_ ?_ ?_ ?_ ?_; rotate_left; (next => (repeat (first | (with_reducible refine BlkAt.new _ _ _ _ ?_; ((try simp) <;> omega)) | (with_reducible assumption) | (with_reducible refine Blk.at (t := ?_) ?_; rotate_left; with_reducible assumption) | with_reducible refine BlkAt.alloc ?_ _ | with_reducible refine BlkAt.drew ?_ | (with_reducible refine BlkAt.setSame ?_ _ _) | (with_reducible refine BlkAt.setCell ?_ ?_ _; rotate_left; ((try simp) <;> omega)) | (with_reducible refine BlkAt.ext (w := ?_) ?_ ?_; rotate_left 2; (with_reducible assumption)) | fail))); rotate_left; (next => first | (simp only [go_sem]; rfl) | rfl); (next => kernel_rfl); (try simp only [Act.put, List.setIfInBounds_toArray, List.set_cons_zero, List.set_cons_succ])) | fail)
      refine (HG.out _ (Below.refl _ _)).mono ?_
      rintro e w7 ⟨rfl, hb7⟩
      go_wp2_with (first | (refine wpList_load_blk (by rfl) 37 _ (by rfl) ?_ (.pointer (some ⟨_, 0, none⟩)) (by rfl) ?_ _ Try.underlying37 rfl ?_ ?_; rotate_left; (next => (repeat (first | (with_reducible refine BlkAt.new _ _ _ _ ?_; ((try simp) <;> omega)) | (with_reducible assumption) | (with_reducible refine Blk.at (t := ?_) ?_; rotate_left; with_reducible assumption) | with_reducible refine BlkAt.alloc ?_ _ | with_reducible refine BlkAt.drew ?_ | (with_reducible refine BlkAt.setSame ?_ _ _) | (with_reducible refine BlkAt.setCell ?_ ?_ _; rotate_left; ((try simp) <;> omega)) | (with_reducible refine BlkAt.ext (w := ?_) ?_ ?_; rotate_left 2; (with_reducible assumption)) | fail))); (next => kernel_rfl)) | (refine wpList_load_fld (by rfl) _ _ (by rfl) _ _ (by rfl) ?_ ?_ ?_ ?_ ?_ ?_; rotate_left; (next => (repeat (first | (with_reducible refine BlkAt.new _ _ _ _ ?_; ((try simp) <;> omega)) | (with_reducible assumption) | (with_reducible refine Blk.at (t := ?_) ?_; rotate_left; with_reducible assumption) | with_reducible refine BlkAt.alloc ?_ _ | with_reducible refine BlkAt.drew ?_ | (with_reducible refine BlkAt.setSame ?_ _ _) | (with_reducible refine BlkAt.setCell ?_ ?_ _; rotate_left; ((try simp) <;> omega)) | (with_reducible refine BlkAt.ext (w := ?_) ?_ ?_; rotate_left 2; (with_reducible assumption)) | fail))); rotate_left; (next => first | (simp only [go_sem]; rfl) | rfl); (next => kernel_rfl); (try simp only [Act.put, List.setIfInBounds_toArray, List.set_cons_zero, List.set_cons_succ])) | fail)
      refine (HH.out _ hb7).mono ?_
      rintro e w8 ⟨rfl, hb8⟩
      have hb68 := below_ext hb7 hb8
      go_wp2_with (first | (refine wpList_load_blk (by rfl) 37 _ (by rfl) ?_ (.pointer (some ⟨_, 0, none⟩)) (by rfl) ?_ _ Try.underlying37 rfl ?_ ?_; rotate_left; (next => (repeat (first | (with_reducible refine BlkAt.new _ _ _ _ ?_; ((try simp) <;> omega)) | (with_reducible assumption) | (with_reducible refine Blk.at (t := ?_) ?_; rotate_left; with_reducible assumption) | with_reducible refine BlkAt.alloc ?_ _ | with_reducible refine BlkAt.drew ?_ | (with_reducible refine BlkAt.setSame ?_ _ _) | (with_reducible refine BlkAt.setCell ?_ ?_ _; rotate_left; ((try simp) <;> omega)) | (with_reducible refine BlkAt.ext (w := ?_) ?_ ?_; rotate_left 2; (with_reducible assumption)) | fail))); (next => kernel_rfl)) | (refine wpList_load_fld (by rfl) _ _ (by rfl) _ _ (by rfl) ?_ ?_ ?_ ?_ ?_ ?_; rotate_left; (next => (repeat (first | (with_reducible refine BlkAt.new _ _ _ _ ?_; ((try simp) <;> omega)) | (with_reducible assumption) | (with_reducible refine Blk.at (t := ?_) ?_; rotate_left; with_reducible assumption) | with_reducible refine BlkAt.alloc ?_ _ | with_reducible refine BlkAt.drew ?_ | (with_reducible refine BlkAt.setSame ?_ _ _) | (with_reducible refine BlkAt.setCell ?_ ?_ _; rotate_left; ((try simp) <;> omega)) | (with_reducible refine BlkAt.ext (w := ?_) ?_ ?_; rotate_left 2; (with_reducible assumption)) | fail))); rotate_left; (next => first | (simp only [go_sem]; rfl) | rfl); (next => kernel_rfl); (try simp only [Act.put, List.setIfInBounds_toArray, List.set_cons_zero, List.set_cons_succ])) | fail)
      refine (HD.out _ hb68).mono ?_
      rintro e w9 ⟨rfl, x9, hu9⟩
      have hw8 := below_ext hw6 hb68
      have hz8 := hb68.size
      have hK9 := (hK6.ext hb68).butL hu9 (by simp; omega)
      have hA9 := (hA6.ext hb68).butL hu9 (by simp; omega)
      have hw9 : Below w.heap.size w w9 := hw8.trans (hu9.below (by simp; omega) hw8.size)
      have HG9 := Lib.hid (get_any x9 ha1 ha3)
      have HL9 := Lib.hid (fun W (hW : Below w9.heap.size w9 W) => len_any (x9.ext hW) ha1)
      have HC9 := Lib.hid (fun W (hW : Below w9.heap.size w9 W) => clear_any (x9.ext hW) ha1)
      rw [l5] at HG9
      rw [l6] at HL9 HC9
      clear x9
      go_wp2_with (first | (refine wpList_load_blk (by rfl) 37 _ (by rfl) ?_ (.pointer (some ⟨_, 0, none⟩)) (by rfl) ?_ _ Try.underlying37 rfl ?_ ?_; rotate_left; (next => (repeat (first | (with_reducible refine BlkAt.new _ _ _ _ ?_; ((try simp) <;> omega)) | (with_reducible assumption) | (with_reducible refine Blk.at (t := ?_) ?_; rotate_left; with_reducible assumption) | with_reducible refine BlkAt.alloc ?_ _ | with_reducible refine BlkAt.drew ?_ | (with_reducible refine BlkAt.setSame ?_ _ _) | (with_reducible refine BlkAt.setCell ?_ ?_ _; rotate_left; ((try simp) <;> omega)) | (with_reducible refine BlkAt.ext (w := ?_) ?_ ?_; rotate_left 2; (with_reducible assumption)) | fail))); (next => kernel_rfl)) | (refine wpList_load_fld (by rfl) _ _ (by rfl) _ _ (by rfl) ?_ ?_ ?_ ?_ ?_ ?_; rotate_left; (next => (repeat (first | (with_reducible refine BlkAt.new _ _ _ _ ?_; ((try simp) <;> omega)) | (with_reducible assumption) | (with_reducible refine Blk.at (t := ?_) ?_; rotate_left; with_reducible assumption) | with_reducible refine BlkAt.alloc ?_ _ | with_reducible refine BlkAt.drew ?_ | (with_reducible refine BlkAt.setSame ?_ _ _) | (with_reducible refine BlkAt.setCell ?_ ?_ _; rotate_left; ((try simp) <;> omega)) | (with_reducible refine BlkAt.ext (w := ?_) ?_ ?_; rotate_left 2; (with_reducible assumption)) | fail))); rotate_left; (next => first | (simp only [go_sem]; rfl) | rfl); (next => kernel_rfl); (try simp only [Act.put, List.setIfInBounds_toArray, List.set_cons_zero, List.set_cons_succ])) | fail)
      refine HG9.out.mono ?_
      rintro e w10 ⟨rfl, hb10⟩
      go_wp2_with (first | (refine wpList_load_blk (by rfl) 37 _ (by rfl) ?_ (.pointer (some ⟨_, 0, none⟩)) (by rfl) ?_ _ Try.underlying37 rfl ?_ ?_; rotate_left; (next => (repeat (first | (with_reducible refine BlkAt.new _ _ _ _ ?_; ((try simp) <;> omega)) | (with_reducible assumption) | (with_reducible refine Blk.at (t := ?_) ?_; rotate_left; with_reducible assumption) | with_reducible refine BlkAt.alloc ?_ _ | with_reducible refine BlkAt.drew ?_ | (with_reducible refine BlkAt.setSame ?_ _ _) | (with_reducible refine BlkAt.setCell ?_ ?_ _; rotate_left; ((try simp) <;> omega)) | (with_reducible refine BlkAt.ext (w := ?_) ?_ ?_; rotate_left 2; (with_reducible assumption)) | fail))); (next => kernel_rfl)) | (refine wpList_load_fld (by rfl) _ _ (by rfl) _ _ (by rfl) ?_ ?_ ?_ ?_ ?_ ?_; rotate_left; (next => (repeat (first | (with_reducible refine BlkAt.new _ _ _ _ ?_; ((try simp) <;> omega)) | (with_reducible assumption) | (with_reducible refine Blk.at (t := ?_) ?_; rotate_left; with_reducible assumption) | with_reducible refine BlkAt.alloc ?_ _ | with_reducible refine BlkAt.drew ?_ | (with_reducible refine BlkAt.setSame ?_ _ _) | (with_reducible refine BlkAt.setCell ?_ ?_ _; rotate_left; ((try simp) <;> omega)) | (with_reducible refine BlkAt.ext (w := ?_) ?_ ?_; rotate_left 2; (with_reducible assumption)) | fail))); rotate_left; (next => first | (simp only [go_sem]; rfl) | rfl); (next => kernel_rfl); (try simp only [Act.put, List.setIfInBounds_toArray, List.set_cons_zero, List.set_cons_succ])) | fail)
      refine (get_nil _ _ asy aid rfl).mono ?_
      rintro e w11 ⟨rfl, hb11⟩
      have hb911 := below_ext hb10 hb11
      go_wp2_with (first | (refine wpList_load_blk (by rfl) 37 _ (by rfl) ?_ (.pointer (some ⟨_, 0, none⟩)) (by rfl) ?_ _ Try.underlying37 rfl ?_ ?_; rotate_left; (next => (repeat (first | (with_reducible refine BlkAt.new _ _ _ _ ?_; ((try simp) <;> omega)) | (with_reducible assumption) | (with_reducible refine Blk.at (t := ?_) ?_; rotate_left; with_reducible assumption) | with_reducible refine BlkAt.alloc ?_ _ | with_reducible refine BlkAt.drew ?_ | (with_reducible refine BlkAt.setSame ?_ _ _) | (with_reducible refine BlkAt.setCell ?_ ?_ _; rotate_left; ((try simp) <;> omega)) | (with_reducible refine BlkAt.ext (w := ?_) ?_ ?_; rotate_left 2; (with_reducible assumption)) | fail))); (next => kernel_rfl)) | (refine wpList_load_fld (by rfl) _ _ (by rfl) _ _ (by rfl) ?_ ?_ ?_ ?_ ?_ ?_; rotate_left; (next => (repeat (first | (with_reducible refine BlkAt.new _ _ _ _ ?_; ((try simp) <;> omega)) | (with_reducible assumption) | (with_reducible refine Blk.at (t := ?_) ?_; rotate_left; with_reducible assumption) | with_reducible refine BlkAt.alloc ?_ _ | with_reducible refine BlkAt.drew ?_ | (with_reducible refine BlkAt.setSame ?_ _ _) | (with_reducible refine BlkAt.setCell ?_ ?_ _; rotate_left; ((try simp) <;> omega)) | (with_reducible refine BlkAt.ext (w := ?_) ?_ ?_; rotate_left 2; (with_reducible assumption)) | fail))); rotate_left; (next => first | (simp only [go_sem]; rfl) | rfl); (next => kernel_rfl); (try simp only [Act.put, List.setIfInBounds_toArray, List.set_cons_zero, List.set_cons_succ])) | (go_at_call 8; refine (HL9.out _ hb911).mono ?_; rintro e w'' ⟨rfl, rfl⟩) | (go_at_call 12; refine (HC9.out _ hb911).mono ?_; rintro e w12 ⟨rfl, x12, hu12⟩) | (go_at_call 5; refine (alive_any _).mono ?_; rintro e w13 ⟨rfl, hb13⟩) | fail)
      go_ret
      have hw11 := below_ext hw9 hb911
      exact ⟨rfl, below_ext (hw11.trans (hu12.below (by simp; omega) hw11.size)) hb13⟩
    · have e2 : ¬ (asy = bsy ∧ aid = bid) := fun h => hsy h.1
      have l1 : look [⟨asy, aid, asl⟩] bsy bid = none := by simp [look, R3.is]; exact fun h1 h2 => e2 ⟨h1, h2⟩
      have l2 : look [⟨asy, aid, asl⟩, ⟨bsy, bid, bsl⟩] asy aid = some ⟨asy, aid, asl⟩ := by simp [look, R3.is]
      have l3 : look [⟨asy, aid, asl⟩, ⟨bsy, bid, bsl⟩] bsy bid = some ⟨bsy, bid, bsl⟩ := by
        unfold look
        rw [List.find?_cons]
        simp [R3.is, e2]
      have l4 : dropR [⟨asy, aid, asl⟩, ⟨bsy, bid, bsl⟩] bsy bid = [⟨asy, aid, asl⟩] := by
        unfold dropR
        rw [List.filter_cons]
        simp [R3.is, e2]
      have l5 : look [⟨asy, aid, asl⟩] asy aid = some ⟨asy, aid, asl⟩ := by simp [look, R3.is]
      have l6 : cntS [⟨asy, aid, asl⟩] asy = 1 := by simp [cntS]
      have hne : (asy == bsy && aid == bid) = false := by simpa using fun h1 h2 => e2 ⟨h1, h2⟩
      have hx5 := x5.lt
      have HP := Lib.hid (put_new x5 (v := bsl) hb1 hb3' hb2 l1 (by omega))
      clear x5 l1
      go_wp2_with (first | (refine wpList_load_blk (by rfl) 37 _ (by rfl) ?_ (.pointer (some ⟨_, 0, none⟩)) (by rfl) ?_ _ Try.underlying37 rfl ?_ ?_; rotate_left; (next => (repeat (first | (with_reducible refine BlkAt.new _ _ _ _ ?_; ((try simp) <;> omega)) | (with_reducible assumption) | (with_reducible refine Blk.at (t := ?_) ?_; rotate_left; with_reducible assumption) | with_reducible refine BlkAt.alloc ?_ _ | with_reducible refine BlkAt.drew ?_ | (with_reducible refine BlkAt.setSame ?_ _ _) | (with_reducible refine BlkAt.setCell ?_ ?_ _; rotate_left; ((try simp) <;> omega)) | (with_reducible refine BlkAt.ext (w := ?_) ?_ ?_; rotate_left 2; (with_reducible assumption)) | fail))); (next => kernel_rfl)) | (refine wpList_load_fld (by rfl) _ _ (by rfl) _ _ (by rfl) ?_ ?_ ?_ ?_ ?_ ?_; rotate_left; (next => (repeat (first | (with_reducible refine BlkAt.new _ _ _ _ ?_; ((try simp) <;> omega)) | (with_reducible assumption) | (with_reducible refine Blk.at (t := ?_) ?_; rotate_left; with_reducible assumption) | with_reducible refine BlkAt.alloc ?_ _ | with_reducible refine BlkAt.drew ?_ | (with_reducible refine BlkAt.setSame ?_ _ _) | (with_reducible refine BlkAt.setCell ?_ ?_ _; rotate_left; ((try simp) <;> omega)) | (with_reducible refine BlkAt.ext (w := ?_) ?_ ?_; rotate_left 2; (with_reducible assumption)) | fail))); rotate_left; (next => first | (simp only [go_sem]; rfl) | rfl); (next => kernel_rfl); (try simp only [Act.put, List.setIfInBounds_toArray, List.set_cons_zero, List.set_cons_succ])) | fail)
      refine HP.out.mono ?_
      rintro e w6 ⟨rfl, x6', hu6⟩
      have x6 : Xq w6 xb bs bm 2 [⟨asy, aid, asl⟩, ⟨bsy, bid, bsl⟩] := x6'
      have hz6 := hu6.size
      have hK6 := hK5.butL hu6 (by simp; omega)
      have hM6 := hM5.butL hu6 (by simp; omega)
      have hA6 := hA5.butL hu6 (by simp; omega)
      have hB6 := hB5.butL hu6 (by simp; omega)
      have hw6 : Below w.heap.size w w6 := hw5.trans (hu6.below (by simp; omega) hw5.size)
      have HG := Lib.hid (fun W (hW : Below w6.heap.size w6 W) => get_any (x6.ext hW) ha1 ha3)
      have HH := Lib.hid (fun W (hW : Below w6.heap.size w6 W) => get_any (x6.ext hW) hb1 hb3')
      have HD := Lib.hid (fun W (hW : Below w6.heap.size w6 W) => drop_yes (x6.ext hW) hb1 hb3' (by rw [l3]; rfl) (by omega))
      rw [l2] at HG
      rw [l3] at HH
      rw [l4] at HD
      clear x6' x6 l2 l3 l4 hK5 hM5 hA5 hB5
      go_wp2_with (first | (refine wpList_load_blk (by rfl) 37 _ (by rfl) ?_ (.pointer (some ⟨_, 0, none⟩)) (by rfl) ?_ _ Try.underlying37 rfl ?_ ?_; rotate_left; (next => (repeat (first | (with_reducible refine BlkAt.new _ _ _ _ ?_; ((try simp) <;> omega)) | (with_reducible assumption) | (with_reducible refine Blk.at (t := ?_) ?_; rotate_left; with_reducible assumption) | with_reducible refine BlkAt.alloc ?_ _ | with_reducible refine BlkAt.drew ?_ | (with_reducible refine BlkAt.setSame ?_ _ _) | (with_reducible refine BlkAt.setCell ?_ ?_ _; rotate_left; ((try simp) <;> omega)) | (with_reducible refine BlkAt.ext (w := ?_) ?_ ?_; rotate_left 2; (with_reducible assumption)) | fail))); (next => kernel_rfl)) | (refine wpList_load_fld (by rfl) _ _ (by rfl) _ _ (by rfl) ?_ ?_ ?_ ?_ ?_ ?_; rotate_left; (next => (repeat (first | (with_reducible refine BlkAt.new _ _ _ _ ?_; ((try simp) <;> omega)) | (with_reducible assumption) | (with_reducible refine Blk.at (t := ?_) ?_; rotate_left; with_reducible assumption) | with_reducible refine BlkAt.alloc ?_ _ | with_reducible refine BlkAt.drew ?_ | (with_reducible refine BlkAt.setSame ?_ _ _) | (with_reducible refine BlkAt.setCell ?_ ?_ _; rotate_left; ((try simp) <;> omega)) | (with_reducible refine BlkAt.ext (w := ?_) ?_ ?_; rotate_left 2; (with_reducible assumption)) | fail))); rotate_left; (next => first | (simp only [go_sem]; rfl) | rfl); (next => kernel_rfl); (try simp only [Act.put, List.setIfInBounds_toArray, List.set_cons_zero, List.set_cons_succ])) | fail)
      refine (HG.out _ (Below.refl _ _)).mono ?_
      rintro e w7 ⟨rfl, hb7⟩
      go_wp2_with (first | (refine wpList_load_blk (by rfl) 37 _ (by rfl) ?_ (.pointer (some ⟨_, 0, none⟩)) (by rfl) ?_ _ Try.underlying37 rfl ?_ ?_; rotate_left; (next => (repeat (first | (with_reducible refine BlkAt.new _ _ _ _ ?_; ((try simp) <;> omega)) | (with_reducible assumption) | (with_reducible refine Blk.at (t := ?_) ?_; rotate_left; with_reducible assumption) | with_reducible refine BlkAt.alloc ?_ _ | with_reducible refine BlkAt.drew ?_ | (with_reducible refine BlkAt.setSame ?_ _ _) | (with_reducible refine BlkAt.setCell ?_ ?_ _; rotate_left; ((try simp) <;> omega)) | (with_reducible refine BlkAt.ext (w := ?_) ?_ ?_; rotate_left 2; (with_reducible assumption)) | fail))); (next => kernel_rfl)) | (refine wpList_load_fld (by rfl) _ _ (by rfl) _ _ (by rfl) ?_ ?_ ?_ ?_ ?_ ?_; rotate_left; (next => (repeat (first | (with_reducible refine BlkAt.new _ _ _ _ ?_; ((try simp) <;> omega)) | (with_reducible assumption) | (with_reducible refine Blk.at (t := ?_) ?_; rotate_left; with_reducible assumption) | with_reducible refine BlkAt.alloc ?_ _ | with_reducible refine BlkAt.drew ?_ | (with_reducible refine BlkAt.setSame ?_ _ _) | (with_reducible refine BlkAt.setCell ?_ ?_ _; rotate_left; ((try simp) <;> omega)) | (with_reducible refine BlkAt.ext (w := ?_) ?_ ?_; rotate_left 2; (with_reducible assumption)) | fail))); rotate_left; (next => first | (simp only [go_sem]; rfl) | rfl); (next => kernel_rfl); (try simp only [Act.put, List.setIfInBounds_toArray, List.set_cons_zero, List.set_cons_succ])) | fail)
      refine (HH.out _ hb7).mono ?_
      rintro e w8 ⟨rfl, hb8⟩
      have hb68 := below_ext hb7 hb8
      go_wp2_with (first | (refine wpList_load_blk (by rfl) 37 _ (by rfl) ?_ (.pointer (some ⟨_, 0, none⟩)) (by rfl) ?_ _ Try.underlying37 rfl ?_ ?_; rotate_left; (next => (repeat (first | (with_reducible refine BlkAt.new _ _ _ _ ?_; ((try simp) <;> omega)) | (with_reducible assumption) | (with_reducible refine Blk.at (t := ?_) ?_; rotate_left; with_reducible assumption) | with_reducible refine BlkAt.alloc ?_ _ | with_reducible refine BlkAt.drew ?_ | (with_reducible refine BlkAt.setSame ?_ _ _) | (with_reducible refine BlkAt.setCell ?_ ?_ _; rotate_left; ((try simp) <;> omega)) | (with_reducible refine BlkAt.ext (w := ?_) ?_ ?_; rotate_left 2; (with_reducible assumption)) | fail))); (next => kernel_rfl)) | (refine wpList_load_fld (by rfl) _ _ (by rfl) _ _ (by rfl) ?_ ?_ ?_ ?_ ?_ ?_; rotate_left; (next => (repeat (first | (with_reducible refine BlkAt.new _ _ _ _ ?_; ((try simp) <;> omega)) | (with_reducible assumption) | (with_reducible refine Blk.at (t := ?_) ?_; rotate_left; with_reducible assumption) | with_reducible refine BlkAt.alloc ?_ _ | with_reducible refine BlkAt.drew ?_ | (with_reducible refine BlkAt.setSame ?_ _ _) | (with_reducible refine BlkAt.setCell ?_ ?_ _; rotate_left; ((try simp) <;> omega)) | (with_reducible refine BlkAt.ext (w := ?_) ?_ ?_; rotate_left 2; (with_reducible assumption)) | fail))); rotate_left; (next => first | (simp only [go_sem]; rfl) | rfl); (next => kernel_rfl); (try simp only [Act.put, List.setIfInBounds_toArray, List.set_cons_zero, List.set_cons_succ])) | fail)
      refine (HD.out _ hb68).mono ?_
      rintro e w9 ⟨rfl, x9, hu9⟩
      have hw8 := below_ext hw6 hb68
      have hz8 := hb68.size
      have hK9 := (hK6.ext hb68).butL hu9 (by simp; omega)
      have hA9 := (hA6.ext hb68).butL hu9 (by simp; omega)
      have hw9 : Below w.heap.size w w9 := hw8.trans (hu9.below (by simp; omega) hw8.size)
      have HG9 := Lib.hid (get_any x9 ha1 ha3)
      have HL9 := Lib.hid (fun W (hW : Below w9.heap.size w9 W) => len_any (x9.ext hW) ha1)
      have HC9 := Lib.hid (fun W (hW : Below w9.heap.size w9 W) => clear_any (x9.ext hW) ha1)
      rw [l5] at HG9
      rw [l6] at HL9 HC9
      clear x9
      go_wp2_with (first | (refine wpList_load_blk (by rfl) 37 _ (by rfl) ?_ (.pointer (some ⟨_, 0, none⟩)) (by rfl) ?_ _ Try.underlying37 rfl ?_ ?_; rotate_left; (next => (repeat (first | (with_reducible refine BlkAt.new _ _ _ _ ?_; ((try simp) <;> omega)) | (with_reducible assumption) | (with_reducible refine Blk.at (t := ?_) ?_; rotate_left; with_reducible assumption) | with_reducible refine BlkAt.alloc ?_ _ | with_reducible refine BlkAt.drew ?_ | (with_reducible refine BlkAt.setSame ?_ _ _) | (with_reducible refine BlkAt.setCell ?_ ?_ _; rotate_left; ((try simp) <;> omega)) | (with_reducible refine BlkAt.ext (w := ?_) ?_ ?_; rotate_left 2; (with_reducible assumption)) | fail))); (next => kernel_rfl)) | (refine wpList_load_fld (by rfl) _ _ (by rfl) _ _ (by rfl) ?_ ?_ ?_ ?_ ?_ ?_; rotate_left; (next => (repeat (first | (with_reducible refine BlkAt.new _ _ _ _ ?_; ((try simp) <;> omega)) | (with_reducible assumption) | (with_reducible refine Blk.at (t := ?_) ?_; rotate_left; with_reducible assumption) | with_reducible refine BlkAt.alloc ?_ _ | with_reducible refine BlkAt.drew ?_ | (with_reducible refine BlkAt.setSame ?_ _ _) | (with_reducible refine BlkAt.setCell ?_ ?_ _; rotate_left; ((try simp) <;> omega)) | (with_reducible refine BlkAt.ext (w := ?_) ?_ ?_; rotate_left 2; (with_reducible assumption)) | fail))); rotate_left; (next => first | (simp only [go_sem]; rfl) | rfl); (next => kernel_rfl); (try simp only [Act.put, List.setIfInBounds_toArray, List.set_cons_zero, List.set_cons_succ])) | fail)
      refine HG9.out.mono ?_
      rintro e w10 ⟨rfl, hb10⟩
      go_wp2_with (first | (refine wpList_load_blk (by rfl) 37 _ (by rfl) ?_ (.pointer (some ⟨_, 0, none⟩)) (by rfl) ?_ _ Try.underlying37 rfl ?_ ?_; rotate_left; (next => (repeat (first | (with_reducible refine BlkAt.new _ _ _ _ ?_; ((try simp) <;> omega)) | (with_reducible assumption) | (with_reducible refine Blk.at (t := ?_) ?_; rotate_left; with_reducible assumption) | with_reducible refine BlkAt.alloc ?_ _ | with_reducible refine BlkAt.drew ?_ | (with_reducible refine BlkAt.setSame ?_ _ _) | (with_reducible refine BlkAt.setCell ?_ ?_ _; rotate_left; ((try simp) <;> omega)) | (with_reducible refine BlkAt.ext (w := ?_) ?_ ?_; rotate_left 2; (with_reducible assumption)) | fail))); (next => kernel_rfl)) | (refine wpList_load_fld (by rfl) _ _ (by rfl) _ _ (by rfl) ?_ ?_ ?_ ?_ ?_ ?_; rotate_left; (next => (repeat (first | (with_reducible refine BlkAt.new _ _ _ _ ?_; ((try simp) <;> omega)) | (with_reducible assumption) | (with_reducible refine Blk.at (t := ?_) ?_; rotate_left; with_reducible assumption) | with_reducible refine BlkAt.alloc ?_ _ | with_reducible refine BlkAt.drew ?_ | (with_reducible refine BlkAt.setSame ?_ _ _) | (with_reducible refine BlkAt.setCell ?_ ?_ _; rotate_left; ((try simp) <;> omega)) | (with_reducible refine BlkAt.ext (w := ?_) ?_ ?_; rotate_left 2; (with_reducible assumption)) | fail))); rotate_left; (next => first | (simp only [go_sem]; rfl) | rfl); (next => kernel_rfl); (try simp only [Act.put, List.setIfInBounds_toArray, List.set_cons_zero, List.set_cons_succ])) | fail)
      refine (get_nil _ _ asy aid rfl).mono ?_
      rintro e w11 ⟨rfl, hb11⟩
      have hb911 := below_ext hb10 hb11
      go_wp2_with (first | (refine wpList_load_blk (by rfl) 37 _ (by rfl) ?_ (.pointer (some ⟨_, 0, none⟩)) (by rfl) ?_ _ Try.underlying37 rfl ?_ ?_; rotate_left; (next => (repeat (first | (with_reducible refine BlkAt.new _ _ _ _ ?_; ((try simp) <;> omega)) | (with_reducible assumption) | (with_reducible refine Blk.at (t := ?_) ?_; rotate_left; with_reducible assumption) | with_reducible refine BlkAt.alloc ?_ _ | with_reducible refine BlkAt.drew ?_ | (with_reducible refine BlkAt.setSame ?_ _ _) | (with_reducible refine BlkAt.setCell ?_ ?_ _; rotate_left; ((try simp) <;> omega)) | (with_reducible refine BlkAt.ext (w := ?_) ?_ ?_; rotate_left 2; (with_reducible assumption)) | fail))); (next => kernel_rfl)) | (refine wpList_load_fld (by rfl) _ _ (by rfl) _ _ (by rfl) ?_ ?_ ?_ ?_ ?_ ?_; rotate_left; (next => (repeat (first | (with_reducible refine BlkAt.new _ _ _ _ ?_; ((try simp) <;> omega)) | (with_reducible assumption) | (with_reducible refine Blk.at (t := ?_) ?_; rotate_left; with_reducible assumption) | with_reducible refine BlkAt.alloc ?_ _ | with_reducible refine BlkAt.drew ?_ | (with_reducible refine BlkAt.setSame ?_ _ _) | (with_reducible refine BlkAt.setCell ?_ ?_ _; rotate_left; ((try simp) <;> omega)) | (with_reducible refine BlkAt.ext (w := ?_) ?_ ?_; rotate_left 2; (with_reducible assumption)) | fail))); rotate_left; (next => first | (simp only [go_sem]; rfl) | rfl); (next => kernel_rfl); (try simp only [Act.put, List.setIfInBounds_toArray, List.set_cons_zero, List.set_cons_succ])) | (go_at_call 8; refine (HL9.out _ hb911).mono ?_; rintro e w'' ⟨rfl, rfl⟩) | (go_at_call 12; refine (HC9.out _ hb911).mono ?_; rintro e w12 ⟨rfl, x12, hu12⟩) | (go_at_call 5; refine (alive_any _).mono ?_; rintro e w13 ⟨rfl, hb13⟩) | fail)
      go_ret
      have hw11 := below_ext hw9 hb911
      exact ⟨rfl, below_ext (hw11.trans (hu12.below (by simp; omega) hw11.size)) hb13⟩
open Go.ChangeShapes Go.WideShapes Go.ChangeAt Go.Deep
theorem wfI {n : Int} (h : I64 n) : Wf n := WalkArith.wf_i64 h
theorem fitAct {vs : List Value} (h : fits (List.replicate 4 K) vs) : ∃ s : Act, vs = s.cells ∧ s.wf := by
  obtain ⟨a0, _, rfl, b0, h⟩ := fitInt h
  obtain ⟨a1, _, rfl, b1, h⟩ := fitInt h
  obtain ⟨a2, _, rfl, b2, h⟩ := fitInt h
  obtain ⟨a3, _, rfl, b3, h⟩ := fitInt h
  cases fitNil h
  exact ⟨⟨a0, a1, a2, a3⟩, rfl, wfI b1, wfI b2, wfI b3⟩
set_option maxRecDepth 100000 in
theorem argsIndexApart (H : Type) (enc : TypeId × Value → H) (W : World) (args : Array Value) (hargs : Args Try.checked H enc [32, 32] W args) :
    Calls Try.prog 4 args W fun e W' => e = .returned (.bool true) ∧ Below W.heap.size W W' := by
  obtain ⟨base, ds, p, hval, hA⟩ := hargs
  obtain ⟨v0, vs0, d0, ds0, p0, q0, hargs, rfl, rfl, h0, r0⟩ := trodAll_cons hA
  obtain ⟨v1, vs1, d1, ds1, p1, q1, rfl, rfl, rfl, h1, r1⟩ := trodAll_cons r0
  obtain ⟨rfl, rfl, rfl⟩ := trodAll_nil r1
  obtain rfl : args = #[v0, v1] := by cases args; simp_all
  obtain ⟨c0, rfl, f0⟩ := open_flat (ks := List.replicate 4 K) 5 Try.underlying32 (by kernel_rfl) (hval 0 _ v0 rfl rfl) h0
  obtain ⟨a, rfl, ha⟩ := fitAct f0
  obtain ⟨c1, rfl, f1⟩ := open_flat (ks := List.replicate 4 K) 5 Try.underlying32 (by kernel_rfl) (hval 1 _ v1 rfl rfl) h1
  obtain ⟨b, rfl, hb⟩ := fitAct f1
  exact apart_any a b W ha hb
theorem ownIndexApart : ownKnob Try.prog.godebug = none := by kernel_rfl
theorem laidIndexApart : laidOutB Try.prog = true := by kernel_rfl
set_option maxRecDepth 100000 in
theorem liftedIndexApart (os : Os) (started : os.Started) (H : Type) (enc : TypeId × Value → H) :
    ReturnsInHanded {} Try.checked os 4 .any (Rows.indexApartSpec.pre6 enc Try.prog Try.f4 Rows.indexApartRow.domain false) (Rows.indexApartSpec.post enc Try.prog Try.f4 false true false false) :=
  law_lifted (C := Try.checked) (ts := [32, 32]) (tb := 4) ownIndexApart laidIndexApart started (by kernel_rfl) Try.func4 (by kernel_rfl)
    (ChangeSpec.witness6 (enc := enc) (C := Try.checked) false ⟨#[], #[.agg (Array.replicate 4 (.int .i64 0)), .agg (Array.replicate 4 (.int .i64 0))], []⟩ 8 (by kernel_rfl) (by kernel_rfl) (by kernel_rfl) (by kernel_rfl))
    rfl (by kernel_rfl) Try.underlying4 (by kernel_rfl)
    (fun ds h => by
      match ds, h with
      | [d0, d1], _ => rfl)
    (fun W args h => argsIndexApart H enc W args h)
theorem provedIndexApart : Rows.IndexApartSaid :=
  OpenClaim.holds_of_wide 4 Try.f4 rfl rfl rfl rfl rfl rfl rfl ⟨rfl, rfl, rfl, rfl, rfl⟩ rfl rfl rfl rfl rfl (by kernel_rfl) Try.func4 (by kernel_rfl)
    (of_decide_eq_true (by kernel_rfl)) (by unfold Func.isWrapper; first | (rw [if_pos (by decide +kernel)]; kernel_rfl) | (rw [if_neg (by decide +kernel)]; exact ⟨rfl, rfl⟩))
    (fun os started H enc _ => liftedIndexApart os started H enc)
#print axioms provedIndexApart
end Idx
end Go.Proofs.Ytmejbaolgpiinaa
