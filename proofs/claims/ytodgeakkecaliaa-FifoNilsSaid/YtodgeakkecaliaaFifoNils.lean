/- This text proves FifoNils: whatever the input, the law returns true. It has no conditions. It holds contracts of the package fifo: New, Push, Front, Pop, Remove, Of, Len, over links that are held as data. It has no conditions but those that they state. -/
import Derived.Test.YtodgeakkecaliaaFifoNew
import Derived.Test.YtodgeakkecaliaaRange
namespace Go.Proofs.Ytodgeakkecaliaa
set_option linter.unusedVariables false
open Go.RowKit
namespace Fif
set_option maxHeartbeats 1000000
set_option maxRecDepth 10000

theorem each_any (p : Option Addr) (i : Int) (w : World) : Calls Try.prog 33 #[.pointer p, .int .i64 i] w fun e w' => e = .returned (.func (.func 51) #[] #[.pointer (some ⟨w.heap.size, 0, none⟩), .pointer (some ⟨w.heap.size + 1, 0, none⟩)]) ∧ Blk w' w.heap.size 55 #[.pointer p] ∧ Blk w' (w.heap.size + 1) 3 #[.int .i64 i] ∧ Below w.heap.size w w' := by
  go_enter Try.func33, Try.ntmps33
  go_wp2_with fail
  go_ret
  exact ⟨rfl, (Blk.new w _ _ _ rfl).alloc _, Blk.new _ _ _ _ (sz_alloc _ _), by (repeat (first | with_reducible exact Below.refl _ _ | (with_reducible assumption) | (with_reducible refine below_alloc ?_ _) | (with_reducible refine below_ext (w1 := ?_) ?_ ?_; rotate_left 2; (with_reducible assumption)) | (with_reducible refine Below.setCell ?_ ?_ _; rotate_left; ((try simp) <;> omega)) | (with_reducible refine Below.drew ?_) | (with_reducible refine below_drewN ?_ _) | fail))⟩
/-- The iterator of nil queues hands over nothing. -/
theorem each_nil (b c : Nat) (i : Int) (w : World) (hb : Blk w b 55 #[.pointer none]) (hi : Blk w c 3 #[.int .i64 i]) : SeqNil Try.prog 51 #[.pointer (some ⟨b, 0, none⟩), .pointer (some ⟨c, 0, none⟩)] w := by
  intro l W hW R h0
  have hc : W.cell? ⟨b, 0, none⟩ = some (.pointer none) := (hb.ext hW).cell 0
  have hd : W.cell? ⟨c, 0, none⟩ = some (.int .i64 i) := (hi.ext hW).cell 0
  show Calls _ _ (#[.func (.yield l) #[] #[], .pointer (some ⟨b, 0, none⟩), .pointer (some ⟨c, 0, none⟩)]) _ _
  go_enter Try.func51, Try.ntmps51
  go_wp2_with (first | (go_at_call 49; refine (queue_nil i _).mono ?_; rintro e w' ⟨rfl, rfl⟩) | fail)
  exact bodyPost_ret (results_none rfl _ _ _) rfl ⟨⟨_, rfl⟩, h0⟩
theorem front_nil (i : Int) (w : World) : Calls Try.prog 34 #[.pointer none, .int .i64 i] w fun e w' => e = .returned (.tuple #[.int .i64 0, .bool false]) ∧ Below w.heap.size w w' := by
  go_enter Try.func34, Try.ntmps34
  go_wp2_with (first | (go_at_call 49; refine (queue_nil i _).mono ?_; rintro e w' ⟨rfl, rfl⟩) | fail)
  refine wp_region_below_lit (by kernel_rfl) (by kernel_rfl) ?_
  repeat (first | go_big_quiet_skip | (go_big_quiet_want; go_big_quiet_op; go_big_quiet_on) | (refine q_load_fld (by rfl) _ _ (by rfl) (fun _ h => h) _ _ (by rfl) ?_ ?_ ?_ ?_ ?_ ?_; rotate_left; (next => (repeat (first | (with_reducible refine BlkAt.new _ _ _ _ ?_; ((try simp) <;> omega)) | (with_reducible assumption) | (with_reducible refine Blk.at (t := ?_) ?_; rotate_left; with_reducible assumption) | with_reducible refine BlkAt.alloc ?_ _ | with_reducible refine BlkAt.drew ?_ | (with_reducible refine BlkAt.setSame ?_ _ _) | (with_reducible refine BlkAt.setCell ?_ ?_ _; rotate_left; ((try simp) <;> omega)) | (with_reducible refine BlkAt.ext (w := ?_) ?_ ?_; rotate_left 2; (with_reducible assumption)) | fail))); rotate_left; (next => first | (simp only [go_sem]; rfl) | rfl); (next => kernel_rfl); (try simp only [Act.put, List.setIfInBounds_toArray, List.set_cons_zero, List.set_cons_succ])) | (refine q_rem (by rfl) _ _ _ _ (by rfl) _ _ (by rfl) (by rfl) (by kernel_rfl) (by kernel_rfl) ?_ ?_; (next => omega); (try simp only [Act.put, List.setIfInBounds_toArray, List.set_cons_zero, List.set_cons_succ])) | (refine q_step_ex (by rfl) ?_; apply Exists.intro; refine ⟨fun W hW => ?_, ?_⟩; (next => (have hWc := fun (b o : Nat) (h : b < _) => (Ext.out hW).cell (p := ⟨b, o, none⟩) h); go_simp; first | rfl | fail); (try simp only [Act.put, List.setIfInBounds_toArray, List.set_cons_zero, List.set_cons_succ])) | fail)
  refine wpQuiet_nil ?_
  intro wq hbq
  go_wp2_with fail
  go_ret2
  exact ⟨rfl, by (repeat (first | with_reducible exact Below.refl _ _ | (with_reducible assumption) | (with_reducible refine below_alloc ?_ _) | (with_reducible refine below_ext (w1 := ?_) ?_ ?_; rotate_left 2; (with_reducible assumption)) | (with_reducible refine Below.setCell ?_ ?_ _; rotate_left; ((try simp) <;> omega)) | (with_reducible refine Below.drew ?_) | (with_reducible refine below_drewN ?_ _) | fail))⟩
theorem pop_nil (i : Int) (w : World) : Calls Try.prog 32 #[.pointer none, .int .i64 i] w fun e w' => e = .returned (.tuple #[.int .i64 0, .bool false]) ∧ Below w.heap.size w w' := by
  go_enter Try.func32, Try.ntmps32
  go_wp2_with (first | (go_at_call 34; refine (front_nil i _).mono ?_; rintro e w1 ⟨rfl, hb1⟩) | fail)
  go_ret2
  exact ⟨rfl, by (repeat (first | with_reducible exact Below.refl _ _ | (with_reducible assumption) | (with_reducible refine below_alloc ?_ _) | (with_reducible refine below_ext (w1 := ?_) ?_ ?_; rotate_left 2; (with_reducible assumption)) | (with_reducible refine Below.setCell ?_ ?_ _; rotate_left; ((try simp) <;> omega)) | (with_reducible refine Below.drew ?_) | (with_reducible refine below_drewN ?_ _) | fail))⟩
theorem of_nil (n : Int) (w : World) : Calls Try.prog 35 #[.pointer none, .int .i64 n] w fun e w' => e = .returned (.tuple #[.int .i64 0, .bool false]) ∧ w = w' := by
  go_enter Try.func35, Try.ntmps35
  go_wp2_with (first | (go_at_call 50; refine (node_nil n _).mono ?_; rintro e w' ⟨rfl, rfl⟩) | fail)
  go_ret2
  exact ⟨rfl, rfl⟩
theorem remove_nil (n : Int) (w : World) : Calls Try.prog 31 #[.pointer none, .int .i64 n] w fun e w' => e = .returned (.tuple #[.int .i64 0, .bool false]) ∧ w = w' := by
  go_enter Try.func31, Try.ntmps31
  go_wp2_with (first | (go_at_call 35; refine (of_nil n _).mono ?_; rintro e w' ⟨rfl, rfl⟩) | fail)
  go_ret2
  exact ⟨rfl, rfl⟩
theorem push_nil (i n : Int) (w : World) : Calls Try.prog 30 #[.pointer none, .int .i64 i, .int .i64 n] w fun e w' => e = .returned (.bool false) ∧ Below w.heap.size w w' := by
  go_enter Try.func30, Try.ntmps30
  go_wp2_with (first | (go_at_call 49; refine (queue_nil i _).mono ?_; rintro e w' ⟨rfl, rfl⟩) | (go_at_call 50; refine (node_nil n _).mono ?_; rintro e w' ⟨rfl, rfl⟩) | fail)
  refine wp_region_below_lit (by kernel_rfl) (by kernel_rfl) ?_
  repeat (first | go_big_quiet_skip | (go_big_quiet_want; go_big_quiet_op; go_big_quiet_on) | (refine q_load_fld (by rfl) _ _ (by rfl) (fun _ h => h) _ _ (by rfl) ?_ ?_ ?_ ?_ ?_ ?_; rotate_left; (next => (repeat (first | (with_reducible refine BlkAt.new _ _ _ _ ?_; ((try simp) <;> omega)) | (with_reducible assumption) | (with_reducible refine Blk.at (t := ?_) ?_; rotate_left; with_reducible assumption) | with_reducible refine BlkAt.alloc ?_ _ | with_reducible refine BlkAt.drew ?_ | (with_reducible refine BlkAt.setSame ?_ _ _) | (with_reducible refine BlkAt.setCell ?_ ?_ _; rotate_left; ((try simp) <;> omega)) | (with_reducible refine BlkAt.ext (w := ?_) ?_ ?_; rotate_left 2; (with_reducible assumption)) | fail))); rotate_left; (next => first | (simp only [go_sem]; rfl) | rfl); (next => kernel_rfl); (try simp only [Act.put, List.setIfInBounds_toArray, List.set_cons_zero, List.set_cons_succ])) | (refine q_rem (by rfl) _ _ _ _ (by rfl) _ _ (by rfl) (by rfl) (by kernel_rfl) (by kernel_rfl) ?_ ?_; (next => omega); (try simp only [Act.put, List.setIfInBounds_toArray, List.set_cons_zero, List.set_cons_succ])) | (refine q_step_ex (by rfl) ?_; apply Exists.intro; refine ⟨fun W hW => ?_, ?_⟩; (next => (have hWc := fun (b o : Nat) (h : b < _) => (Ext.out hW).cell (p := ⟨b, o, none⟩) h); go_simp; first | rfl | fail); (try simp only [Act.put, List.setIfInBounds_toArray, List.set_cons_zero, List.set_cons_succ])) | fail)
  refine wpQuiet_nil ?_
  intro wq hbq
  go_wp2_with fail
  go_ret
  exact ⟨rfl, by (repeat (first | with_reducible exact Below.refl _ _ | (with_reducible assumption) | (with_reducible refine below_alloc ?_ _) | (with_reducible refine below_ext (w1 := ?_) ?_ ?_; rotate_left 2; (with_reducible assumption)) | (with_reducible refine Below.setCell ?_ ?_ _; rotate_left; ((try simp) <;> omega)) | (with_reducible refine Below.drew ?_) | (with_reducible refine below_drewN ?_ _) | fail))⟩
theorem len_nil (i : Int) (w : World) : Calls Try.prog 29 #[.pointer none, .int .i64 i] w fun e w' => e = .returned (.int .i64 0) ∧ w = w' := by
  go_enter Try.func29, Try.ntmps29
  go_wp2_with (first | (go_at_call 49; refine (queue_nil i _).mono ?_; rintro e w' ⟨rfl, rfl⟩) | fail)
  go_ret
  exact ⟨rfl, rfl⟩
theorem nils_any (i n : Int) (w : World) :
    Calls Try.prog 10 #[.int .i64 i, .int .i64 n] w fun e w' => e = .returned (.bool true) ∧ Below w.heap.size w w' := by
  refine calls_of_wp_marks Try.func10 rfl ?_
  simp only [Try.ntmps10, List.size_toArray, List.length_cons, List.length_nil, Nat.reduceAdd, Nat.reduceSub, Array.replicate_succ, Array.replicate_zero, List.push_toArray, List.append_toArray, List.nil_append, List.cons_append]
  have hT : Blk (w.alloc (.cells #[.bool false] 4)) w.heap.size 4 #[.bool false] := Blk.new _ _ _ _ rfl
  have hb0 : Below w.heap.size w (w.alloc (.cells #[.bool false] 4)) := by (repeat (first | with_reducible exact Below.refl _ _ | (with_reducible assumption) | (with_reducible refine below_alloc ?_ _) | (with_reducible refine below_ext (w1 := ?_) ?_ ?_; rotate_left 2; (with_reducible assumption)) | (with_reducible refine Below.setCell ?_ ?_ _; rotate_left; ((try simp) <;> omega)) | (with_reducible refine Below.drew ?_) | (with_reducible refine below_drewN ?_ _) | fail))
  generalize hw0 : w.alloc (.cells #[.bool false] 4) = w0 at hT hb0
  have HZ0 : Hid (w0.heap.size = w.heap.size + 1) := by show w0.heap.size = _; rw [← hw0, sz_alloc]
  have HW0 := Lib.hid hw0
  clear hw0
  go_wp2_with fail
  rw [HW0.out]
  refine (alive_any _).mono ?_
  rintro e w1 ⟨rfl, hb1⟩
  go_wp2_with fail
  refine (each_any none i _).mono ?_
  rintro e w2 ⟨rfl, hB2, hC2, hb2⟩
  go_wp2_with fail
  refine wp_rangeFunc_nil (gf := 51) (by rfl) (enters_of Try.func51 (by kernel_rfl) rfl) (each_nil _ _ i _ hB2 hC2) ?_
  intro D w3 hD hb3 hK
  have hT3 := ((hT.ext hb1).ext hb2).ext hb3
  have hbB : Below w.heap.size w w3 := ((hb0.trans (hb1.mono hb0.size)).trans (hb2.mono (below_ext hb0 hb1).size)).trans (hb3.mono (below_ext (below_ext hb0 hb1) hb2).size)
  have hDl : w.heap.size < D := by
    have h1 := HZ0.out
    have h2 := hb1.size
    have h3 := hb2.size
    omega
  have hKl : D < w3.heap.size := (Array.getElem?_eq_some_iff.1 hK).1
  go_wp2_with (first | (go_at_call 32; refine (pop_nil i _).mono ?_; rintro e w4 ⟨rfl, hb4⟩) | (go_at_call 34; refine (front_nil i _).mono ?_; rintro e w5 ⟨rfl, hb5⟩) | (go_at_call 31; refine (remove_nil n _).mono ?_; rintro e w' ⟨rfl, rfl⟩) | (go_at_call 35; refine (of_nil n _).mono ?_; rintro e w' ⟨rfl, rfl⟩) | (go_at_call 30; refine (push_nil i n _).mono ?_; rintro e w6 ⟨rfl, hb6⟩; have hT6 := ((hT3.ext hb4).ext hb5).ext hb6) | (go_at_call 29; refine (len_nil i _).mono ?_; rintro e w' ⟨rfl, rfl⟩) | (refine wpList_store_fld (by rfl) _ _ _ (by rfl) _ _ (by rfl) _ (by rfl) _ _ hT6 ?_ ?_ (by rfl) (by rfl) ?_; (next => first | omega | ((try simp) <;> omega)); (next => kernel_rfl); intro w9 hT9 hU9) | fail)
  have hb38 : Below w3.heap.size w3 w6 := below_ext (below_ext hb4 hb5) hb6
  have hK9 : w9.heap[D]? = some (.deferred (some [])) := (hU9.block D (by omega)).trans ((hb38.block D hKl).trans hK)
  have hb9 : Below w.heap.size w w9 := below_upd (hbB.trans (hb38.mono (by omega))) (by omega) hU9
  have hT10 : Blk w9 w.heap.size 4 #[.bool true] := hT9
  have hcc : (w9.putObj D (.deferred none)).cell? ⟨w.heap.size, 0, none⟩ = some (.bool true) := (cell_mark (by omega)).trans (hT10.cell 0)
  exact bodyPostM_ret (v := .bool true) rfl hK9 (by simp [results, Try.results10, go_sem, hcc]) ⟨rfl, below_mark hb9 (by omega) hK9⟩
open Go.ChangeShapes Go.WideShapes Go.ChangeAt Go.Deep
set_option maxRecDepth 100000 in
theorem argsFifoNils (H : Type) (enc : TypeId × Value → H) (W : World) (args : Array Value) (hargs : Args Try.checked H enc [3, 3] W args) :
    Calls Try.prog 10 args W fun e W' => e = .returned (.bool true) ∧ Below W.heap.size W W' := by
  obtain ⟨base, ds, p, hval, hA⟩ := hargs
  obtain ⟨v0, vs0, d0, ds0, p0, q0, hargs, rfl, rfl, h0, r0⟩ := trodAll_cons hA
  obtain ⟨v1, vs1, d1, ds1, p1, q1, rfl, rfl, rfl, h1, r1⟩ := trodAll_cons r0
  obtain ⟨rfl, rfl, rfl⟩ := trodAll_nil r1
  obtain rfl : args = #[v0, v1] := by cases args; simp_all
  obtain ⟨i, rfl, _⟩ := open_int Try.underlying3 (hval 0 _ v0 rfl rfl) h0
  obtain ⟨n, rfl, _⟩ := open_int Try.underlying3 (hval 1 _ v1 rfl rfl) h1
  exact nils_any i n W
theorem ownFifoNils : ownKnob Try.prog.godebug = none := by kernel_rfl
theorem laidFifoNils : laidOutB Try.prog = true := by kernel_rfl
set_option maxRecDepth 100000 in
theorem liftedFifoNils (os : Os) (started : os.Started) (H : Type) (enc : TypeId × Value → H) :
    ReturnsInHanded {} Try.checked os 10 .any (Rows.fifoNilsSpec.pre6 enc Try.prog Try.f10 Rows.fifoNilsRow.domain false) (Rows.fifoNilsSpec.post enc Try.prog Try.f10 false true false false) :=
  law_lifted (C := Try.checked) (ts := [3, 3]) (tb := 4) ownFifoNils laidFifoNils started (by kernel_rfl) Try.func10 (by kernel_rfl)
    (ChangeSpec.witness6 (enc := enc) (C := Try.checked) false ⟨#[], #[.int .i64 0, .int .i64 0], []⟩ 8 (by kernel_rfl) (by kernel_rfl) (by kernel_rfl) (by kernel_rfl))
    rfl (by kernel_rfl) Try.underlying4 (by kernel_rfl)
    (fun ds h => by
      match ds, h with
      | [d0, d1], _ => rfl)
    (fun W args h => argsFifoNils H enc W args h)
theorem provedFifoNils : Rows.FifoNilsSaid :=
  OpenClaim.holds_of_wide 10 Try.f10 rfl rfl rfl rfl rfl rfl rfl ⟨rfl, rfl, rfl, rfl, rfl⟩ rfl rfl rfl rfl rfl (by kernel_rfl) Try.func10 (by kernel_rfl)
    (of_decide_eq_true (by kernel_rfl)) (by unfold Func.isWrapper; first | (rw [if_pos (by decide +kernel)]; kernel_rfl) | (rw [if_neg (by decide +kernel)]; exact ⟨rfl, rfl⟩))
    (fun os started H enc _ => liftedFifoNils os started H enc)
#print axioms provedFifoNils
end Fif
end Go.Proofs.Ytodgeakkecaliaa
