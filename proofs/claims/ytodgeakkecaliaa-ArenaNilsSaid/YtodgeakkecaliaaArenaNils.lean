/- This text proves ArenaNils: whatever the input, the law returns true. It has no conditions. -/
import Derived.Test.YtodgeakkecaliaaArenaLaw
import Derived.Test.YtodgeakkecaliaaRange
namespace Go.Proofs.Ytodgeakkecaliaa
set_option linter.unusedVariables false
open Go.RowKit
namespace Are
set_option maxHeartbeats 1000000
set_option maxRecDepth 10000
theorem each_any (p : Option Addr) (w : World) : Calls Try.prog 20 #[.pointer p] w fun e w' => e = .returned (.func (.func 41) #[] #[.pointer (some ⟨w.heap.size, 0, none⟩)]) ∧ Blk w' w.heap.size 24 #[.pointer p] ∧ Below w.heap.size w w' := by
  go_enter Try.func20, Try.ntmps20
  go_wp2_with fail
  go_ret
  exact ⟨rfl, Blk.new _ _ _ _ rfl, by (repeat (first | with_reducible exact Below.refl _ _ | (with_reducible assumption) | (with_reducible refine below_alloc ?_ _) | (with_reducible refine below_ext (w1 := ?_) ?_ ?_; rotate_left 2; (with_reducible assumption)) | (with_reducible refine Below.setCell ?_ ?_ _; rotate_left; ((try simp) <;> omega)) | (with_reducible refine Below.drew ?_) | (with_reducible refine below_drewN ?_ _) | fail))⟩
/-- A nil arena's iterator hands over nothing. -/
theorem each_nil (b : Nat) (w : World) (hb : Blk w b 24 #[.pointer none]) : SeqNil Try.prog 41 #[.pointer (some ⟨b, 0, none⟩)] w := by
  intro l W hW R h0
  have hc : W.cell? ⟨b, 0, none⟩ = some (.pointer none) := (hb.ext hW).cell 0
  show Calls _ _ (#[.func (.yield l) #[] #[], .pointer (some ⟨b, 0, none⟩)]) _ _
  go_enter Try.func41, Try.ntmps41
  go_wp2_with fail
  exact bodyPost_ret (results_none rfl _ _ _) rfl ⟨⟨_, rfl⟩, h0⟩
theorem nils_any (n : Int) (o : Ord) (w : World) :
    Calls Try.prog 6 #[.int .i64 n, .agg o.arr] w fun e w' => e = .returned (.bool true) ∧ Below w.heap.size w w' := by
  refine calls_of_wp_marks Try.func6 rfl ?_
  simp only [Try.ntmps6, List.size_toArray, List.length_cons, List.length_nil, Nat.reduceAdd, Nat.reduceSub, Array.replicate_succ, Array.replicate_zero, List.push_toArray, List.append_toArray, List.nil_append, List.cons_append]
  have hO : Blk ((w.alloc (.cells o.arr 32)).alloc (.cells #[.bool false] 4)) w.heap.size 32 o.arr := (Blk.new w _ _ _ rfl).alloc _
  have hT : Blk ((w.alloc (.cells o.arr 32)).alloc (.cells #[.bool false] 4)) (w.heap.size + 1) 4 #[.bool false] := Blk.new _ _ _ _ (sz_alloc _ _)
  have hb0 : Below w.heap.size w ((w.alloc (.cells o.arr 32)).alloc (.cells #[.bool false] 4)) := by (repeat (first | with_reducible exact Below.refl _ _ | (with_reducible assumption) | (with_reducible refine below_alloc ?_ _) | (with_reducible refine below_ext (w1 := ?_) ?_ ?_; rotate_left 2; (with_reducible assumption)) | (with_reducible refine Below.setCell ?_ ?_ _; rotate_left; ((try simp) <;> omega)) | (with_reducible refine Below.drew ?_) | (with_reducible refine below_drewN ?_ _) | fail))
  generalize hw0 : (w.alloc (.cells o.arr 32)).alloc (.cells #[.bool false] 4) = w0 at hO hT hb0
  have hz0 : w0.heap.size = w.heap.size + 1 + 1 := by rw [← hw0, sz_alloc, sz_alloc]
  have HW0 := Lib.hid hw0
  have HZ0 := Lib.hid hz0
  clear hw0 hz0
  go_wp2_with fail
  rw [HW0.out]
  refine (alive_any _).mono ?_
  rintro e w1 ⟨rfl, hb1⟩
  go_wp2_with fail
  refine (each_any none _).mono ?_
  rintro e w2 ⟨rfl, hB2, hb2⟩
  go_wp2_with fail
  refine wp_rangeFunc_nil (gf := 41) (by rfl) (enters_of Try.func41 (by kernel_rfl) rfl) (each_nil _ _ hB2) ?_
  intro D w3 hD hb3 hK
  have hO3 := ((hO.ext hb1).ext hb2).ext hb3
  have hT3 := ((hT.ext hb1).ext hb2).ext hb3
  have hbB : Below w.heap.size w w3 := ((hb0.trans (hb1.mono hb0.size)).trans (hb2.mono (below_ext hb0 hb1).size)).trans (hb3.mono (below_ext (below_ext hb0 hb1) hb2).size)
  have hDl : w.heap.size + 1 < D := by
    have h1 := HZ0.out
    have h2 := hb1.size
    have h3 := hb2.size
    omega
  have hKl : D < w3.heap.size := (Array.getElem?_eq_some_iff.1 hK).1
  go_wp2_with (first | (refine wpList_load_blk (by rfl) 32 _ (by rfl) ?_ (.pointer (some ⟨_, 0, none⟩)) (by rfl) ?_ _ Try.underlying32 rfl ?_ ?_; rotate_left; (next => (repeat (first | (with_reducible refine BlkAt.new _ _ _ _ ?_; ((try simp) <;> omega)) | (with_reducible assumption) | (with_reducible refine Blk.at (t := ?_) ?_; rotate_left; with_reducible assumption) | with_reducible refine BlkAt.alloc ?_ _ | with_reducible refine BlkAt.drew ?_ | (with_reducible refine BlkAt.setSame ?_ _ _) | (with_reducible refine BlkAt.setCell ?_ ?_ _; rotate_left; ((try simp) <;> omega)) | (with_reducible refine BlkAt.ext (w := ?_) ?_ ?_; rotate_left 2; (with_reducible assumption)) | fail))); (next => kernel_rfl)) | fail)
  refine (take_nil o _).mono ?_
  rintro e w4 ⟨rfl, hb4⟩
  have hO4 := hO3.ext hb4
  have hT4 := hT3.ext hb4
  go_wp2_with fail
  refine (get_nil n _).mono ?_
  rintro e w5 ⟨rfl, hb5⟩
  have hR5 : Blk (w5.alloc (.cells ord0.arr 32)) w5.heap.size 32 ord0.arr := Blk.new _ _ _ _ rfl
  have hO5 := (hO4.ext hb5).alloc (.cells ord0.arr 32)
  have hT5 := (hT4.ext hb5).alloc (.cells ord0.arr 32)
  go_wp2_with (first | ((refine wpList_store_blk (by rfl) 32 _ _ (by rfl) _ _ (by rfl) (by rfl) _ _ hR5 (by kernel_rfl) (by rfl) ?_ ?_; (next => first | (simp [Value.oneCell']; done) | exact Are.ordArr_one _); intro w6 hR6 hU6); have hO6 := hO5.upd (by have := (hO4.ext hb5).lt; omega) hU6; have hT6 := hT5.upd (by have := (hT4.ext hb5).lt; omega) hU6; have hb6 : Below w5.heap.size w5 w6 := below_upd (below_alloc (Below.refl _ _) _) (Nat.le_refl _) hU6) | (refine wpList_load_blk (by rfl) 32 _ (by rfl) ?_ (.pointer (some ⟨_, 0, none⟩)) (by rfl) ?_ _ Try.underlying32 rfl ?_ ?_; rotate_left; (next => (repeat (first | (with_reducible refine BlkAt.new _ _ _ _ ?_; ((try simp) <;> omega)) | (with_reducible assumption) | (with_reducible refine Blk.at (t := ?_) ?_; rotate_left; with_reducible assumption) | with_reducible refine BlkAt.alloc ?_ _ | with_reducible refine BlkAt.drew ?_ | (with_reducible refine BlkAt.setSame ?_ _ _) | (with_reducible refine BlkAt.setCell ?_ ?_ _; rotate_left; ((try simp) <;> omega)) | (with_reducible refine BlkAt.ext (w := ?_) ?_ ?_; rotate_left 2; (with_reducible assumption)) | fail))); (next => kernel_rfl)) | (refine wpList_eq_ord (by rfl) _ _ _ (by rfl) ord0 ord0 (by rfl) (by rfl) ?_; rw [ordEq_refl]) | (go_at_call 22; refine (drop_nil n _).mono ?_; rintro e w7 ⟨rfl, hb7⟩; have hO7 := hO6.ext hb7; have hT7 := hT6.ext hb7) | (go_at_call 23; refine (set_nil n o _).mono ?_; rintro e w8 ⟨rfl, hb8⟩; have hT8 := hT7.ext hb8) | (go_at_call 17; refine (used_nil _).mono ?_; rintro e w' ⟨rfl, rfl⟩) | (go_at_call 19; refine (room_nil _).mono ?_; rintro e w' ⟨rfl, rfl⟩) | (refine wpList_store_fld (by rfl) _ _ _ (by rfl) _ _ (by rfl) _ (by rfl) _ _ hT8 ?_ ?_ (by rfl) (by rfl) ?_; (next => first | omega | ((try simp) <;> omega)); (next => kernel_rfl); intro w9 hT9 hU9) | fail)
  have hb38 : Below w3.heap.size w3 w8 := below_ext (below_ext (below_ext (below_ext hb4 hb5) hb6) hb7) hb8
  have hK9 : w9.heap[D]? = some (.deferred (some [])) := (hU9.block D (by omega)).trans ((hb38.block D hKl).trans hK)
  have hb9 : Below w.heap.size w w9 := below_upd (hbB.trans (hb38.mono (by omega))) (by omega) hU9
  have hT10 : Blk w9 (w.heap.size + 1) 4 #[.bool true] := hT9
  have hcc : (w9.putObj D (.deferred none)).cell? ⟨w.heap.size + 1, 0, none⟩ = some (.bool true) := (cell_mark (by omega)).trans (hT10.cell 0)
  exact bodyPostM_ret (v := .bool true) rfl hK9 (by simp [results, Try.results6, go_sem, hcc]) ⟨rfl, below_mark hb9 (by omega) hK9⟩
open Go.ChangeShapes Go.WideShapes Go.ChangeAt Go.Deep
set_option maxRecDepth 100000 in
theorem argsArenaNils (H : Type) (enc : TypeId × Value → H) (W : World) (args : Array Value) (hargs : Args Try.checked H enc [3, 32] W args) :
    Calls Try.prog 6 args W fun e W' => e = .returned (.bool true) ∧ Below W.heap.size W W' := by
  obtain ⟨base, ds, p, hval, hA⟩ := hargs
  obtain ⟨v0, vs0, d0, ds0, p0, q0, hargs, rfl, rfl, h0, r0⟩ := trodAll_cons hA
  obtain ⟨v1, vs1, d1, ds1, p1, q1, rfl, rfl, rfl, h1, r1⟩ := trodAll_cons r0
  obtain ⟨rfl, rfl, rfl⟩ := trodAll_nil r1
  obtain rfl : args = #[v0, v1] := by cases args; simp_all
  obtain ⟨n, rfl, _⟩ := open_int Try.underlying3 (hval 0 _ v0 rfl rfl) h0
  obtain ⟨c0, rfl, f0⟩ := open_flat (ks := List.replicate 7 K) 5 Try.underlying32 (by kernel_rfl) (hval 1 _ v1 rfl rfl) h1
  obtain ⟨o, rfl, _⟩ := fitOrd f0
  exact nils_any n o W
theorem ownArenaNils : ownKnob Try.prog.godebug = none := by kernel_rfl
theorem laidArenaNils : laidOutB Try.prog = true := by kernel_rfl
set_option maxRecDepth 100000 in
theorem liftedArenaNils (os : Os) (started : os.Started) (H : Type) (enc : TypeId × Value → H) :
    ReturnsInHanded {} Try.checked os 6 .any (Rows.arenaNilsSpec.pre6 enc Try.prog Try.f6 Rows.arenaNilsRow.domain false) (Rows.arenaNilsSpec.post enc Try.prog Try.f6 false true false false) :=
  law_lifted (C := Try.checked) (ts := [3, 32]) (tb := 4) ownArenaNils laidArenaNils started (by kernel_rfl) Try.func6 (by kernel_rfl)
    (ChangeSpec.witness6 (enc := enc) (C := Try.checked) false ⟨#[], #[.int .i64 0, .agg (Array.replicate 7 (.int .i64 0))], []⟩ 8 (by kernel_rfl) (by kernel_rfl) (by kernel_rfl) (by kernel_rfl))
    rfl (by kernel_rfl) Try.underlying4 (by kernel_rfl)
    (fun ds h => by
      match ds, h with
      | [d0, d1], _ => rfl)
    (fun W args h => argsArenaNils H enc W args h)
theorem provedArenaNils : Rows.ArenaNilsSaid :=
  OpenClaim.holds_of_wide 6 Try.f6 rfl rfl rfl rfl rfl rfl rfl ⟨rfl, rfl, rfl, rfl, rfl⟩ rfl rfl rfl rfl rfl (by kernel_rfl) Try.func6 (by kernel_rfl)
    (of_decide_eq_true (by kernel_rfl)) (by unfold Func.isWrapper; first | (rw [if_pos (by decide +kernel)]; kernel_rfl) | (rw [if_neg (by decide +kernel)]; exact ⟨rfl, rfl⟩))
    (fun os started H enc _ => liftedArenaNils os started H enc)
#print axioms provedArenaNils
end Are
end Go.Proofs.Ytodgeakkecaliaa
