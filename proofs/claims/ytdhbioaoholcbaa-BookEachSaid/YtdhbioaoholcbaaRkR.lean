/- This text proves the contract of damperref13.Reduce. It has no conditions but those that it states. -/
import Derived.Test.YtdhbioaoholcbaaRkM
import Derived.Test.YtdhbioaoholcbaaBkRd
namespace Go.Proofs.Ytdhbioaoholcbaa
set_option linter.unusedVariables false
open Go.RowKit
namespace Rk
set_option maxHeartbeats 4000000
set_option maxRecDepth 10000
open Are (ord0)
open Bk (fndI rmI rm_none rdI redF redO less)
theorem rd_at {id z : Int} {L : List Ord} (hn : (L.map (·.id)).Nodup) {k : Nat} (hk : k < L.length) (he : L[k].id = id) : rdI id z L = L.set k (less L[k] z) := by
  unfold rdI
  refine List.ext_getElem (by simp) (fun j h1 h2 => ?_)
  have hj : j < L.length := by simpa using h1
  rw [List.getElem_map, List.getElem_set]
  by_cases e : k = j
  · subst e
    simp [he]
  · have hne : L[j].id ≠ id := fun h => by
      have h3 : (L.map (·.id))[j]'(by simpa using hj) = (L.map (·.id))[k]'(by simpa using hk) := by simp [h, he]
      exact e ((List.getElem_inj hn).1 h3).symm
    simp [e, hne]
theorem idx_id {id : Int} {L : List Ord} (h : idxI id L < L.length) : L[idxI id L].id = id := by
  have h2 := List.findIdx_getElem (w := h)
  exact of_decide_eq_true h2
section
variable {w : World} {rb N most : Nat} {L : List Ord} {A : Option Addr} {cap : Nat}
/-- What is refused. -/
theorem rreduce_no (q : Rb w rb (N : Int) (most : Int) L A cap) (id z : Int) (h : ∀ o, fndI id L = some o → z < 1 ∨ o.qty < z) : Calls Try.prog 47 #[.pointer (some ⟨rb, 0, none⟩), .int .i64 id, .int .i64 z] w fun e w' => e = .returned (.tuple #[.agg (redF id z L).2.arr, .int .i64 (redF id z L).1]) ∧ Below w.heap.size w w' := by
  have hb0 : Below w.heap.size w (w.alloc (.cells #[.int .i64 0, .int .i64 0, .int .i64 0, .int .i64 0, .int .i64 0, .int .i64 0, .int .i64 0] 30)) := by (repeat (first | with_reducible exact Below.refl _ _ | (with_reducible assumption) | (with_reducible refine below_alloc ?_ _) | (with_reducible refine below_ext (w1 := ?_) ?_ ?_; rotate_left 2; (with_reducible assumption)) | (with_reducible refine Below.setCell ?_ ?_ _; rotate_left; ((try simp) <;> omega)) | (with_reducible refine Below.drew ?_) | (with_reducible refine below_drewN ?_ _) | fail))
  have hX0 : Blk (w.alloc (.cells #[.int .i64 0, .int .i64 0, .int .i64 0, .int .i64 0, .int .i64 0, .int .i64 0, .int .i64 0] 30)) w.heap.size 30 ord0.arr := Blk.new _ _ _ _ rfl
  have q0 := q.ext hb0
  have HF := rfind_any q0 id
  unfold plcI at HF
  generalize hw0 : w.alloc (.cells #[.int .i64 0, .int .i64 0, .int .i64 0, .int .i64 0, .int .i64 0, .int .i64 0, .int .i64 0] 30) = w0 at *
  have HW0 := Lib.hid hw0
  clear hw0
  by_cases hi : idxI id L < L.length
  · rw [if_pos hi] at HF
    have HF := Lib.hid HF
    have hr := h _ (fnd_yes hi)
    have HE : Hid (redF id z L = (9, ord0)) := Lib.hid (by unfold redF; rw [fnd_yes hi]; exact if_pos hr)
    rw [HE.out]
    have c2 : w0.cell? ⟨rb, 2, none⟩ = some (.slice A L.length cap) := q0.hd.cell 2
    have hrl := q0.hd.lt
    have hlen := q0.len
    obtain ⟨ab, ao, rfl, hrg⟩ := q0.at hi
    have hal := cell_lt (hrg 0 _ rfl)
    have e1 : ((idxI id L : Nat) : Int) < (L.length : Int) := by omega
    generalize L[idxI id L] = x at *
    generalize idxI id L = k at *
    have hN0 : Blk (w0.alloc (.cells #[.int .i64 0, .int .i64 0, .int .i64 0, .int .i64 0, .int .i64 0, .int .i64 0, .int .i64 0] 30)) w0.heap.size 30 ord0.arr := Blk.new _ _ _ _ rfl
    have hb01 : Below w0.heap.size w0 (w0.alloc (.cells #[.int .i64 0, .int .i64 0, .int .i64 0, .int .i64 0, .int .i64 0, .int .i64 0, .int .i64 0] 30)) := by (repeat (first | with_reducible exact Below.refl _ _ | (with_reducible assumption) | (with_reducible refine below_alloc ?_ _) | (with_reducible refine below_ext (w1 := ?_) ?_ ?_; rotate_left 2; (with_reducible assumption)) | (with_reducible refine Below.setCell ?_ ?_ _; rotate_left; ((try simp) <;> omega)) | (with_reducible refine Below.drew ?_) | (with_reducible refine below_drewN ?_ _) | fail))
    have hzb := hX0.lt
    clear q q0 h HE
    by_cases hz : z < 1
    · clear hr
      go_enter Try.func47, Try.ntmps47
      go_wp2_with fail
      rw [HW0.out]
      go_wp2_with (first | (go_at_call 72; refine HF.out.mono ?_; rintro e w1 ⟨rfl, rfl⟩) | (refine wpList_load_mid (by rfl) _ _ (by rfl) _ _ (by rfl) _ _ hrg Try.underlying30 rfl (by kernel_rfl) ?_) | (((with_reducible show wpList _ _ _ (⟨_, .store 30 _ _, _, _, _, _⟩ :: _) _ _); refine wpList_store_blk (by rfl) 30 _ _ (by rfl) _ _ (by rfl) (by rfl) _ _ hN0 (by kernel_rfl) (by rfl) ?_ ?_; (next => first | (simp [Value.oneCell']; done) | (simp [Value.oneCell', Edt.cells]; done) | exact Are.ordArr_one _); intro w4 hX4 hU4); have hb04 : Below w0.heap.size w0 w4 := below_upd hb01 (Nat.le_refl _) hU4; have hZ4 := hX0.ext hb04; clear hN0 hU4) | ((with_reducible show wpList _ _ _ (⟨_, .store 30 _ _, _, _, _, _⟩ :: _) _ _); refine wpList_store_blk (by rfl) 30 _ _ (by rfl) _ _ (by rfl) (by rfl) _ _ hZ4 (by kernel_rfl) (by rfl) ?_ ?_; (next => first | (simp [Value.oneCell']; done) | (simp [Value.oneCell', Edt.cells]; done) | exact Are.ordArr_one _); intro w6 hZ6 hU6) | fail)
      have hcR : ∀ i, w6.cell? ⟨w.heap.size, i, none⟩ = ord0.arr[i]? := fun i => hZ6.cell i
      exact bodyPost_ret (v := .tuple #[.agg ord0.arr, .int .i64 9]) (by simp [results, Try.results47, go_sem, hcR]; first | done | rfl) rfl ⟨rfl, below_upd (below_ext hb0 hb04) (Nat.le_refl _) hU6⟩
    · have hq : x.qty < z := by omega
      clear hr
      go_enter Try.func47, Try.ntmps47
      go_wp2_with fail
      rw [HW0.out]
      go_wp2_with (first | (go_at_call 72; refine HF.out.mono ?_; rintro e w1 ⟨rfl, rfl⟩) | (refine wpList_load_mid (by rfl) _ _ (by rfl) _ _ (by rfl) _ _ hrg Try.underlying30 rfl (by kernel_rfl) ?_) | (((with_reducible show wpList _ _ _ (⟨_, .store 30 _ _, _, _, _, _⟩ :: _) _ _); refine wpList_store_blk (by rfl) 30 _ _ (by rfl) _ _ (by rfl) (by rfl) _ _ hN0 (by kernel_rfl) (by rfl) ?_ ?_; (next => first | (simp [Value.oneCell']; done) | (simp [Value.oneCell', Edt.cells]; done) | exact Are.ordArr_one _); intro w4 hX4 hU4); have hb04 : Below w0.heap.size w0 w4 := below_upd hb01 (Nat.le_refl _) hU4; have hZ4 := hX0.ext hb04; have c4 : w4.cell? ⟨w0.heap.size, 4, none⟩ = some (.int .i64 x.qty) := hX4.cell 4; clear hN0 hU4) | ((with_reducible show wpList _ _ _ (⟨_, .store 30 _ _, _, _, _, _⟩ :: _) _ _); refine wpList_store_blk (by rfl) 30 _ _ (by rfl) _ _ (by rfl) (by rfl) _ _ hZ4 (by kernel_rfl) (by rfl) ?_ ?_; (next => first | (simp [Value.oneCell']; done) | (simp [Value.oneCell', Edt.cells]; done) | exact Are.ordArr_one _); intro w6 hZ6 hU6) | fail)
      have hcR : ∀ i, w6.cell? ⟨w.heap.size, i, none⟩ = ord0.arr[i]? := fun i => hZ6.cell i
      exact bodyPost_ret (v := .tuple #[.agg ord0.arr, .int .i64 9]) (by simp [results, Try.results47, go_sem, hcR]; first | done | rfl) rfl ⟨rfl, below_upd (below_ext hb0 hb04) (Nat.le_refl _) hU6⟩
  · rw [if_neg hi] at HF
    have HE : Hid (redF id z L = (5, ord0)) := Lib.hid (by unfold redF; rw [fnd_no hi])
    rw [HE.out]
    have HF := Lib.hid HF
    clear q q0 h hi HE
    go_enter Try.func47, Try.ntmps47
    go_wp2_with fail
    rw [HW0.out]
    go_wp2_with (first | (go_at_call 72; refine HF.out.mono ?_; rintro e w1 ⟨rfl, rfl⟩) | ((with_reducible show wpList _ _ _ (⟨_, .store 30 _ _, _, _, _, _⟩ :: _) _ _); refine wpList_store_blk (by rfl) 30 _ _ (by rfl) _ _ (by rfl) (by rfl) _ _ hX0 (by kernel_rfl) (by rfl) ?_ ?_; (next => first | (simp [Value.oneCell']; done) | (simp [Value.oneCell', Edt.cells]; done) | exact Are.ordArr_one _); intro w2 hX2 hU2) | fail)
    have hcR : ∀ i, w2.cell? ⟨w.heap.size, i, none⟩ = ord0.arr[i]? := fun i => hX2.cell i
    exact bodyPost_ret (v := .tuple #[.agg ord0.arr, .int .i64 5]) (by simp [results, Try.results47, go_sem, hcR]; first | done | rfl) rfl ⟨rfl, below_upd hb0 (Nat.le_refl _) hU2⟩
theorem rreduce_all (q : Rb w rb (N : Int) (most : Int) L A cap) {id z : Int} (hi : idxI id L < L.length) (hz : 1 ≤ z) (hzq : (L[idxI id L]).qty = z) : Calls Try.prog 47 #[.pointer (some ⟨rb, 0, none⟩), .int .i64 id, .int .i64 z] w fun e w' => e = .returned (.tuple #[.agg (less (L[idxI id L]) z).arr, .int .i64 0]) ∧ (∃ A' cap', Rb w' rb (N : Int) (most : Int) (L.take (idxI id L) ++ L.drop (idxI id L + 1)) A' cap' ∧ ∀ a, A' = some a → w.heap.size ≤ a.block) ∧ ButL [rb] w.heap.size w w' := by
  have hrb0 := q.hd.lt
  have hb0 : Below w.heap.size w (w.alloc (.cells #[.int .i64 0, .int .i64 0, .int .i64 0, .int .i64 0, .int .i64 0, .int .i64 0, .int .i64 0] 30)) := by (repeat (first | with_reducible exact Below.refl _ _ | (with_reducible assumption) | (with_reducible refine below_alloc ?_ _) | (with_reducible refine below_ext (w1 := ?_) ?_ ?_; rotate_left 2; (with_reducible assumption)) | (with_reducible refine Below.setCell ?_ ?_ _; rotate_left; ((try simp) <;> omega)) | (with_reducible refine Below.drew ?_) | (with_reducible refine below_drewN ?_ _) | fail))
  have hX0 : Blk (w.alloc (.cells #[.int .i64 0, .int .i64 0, .int .i64 0, .int .i64 0, .int .i64 0, .int .i64 0, .int .i64 0] 30)) w.heap.size 30 ord0.arr := Blk.new _ _ _ _ rfl
  have q0 := q.ext hb0
  have HF := rfind_any q0 id
  unfold plcI at HF
  rw [if_pos hi] at HF
  have HF := Lib.hid HF
  generalize hw0 : w.alloc (.cells #[.int .i64 0, .int .i64 0, .int .i64 0, .int .i64 0, .int .i64 0, .int .i64 0, .int .i64 0] 30) = w0 at *
  have HW0 := Lib.hid hw0
  clear hw0
  have c2 : w0.cell? ⟨rb, 2, none⟩ = some (.slice A L.length cap) := q0.hd.cell 2
  have hrl := q0.hd.lt
  have hlen := q0.len
  have hN0 : Blk (w0.alloc (.cells #[.int .i64 0, .int .i64 0, .int .i64 0, .int .i64 0, .int .i64 0, .int .i64 0, .int .i64 0] 30)) w0.heap.size 30 ord0.arr := Blk.new _ _ _ _ rfl
  have hb01 : Below w0.heap.size w0 (w0.alloc (.cells #[.int .i64 0, .int .i64 0, .int .i64 0, .int .i64 0, .int .i64 0, .int .i64 0, .int .i64 0] 30)) := by (repeat (first | with_reducible exact Below.refl _ _ | (with_reducible assumption) | (with_reducible refine below_alloc ?_ _) | (with_reducible refine below_ext (w1 := ?_) ?_ ?_; rotate_left 2; (with_reducible assumption)) | (with_reducible refine Below.setCell ?_ ?_ _; rotate_left; ((try simp) <;> omega)) | (with_reducible refine Below.drew ?_) | (with_reducible refine below_drewN ?_ _) | fail))
  have hzb := hX0.lt
  obtain ⟨ab, ao, rfl, hrg⟩ := q0.at hi
  have hal := cell_lt (hrg 0 _ rfl)
  have e1 : ((idxI id L : Nat) : Int) < (L.length : Int) := by omega
  have HRM : Hid (∀ W, Below w0.heap.size w0 W → Calls Try.prog 46 #[.pointer (some ⟨rb, 0, none⟩), .int .i64 id] W fun e w' => e = .returned (.tuple #[.agg (L[idxI id L]).arr, .int .i64 0]) ∧ (∃ A' cap', Rb w' rb (N : Int) (most : Int) (L.take (idxI id L) ++ L.drop (idxI id L + 1)) A' cap' ∧ ∀ a, A' = some a → W.heap.size ≤ a.block) ∧ ButL [rb] W.heap.size W w') := Lib.hid (fun W hW => rremove_yes (q0.ext hW) hi)
  obtain ⟨R, hR⟩ : ∃ R, R = L.take (idxI id L) ++ L.drop (idxI id L + 1) := ⟨_, rfl⟩
  rw [← hR] at HRM ⊢
  clear hR
  generalize L[idxI id L] = x at *
  generalize idxI id L = k at *
  clear q q0
  have hzn : ¬ z < 1 := by omega
  have HC4 : Hid (∀ W, Blk W w0.heap.size 30 x.arr → W.cell? ⟨w0.heap.size, 4, none⟩ = some (.int .i64 z)) := Lib.hid (fun W hW => by rw [← hzq]; exact hW.cell 4)
  have HZ := Lib.hid hzq
  clear hzq
  go_enter Try.func47, Try.ntmps47
  go_wp2_with fail
  rw [HW0.out]
  go_wp2_with (first | (go_at_call 72; refine HF.out.mono ?_; rintro e w1 ⟨rfl, rfl⟩) | (refine wpList_load_mid (by rfl) _ _ (by rfl) _ _ (by rfl) _ _ hrg Try.underlying30 rfl (by kernel_rfl) ?_) | (((with_reducible show wpList _ _ _ (⟨_, .store 30 _ _, _, _, _, _⟩ :: _) _ _); refine wpList_store_blk (by rfl) 30 _ _ (by rfl) _ _ (by rfl) (by rfl) _ _ hN0 (by kernel_rfl) (by rfl) ?_ ?_; (next => first | (simp [Value.oneCell']; done) | (simp [Value.oneCell', Edt.cells]; done) | exact Are.ordArr_one _); intro w4 hX4 hU4); have hb04 : Below w0.heap.size w0 w4 := below_upd hb01 (Nat.le_refl _) hU4; have hZ4 := hX0.ext hb04; have c4 := HC4.out _ hX4; have f4 : w4.frozen? ⟨w0.heap.size, 4, none⟩ = false := hX4.frozen 4; clear hN0 hU4) | fail)
  have hu5 := Upd.setCell w4 ⟨w0.heap.size, 4, none⟩ (.int .i64 0)
  have hX5 : Blk (w4.setCell ⟨w0.heap.size, 4, none⟩ (.int .i64 0)) w0.heap.size 30 (less x z).arr := by
    have h := hX4.setCell 4 (.int .i64 0)
    have e : x.arr.setIfInBounds 4 (.int .i64 0) = (less x z).arr := by
      have hz0 : x.qty - z = 0 := by have := HZ.out; omega
      simp [less, Ord.arr, Ord.cells, hz0]
    rw [← e]
    exact h
  have hZ5 : Blk (w4.setCell ⟨w0.heap.size, 4, none⟩ (.int .i64 0)) w.heap.size 30 ord0.arr := (hu5.block w.heap.size (by show w.heap.size ≠ w0.heap.size; omega)).trans hZ4
  have hb05 : Below w0.heap.size w0 (w4.setCell ⟨w0.heap.size, 4, none⟩ (.int .i64 0)) := below_upd hb04 (Nat.le_refl _) hu5
  refine (HRM.out _ hb05).mono ?_
  rintro e w6 ⟨rfl, ⟨A', cap', q6, k6⟩, hbl6⟩
  have hX6 : Blk w6 w0.heap.size 30 (less x z).arr := (hbl6.block w0.heap.size hX5.lt (by simp; omega)).trans hX5
  have hZ6 : Blk w6 w.heap.size 30 ord0.arr := (hbl6.block w.heap.size hZ5.lt (by simp; omega)).trans hZ5
  have hz06 := hb05.size
  have HBL : Hid (ButL [rb] w.heap.size w w6) := Lib.hid (by
    have h1 := ButL.of_below (l := [rb]) (below_ext hb0 hb05)
    exact ⟨hbl6.os.trans h1.os, hbl6.tape.trans h1.tape, hbl6.output.trans h1.output, Nat.le_trans h1.size hbl6.size, fun q hq hn => (hbl6.block q (by have := h1.size; omega) hn).trans (h1.block q hq hn)⟩)
  have HQ := Lib.hid q6
  have HK4 : Hid (∀ a, A' = some a → w.heap.size < a.block) := Lib.hid (fun a e => by have := k6 a e; have := hZ5.lt; omega)
  clear hbl6 hX5 hZ5 hb05 hu5 q6 k6 c4 f4 hX4 hZ4
  go_wp2_with (first | ((with_reducible show wpList _ _ _ (⟨_, .load 30 _, _, _, _, _⟩ :: _) _ _); refine wpList_load_ho 30 _ (by rfl) (by rfl) ?_ (.pointer (some ⟨_, 0, none⟩)) (by rfl) ?_ _ Try.underlying30 rfl ?_ ?_; rotate_left; (next => (repeat (first | (with_reducible refine BlkAt.new _ _ _ _ ?_; ((try simp) <;> omega)) | (with_reducible assumption) | (with_reducible refine Blk.at (t := ?_) ?_; rotate_left; with_reducible assumption) | with_reducible refine BlkAt.alloc ?_ _ | with_reducible refine BlkAt.drew ?_ | (with_reducible refine BlkAt.setSame ?_ _ _) | (with_reducible refine BlkAt.setCell ?_ ?_ _; rotate_left; ((try simp) <;> omega)) | (with_reducible refine BlkAt.ext (w := ?_) ?_ ?_; rotate_left 2; (with_reducible assumption)) | fail))); (next => kernel_rfl)) | ((with_reducible show wpList _ _ _ (⟨_, .store 30 _ _, _, _, _, _⟩ :: _) _ _); refine wpList_store_blk (by rfl) 30 _ _ (by rfl) _ _ (by rfl) (by rfl) _ _ hZ6 (by kernel_rfl) (by rfl) ?_ ?_; (next => first | (simp [Value.oneCell']; done) | (simp [Value.oneCell', Edt.cells]; done) | exact Are.ordArr_one _); intro w8 hZ8 hU8) | fail)
  have hcR : ∀ i, w8.cell? ⟨w.heap.size, i, none⟩ = (less x z).arr[i]? := fun i => hZ8.cell i
  have q8 : Rb w8 rb (N : Int) (most : Int) R A' cap' := HQ.out.keep (Nat.le_of_eq hU8.size.symm) (hU8.block rb (by omega)) (fun a e => hU8.block _ (by have := HK4.out a e; omega))
  have hbl8 : ButL [rb] w.heap.size w w8 := by
    have h := HBL.out
    exact ⟨hU8.os.trans h.os, hU8.tape.trans h.tape, hU8.output.trans h.output, by rw [hU8.size]; exact h.size, fun q hq hn => (hU8.block q (by omega)).trans (h.block q hq hn)⟩
  exact bodyPost_ret (v := .tuple #[.agg (less x z).arr, .int .i64 0]) (by simp [results, Try.results47, go_sem, hcR]; first | done | rfl) rfl ⟨rfl, ⟨A', cap', q8, fun a e => by have := HK4.out a e; omega⟩, hbl8⟩
theorem rd_put {w w' : World} {g : Nat} {cur : Array Value} {L : List Ord} {k : Nat} {y : Ord} (hk : k < L.length) (hG : Blk w g 30 cur) (hR : Rd w 7 (some ⟨g, 0, none⟩) (L.map Ord.cells)) (hs : L.length * 7 ≤ cur.size) (hG' : Blk w' g 30 (putC cur (k * 7) y.cells)) : Rd w' 7 (some ⟨g, 0, none⟩) ((L.set k y).map Ord.cells) := by
  obtain ⟨b, o, e, hc⟩ := hR (by
    intro h
    rw [List.map_eq_nil_iff] at h
    rw [h] at hk
    cases hk)
  cases e
  refine fun _ => ⟨g, 0, rfl, fun i j u hu => ?_⟩
  have hy : y.cells.length = 7 := rfl
  rw [hG'.cell]
  by_cases hik : i = k
  · subst hik
    have hu2 : y.cells[j]? = some u := by
      rw [List.getD_eq_getElem?_getD, List.getElem?_map, List.getElem?_set_self hk] at hu
      exact hu
    have hj : j < 7 := by
      rcases Nat.lt_or_ge j 7 with h | h
      · exact h
      · rw [List.getElem?_eq_none (by omega)] at hu2
        cases hu2
    have h1 := put_in y.cells cur (i * 7) j (by omega) (by omega)
    rw [Nat.zero_add, h1]
    exact hu2
  · have hu2 : ((L.map Ord.cells).getD i [])[j]? = some u := by
      rw [List.getD_eq_getElem?_getD, List.getElem?_map, List.getElem?_set_ne (fun h => hik h.symm)] at hu
      rw [List.getD_eq_getElem?_getD, List.getElem?_map]
      exact hu
    have hj : j < 7 := by
      rcases Nat.lt_or_ge j 7 with h | h
      · exact h
      · rw [List.getD_eq_getElem?_getD, List.getElem?_map] at hu2
        cases hl : L[i]? with
        | none => rw [hl] at hu2; simp at hu2
        | some z =>
          rw [hl] at hu2
          have : z.cells[j]? = none := List.getElem?_eq_none (by have : z.cells.length = 7 := rfl; omega)
          simp [this] at hu2
    have h1 := hc i j u hu2
    rw [hG.cell] at h1
    rw [put_out y.cells cur (k * 7) (0 + (i * 7 + j)) (by omega)]
    exact h1
theorem rreduce_less (q : Rb w rb (N : Int) (most : Int) L A cap) {id z : Int} (hi : idxI id L < L.length) (hz : 1 ≤ z) (hzq : z < (L[idxI id L]).qty) (hq : (L[idxI id L]).qty ≤ 4294967296) : Calls Try.prog 47 #[.pointer (some ⟨rb, 0, none⟩), .int .i64 id, .int .i64 z] w fun e w' => e = .returned (.tuple #[.agg (less (L[idxI id L]) z).arr, .int .i64 0]) ∧ (∃ A' cap', Rb w' rb (N : Int) (most : Int) (L.set (idxI id L) (less (L[idxI id L]) z)) A' cap' ∧ ∀ a, A' = some a → w.heap.size ≤ a.block) ∧ ButL [rb] w.heap.size w w' := by
  have hrb0 := q.hd.lt
  have hb0 : Below w.heap.size w (w.alloc (.cells #[.int .i64 0, .int .i64 0, .int .i64 0, .int .i64 0, .int .i64 0, .int .i64 0, .int .i64 0] 30)) := by (repeat (first | with_reducible exact Below.refl _ _ | (with_reducible assumption) | (with_reducible refine below_alloc ?_ _) | (with_reducible refine below_ext (w1 := ?_) ?_ ?_; rotate_left 2; (with_reducible assumption)) | (with_reducible refine Below.setCell ?_ ?_ _; rotate_left; ((try simp) <;> omega)) | (with_reducible refine Below.drew ?_) | (with_reducible refine below_drewN ?_ _) | fail))
  have hX0 : Blk (w.alloc (.cells #[.int .i64 0, .int .i64 0, .int .i64 0, .int .i64 0, .int .i64 0, .int .i64 0, .int .i64 0] 30)) w.heap.size 30 ord0.arr := Blk.new _ _ _ _ rfl
  have q0 := q.ext hb0
  have HF := rfind_any q0 id
  unfold plcI at HF
  rw [if_pos hi] at HF
  have HF := Lib.hid HF
  generalize hw0 : w.alloc (.cells #[.int .i64 0, .int .i64 0, .int .i64 0, .int .i64 0, .int .i64 0, .int .i64 0, .int .i64 0] 30) = w0 at *
  have HW0 := Lib.hid hw0
  clear hw0
  have c2 : w0.cell? ⟨rb, 2, none⟩ = some (.slice A L.length cap) := q0.hd.cell 2
  have hrl := q0.hd.lt
  have hlen := q0.len
  have hN0 : Blk (w0.alloc (.cells #[.int .i64 0, .int .i64 0, .int .i64 0, .int .i64 0, .int .i64 0, .int .i64 0, .int .i64 0] 30)) w0.heap.size 30 ord0.arr := Blk.new _ _ _ _ rfl
  have hb01 : Below w0.heap.size w0 (w0.alloc (.cells #[.int .i64 0, .int .i64 0, .int .i64 0, .int .i64 0, .int .i64 0, .int .i64 0, .int .i64 0] 30)) := by (repeat (first | with_reducible exact Below.refl _ _ | (with_reducible assumption) | (with_reducible refine below_alloc ?_ _) | (with_reducible refine below_ext (w1 := ?_) ?_ ?_; rotate_left 2; (with_reducible assumption)) | (with_reducible refine Below.setCell ?_ ?_ _; rotate_left; ((try simp) <;> omega)) | (with_reducible refine Below.drew ?_) | (with_reducible refine below_drewN ?_ _) | fail))
  have hzb := hX0.lt
  obtain ⟨ab, ao, rfl, hrg⟩ := q0.at hi
  have hal := cell_lt (hrg 0 _ rfl)
  have e1 : ((idxI id L : Nat) : Int) < (L.length : Int) := by omega
  have hrd := q0.rd
  have hnil := q0.nil
  have hd0 := q0.hd
  obtain ⟨x, hx⟩ : ∃ x, x = L[idxI id L] := ⟨_, rfl⟩
  rw [← hx] at hrg hzq hq ⊢
  clear hx
  generalize idxI id L = k at *
  clear q q0
  have hzn : ¬ z < 1 := by omega
  have hqn : ¬ x.qty < z := by omega
  have e0 : (x.qty - z == 0) = false := by
    have : ¬ x.qty - z = 0 := by omega
    simpa using this
  have hz0 : w0.heap.size = w.heap.size + 1 := by
    rw [← HW0.out]
    exact sz_alloc _ _
  have HZ0 := Lib.hid hz0
  clear hz0
  go_enter Try.func47, Try.ntmps47
  go_wp2_with fail
  rw [HW0.out]
  go_wp2_with (first | (go_at_call 72; refine HF.out.mono ?_; rintro e w1 ⟨rfl, rfl⟩) | (refine wpList_load_mid (by rfl) _ _ (by rfl) _ _ (by rfl) _ _ hrg Try.underlying30 rfl (by kernel_rfl) ?_) | (((with_reducible show wpList _ _ _ (⟨_, .store 30 _ _, _, _, _, _⟩ :: _) _ _); refine wpList_store_blk (by rfl) 30 _ _ (by rfl) _ _ (by rfl) (by rfl) _ _ hN0 (by kernel_rfl) (by rfl) ?_ ?_; (next => first | (simp [Value.oneCell']; done) | (simp [Value.oneCell', Edt.cells]; done) | exact Are.ordArr_one _); intro w4 hX4 hU4); have hb04 : Below w0.heap.size w0 w4 := below_upd hb01 (Nat.le_refl _) hU4; have hZ4 := hX0.ext hb04; have c4 : w4.cell? ⟨w0.heap.size, 4, none⟩ = some (.int .i64 x.qty) := hX4.cell 4; have f4 : w4.frozen? ⟨w0.heap.size, 4, none⟩ = false := hX4.frozen 4; have hz4 : w0.heap.size < w4.heap.size := hX4.lt; have k4 : w4.cell? ⟨rb, 2, none⟩ = some (.slice (some ⟨ab, ao, none⟩) L.length cap) := (hb04.cell (p := ⟨rb, 2, none⟩) hrl).trans c2; have hu5 := Upd.setCell w4 ⟨w0.heap.size, 4, none⟩ (.int .i64 (x.qty - z)); have hb05 : Below w0.heap.size w0 (w4.setCell ⟨w0.heap.size, 4, none⟩ (.int .i64 (x.qty - z))) := below_upd hb04 (Nat.le_refl _) hu5; have hz5 : w0.heap.size + 1 ≤ (w4.setCell ⟨w0.heap.size, 4, none⟩ (.int .i64 (x.qty - z))).heap.size := (by rw [hu5.size]; exact hz4); clear hN0 hU4) | (refine wpList_build0 (by rfl) 22 30 (by rfl) 7 Try.underlying22 (by kernel_rfl) (w0.heap.size + 1) hz5 ?_; intro w6 hown6 hb6 hz6'; have hz6 := Lib.hid hz6'; clear hz6'; have hb06 : Below w0.heap.size w0 w6 := below_ext hb05 hb6; have c6 : w6.cell? ⟨rb, 2, none⟩ = some (.slice (some ⟨ab, ao, none⟩) L.length cap) := (hb06.cell (p := ⟨rb, 2, none⟩) hrl).trans c2; have hz6b : w0.heap.size + 1 ≤ w6.heap.size := Nat.le_trans hz5 hb6.size; rw [hu5.size] at hown6) | (refine wpList_append_rd (by rfl) _ _ _ (by rfl) (w0.heap.size + 1) 30 (.agg #[.int .i64 0, .int .i64 0, .int .i64 0, .int .i64 0, .int .i64 0, .int .i64 0, .int .i64 0]) 7 56 Try.underlying22 (by kernel_rfl) ⟨rfl, by decide⟩ _ 0 [] (by rfl) hown6 (some ⟨ab, ao, none⟩) L.length cap (L.map Ord.cells) (by rfl) (hrd.below hb06) ⟨List.length_map _, ord_ok _⟩ hnil ⟨by unfold maxLen; omega, by omega⟩ hz6b ?_; intro v7 w7 hown7 hb7' hz7 hk7; have hb07 : Below w0.heap.size w0 w7 := hb06.trans (hb7'.mono (Nat.le_succ _)); have hd7 := hd0.ext hb07; have hX7 := hb7'.block w0.heap.size (Nat.lt_succ_self _)) | (refine wpList_store_fld (by rfl) _ _ _ (by rfl) _ _ (by rfl) _ (by rfl) _ _ hd7 ?_ ?_ (owns_cellsO hown7).1 (owns_cellsO hown7).2 ?_; (next => simp); (next => kernel_rfl); intro w8 hd8 hU8) | fail)
  have hX8 : Blk w8 w0.heap.size 30 (less x z).arr := (hU8.block w0.heap.size (by omega)).trans (hX7.trans ((hX4.setCell 4 (.int .i64 (x.qty - z))).ext hb6))
  have hZ8 : Blk w8 w.heap.size 30 ord0.arr := (hU8.block w.heap.size (by omega)).trans (hX0.ext hb07)
  rcases hown7.2 with ⟨_, h0⟩ | ⟨g, capg, cur, rfl, hgb, hg, hr1, hr2, hr3, hr4⟩
  · omega
  have hG8 : Blk w8 g 30 cur := (hU8.block g (by omega)).trans hg
  have c8 : w8.cell? ⟨rb, 2, none⟩ = some (.slice (some ⟨g, 0, none⟩) (0 + L.length) capg) := hd8.cell 2
  have hRd8 : Rd w8 7 (some ⟨g, 0, none⟩) (L.map Ord.cells) := rd_own hG8 (fun r hr => (ord_ok L r hr).1) (n := L.length) (by simpa using hr4)
  have hcs : L.length * 7 ≤ cur.size := by omega
  have hput : k * 7 + 7 ≤ cur.size := by omega
  have hbl8 : ButL [rb] w.heap.size w w8 := (ButL.of_below (below_ext hb0 hb07)).upd (by simp) hU8
  have hd8' : Blk w8 rb 96 #[.int .i64 N, .int .i64 most, .slice (some ⟨g, 0, none⟩) L.length capg] := by
    have h := hd8
    rw [Nat.zero_add] at h
    exact h
  rw [Nat.zero_add] at c8 hr1
  have hrl8 : rb < w8.heap.size := hd8'.lt
  have hxl8 : w0.heap.size < w8.heap.size := hX8.lt
  have HBL := Lib.hid hbl8
  have HR8 := Lib.hid hRd8
  have HD8 := Lib.hid hd8'
  have hgg : w0.heap.size < g := by omega
  clear hbl8 hRd8 hd8' hd8 hU8 hown7 hg hr3 hr4 hd7 hX7 hk7 hb7' hb07 hown6 hb6 hb06 c6 k4 c4 f4 hu5 hb05 hz5 hX4 hZ4 hb04 hd0 hrd hnil hrg
  go_wp2_with fail
  refine wp_region_below_tail 6 (by kernel_rfl) (by kernel_rfl) ?_
  simp only [List.take_succ_cons, List.take_zero, List.drop_succ_cons, List.drop_zero]
  repeat (first | go_big_quiet_skip | (go_big_quiet_want; go_big_quiet_op; go_big_quiet_on) | (refine q_load_blk (by rfl) 30 _ (by rfl) ?_ (.pointer (some ⟨_, 0, none⟩)) (by rfl) ?_ _ (fun _ h => h) Try.underlying30 rfl ?_ ?_; rotate_left; (next => (repeat (first | (with_reducible refine BlkAt.new _ _ _ _ ?_; ((try simp) <;> omega)) | (with_reducible assumption) | (with_reducible refine Blk.at (t := ?_) ?_; rotate_left; with_reducible assumption) | with_reducible refine BlkAt.alloc ?_ _ | with_reducible refine BlkAt.drew ?_ | (with_reducible refine BlkAt.setSame ?_ _ _) | (with_reducible refine BlkAt.setCell ?_ ?_ _; rotate_left; ((try simp) <;> omega)) | (with_reducible refine BlkAt.ext (w := ?_) ?_ ?_; rotate_left 2; (with_reducible assumption)) | fail))); (next => kernel_rfl); (try simp only [Act.put, List.setIfInBounds_toArray, List.set_cons_zero, List.set_cons_succ])) | (refine q_load_fld (by rfl) _ _ (by rfl) (fun _ h => h) _ _ (by rfl) ?_ ?_ ?_ ?_ ?_ ?_; rotate_left; (next => (repeat (first | (with_reducible refine BlkAt.new _ _ _ _ ?_; ((try simp) <;> omega)) | (with_reducible assumption) | (with_reducible refine Blk.at (t := ?_) ?_; rotate_left; with_reducible assumption) | with_reducible refine BlkAt.alloc ?_ _ | with_reducible refine BlkAt.drew ?_ | (with_reducible refine BlkAt.setSame ?_ _ _) | (with_reducible refine BlkAt.setCell ?_ ?_ _; rotate_left; ((try simp) <;> omega)) | (with_reducible refine BlkAt.ext (w := ?_) ?_ ?_; rotate_left 2; (with_reducible assumption)) | fail))); rotate_left; (next => first | (simp only [go_sem]; rfl) | rfl); (next => kernel_rfl); (try simp only [Act.put, List.setIfInBounds_toArray, List.set_cons_zero, List.set_cons_succ])) | (refine q_rem (by rfl) _ _ _ _ (by rfl) _ _ (by rfl) (by rfl) (by kernel_rfl) (by kernel_rfl) ?_ ?_; (next => omega); (try simp only [Act.put, List.setIfInBounds_toArray, List.set_cons_zero, List.set_cons_succ])) | (refine q_step_ex (by rfl) ?_; apply Exists.intro; refine ⟨fun W hW => ?_, ?_⟩; (next => (have hWc := fun (b o : Nat) (h : b < _) => (Ext.out hW).cell (p := ⟨b, o, none⟩) h); (try have hLK := HLK.out W (Ext.out hW)); go_simp; first | rfl | fail | fail); (try simp only [Act.put, List.setIfInBounds_toArray, List.set_cons_zero, List.set_cons_succ])) | fail)
  refine wpQuiet_nil ?_
  intro w9 hb9
  have hG9 := hG8.ext hb9
  have hX9 := hX8.ext hb9
  have hZ9 := hZ8.ext hb9
  have hput2 : k * 7 + (less x z).arr.size ≤ cur.size := hput
  go_wp2_with (first | ((with_reducible show wpList _ _ _ (⟨_, .store 30 _ _, _, _, _, _⟩ :: _) _ _); refine wpList_store_put (by rfl) _ _ _ (by rfl) _ _ _ (by rfl) (by rfl) _ _ hG9 ?_ ?_ ?_ ?_; (next => kernel_rfl); (next => exact hput2); (next => first | rfl | exact Are.ordArr_one _ | exact ordArr_one _); intro w10 hG10 hU10; have hX10 : Blk w10 w0.heap.size 30 (less x z).arr := (hU10.block w0.heap.size (by omega)).trans hX9; have hZ10 : Blk w10 w.heap.size 30 ord0.arr := (hU10.block w.heap.size (by omega)).trans hZ9; clear hG9) | ((with_reducible show wpList _ _ _ (⟨_, .load 30 _, _, _, _, _⟩ :: _) _ _); refine wpList_load_ho 30 _ (by rfl) (by rfl) ?_ (.pointer (some ⟨_, 0, none⟩)) (by rfl) ?_ _ Try.underlying30 rfl ?_ ?_; rotate_left; (next => (repeat (first | (with_reducible refine BlkAt.new _ _ _ _ ?_; ((try simp) <;> omega)) | (with_reducible assumption) | (with_reducible refine Blk.at (t := ?_) ?_; rotate_left; with_reducible assumption) | with_reducible refine BlkAt.alloc ?_ _ | with_reducible refine BlkAt.drew ?_ | (with_reducible refine BlkAt.setSame ?_ _ _) | (with_reducible refine BlkAt.setCell ?_ ?_ _; rotate_left; ((try simp) <;> omega)) | (with_reducible refine BlkAt.ext (w := ?_) ?_ ?_; rotate_left 2; (with_reducible assumption)) | fail))); (next => kernel_rfl)) | ((with_reducible show wpList _ _ _ (⟨_, .store 30 _ _, _, _, _, _⟩ :: _) _ _); refine wpList_store_blk (by rfl) 30 _ _ (by rfl) _ _ (by rfl) (by rfl) _ _ hZ10 (by kernel_rfl) (by rfl) ?_ ?_; (next => first | (simp [Value.oneCell']; done) | (simp [Value.oneCell', Edt.cells]; done) | exact Are.ordArr_one _); intro w12 hZ12 hU12) | fail)
  have hcR : ∀ i, w12.cell? ⟨w.heap.size, i, none⟩ = (less x z).arr[i]? := fun i => hZ12.cell i
  have hRb9 := HR8.out.below hb9
  have hD9 := HD8.out.ext hb9
  have hsl : (L.set k (less x z)).length = L.length := List.length_set
  have hD12 : Blk w12 rb 96 #[.int .i64 N, .int .i64 most, .slice (some ⟨g, 0, none⟩) (L.set k (less x z)).length capg] := by
    rw [hsl]
    exact (hU12.block rb (by omega)).trans ((hU10.block rb (by omega)).trans hD9)
  have hG12 : Blk w12 g 30 (putC cur (k * 7) (less x z).cells) := (hU12.block g (by omega)).trans hG10
  have hRd12 : Rd w12 7 (some ⟨g, 0, none⟩) ((L.set k (less x z)).map Ord.cells) := rd_put hi (hG8.ext hb9) hRb9 hcs hG12
  have hgl := hG12.lt
  have q12 : Rb w12 rb (N : Int) (most : Int) (L.set k (less x z)) (some ⟨g, 0, none⟩) capg := ⟨hD12, hRd12, by rw [hsl]; exact hr1, (fun e => by cases e), (fun a e => by cases e; exact ⟨by show g ≠ rb; omega, hgl⟩), by rw [hsl]; exact hlen⟩
  have hbl12 : ButL [rb] w.heap.size w w12 := by
    have h := HBL.out
    have h9 := hb9.size
    have h8 := h.size
    exact ⟨hU12.os.trans (hU10.os.trans (hb9.os.trans h.os)), hU12.tape.trans (hU10.tape.trans (hb9.tape.trans h.tape)), hU12.output.trans (hU10.output.trans (hb9.output.trans h.output)), by rw [hU12.size, hU10.size]; omega, fun q hq hn => (hU12.block q (by omega)).trans ((hU10.block q (by omega)).trans ((hb9.block q (by omega)).trans (h.block q hq hn)))⟩
  exact bodyPost_ret (v := .tuple #[.agg (less x z).arr, .int .i64 0]) (by simp [results, Try.results47, go_sem, hcR]; first | done | rfl) rfl ⟨rfl, ⟨_, _, q12, fun a e => by cases e; show w.heap.size ≤ g; omega⟩, hbl12⟩
/-- Reduce, whatever is asked. -/
theorem rreduce_any (q : Rb w rb (N : Int) (most : Int) L A cap) (hn : (L.map (·.id)).Nodup) (hok : ∀ o ∈ L, o.qty ≤ 4294967296) (id z : Int) : Calls Try.prog 47 #[.pointer (some ⟨rb, 0, none⟩), .int .i64 id, .int .i64 z] w fun e w' => e = .returned (.tuple #[.agg (redF id z L).2.arr, .int .i64 (redF id z L).1]) ∧ (∃ A' cap', Rb w' rb (N : Int) (most : Int) (redO id z L) A' cap' ∧ ∀ a, A' = some a → w.heap.size ≤ a.block ∨ A = some a) ∧ ButL [rb] w.heap.size w w' := by
  have no : (∀ o, fndI id L = some o → z < 1 ∨ o.qty < z) → redO id z L = L → _ := fun h he => by
    refine (rreduce_no q id z h).mono (R' := fun e w' => e = .returned (.tuple #[.agg (redF id z L).2.arr, .int .i64 (redF id z L).1]) ∧ (∃ A' cap', Rb w' rb (N : Int) (most : Int) (redO id z L) A' cap' ∧ ∀ a, A' = some a → w.heap.size ≤ a.block ∨ A = some a) ∧ ButL [rb] w.heap.size w w') ?_
    rintro e w' ⟨rfl, hb⟩
    exact ⟨rfl, ⟨A, cap, by rw [he]; exact q.ext hb, fun a e => .inr e⟩, ButL.of_below hb⟩
  by_cases hi : idxI id L < L.length
  · have hf := fnd_yes hi
    by_cases hr : z < 1 ∨ (L[idxI id L]).qty < z
    · exact no (fun o ho => by rw [hf] at ho; cases ho; exact hr) (by unfold redO; rw [hf]; exact if_pos hr)
    · have e1 : redF id z L = (0, less L[idxI id L] z) := by unfold redF; rw [hf]; exact if_neg hr
      by_cases hz : z = (L[idxI id L]).qty
      · have e2 : redO id z L = L.take (idxI id L) ++ L.drop (idxI id L + 1) := by
          unfold redO
          rw [hf]
          exact (if_neg hr).trans ((if_pos hz).trans (rm_idx hn hi))
        rw [e1, e2]
        refine (rreduce_all q hi (by omega) hz.symm).mono ?_
        rintro e w' ⟨rfl, ⟨A', cap', h1, h2⟩, h3⟩
        exact ⟨rfl, ⟨A', cap', h1, fun a e => .inl (h2 a e)⟩, h3⟩
      · have e2 : redO id z L = L.set (idxI id L) (less L[idxI id L] z) := by
          unfold redO
          rw [hf]
          exact (if_neg hr).trans ((if_neg hz).trans (rd_at hn hi (idx_id hi)))
        rw [e1, e2]
        refine (rreduce_less q hi (by omega) (by omega) (hok _ (List.getElem_mem hi))).mono ?_
        rintro e w' ⟨rfl, ⟨A', cap', h1, h2⟩, h3⟩
        exact ⟨rfl, ⟨A', cap', h1, fun a e => .inl (h2 a e)⟩, h3⟩
  · have hf := fnd_no hi
    exact no (fun o ho => by rw [hf] at ho; cases ho) (by unfold redO; rw [hf])
end
end Rk
end Go.Proofs.Ytdhbioaoholcbaa
