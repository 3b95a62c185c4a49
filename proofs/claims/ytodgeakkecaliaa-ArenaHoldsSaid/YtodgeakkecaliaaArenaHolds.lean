/- This text proves ArenaHolds: whatever the input, the law returns true. It has no conditions. -/
import Derived.Test.YtodgeakkecaliaaArenaLaw
namespace Go.Proofs.Ytodgeakkecaliaa
set_option linter.unusedVariables false
open Go.RowKit
namespace Are
set_option maxHeartbeats 1000000
set_option maxRecDepth 10000

def hS (n : Nat) (xs : List Ord) (k : Nat) : St :=
  ⟨n, if k < n then k else -1, k, fun i => if i < k then xs.getD i ord0 else ord0, fun i => if i < k then -2 else if i = n - 1 then -1 else if i < n then i + 1 else 0⟩
theorem hS_new (n : Nat) (xs : List Ord) (hn : 1 ≤ n) : new0 n = hS n xs 0 := by
  refine st_ext rfl ?_ rfl (fun k => ?_) (fun k => ?_)
  · simp [new0, hS, show 0 < n by omega]
  · simp [new0, hS]
  · simp [new0, hS]
theorem hS_take (n : Nat) (xs : List Ord) (k : Nat) (hk : k < n) (hx : k < xs.length) : takeS (hS n xs k) k xs[k] = hS n xs (k + 1) := by
  refine st_ext rfl ?_ ?_ (fun i => ?_) (fun i => ?_)
  · simp only [takeS, hS]
    rw [if_neg (by omega)]
    by_cases e : k = n - 1
    · rw [if_pos e, if_neg (by omega)]
    · rw [if_neg e, if_pos hk, if_pos (by omega)]
      omega
  · simp only [takeS, hS]
    omega
  · simp only [takeS, hS]
    by_cases e : i = k
    · subst e
      rw [if_pos rfl, if_pos (by omega)]
      simp [List.getD_eq_getElem?_getD, List.getElem?_eq_getElem hx]
    · rw [if_neg e]
      by_cases e2 : i < k
      · rw [if_pos e2, if_pos (by omega)]
      · rw [if_neg e2, if_neg (by omega)]
  · simp only [takeS, hS]
    by_cases e : i = k
    · subst e
      rw [if_pos rfl, if_pos (by omega)]
    · rw [if_neg e]
      by_cases e2 : i < k
      · rw [if_pos e2, if_pos (by omega)]
      · rw [if_neg e2, if_neg (show ¬ i < k + 1 by omega)]
theorem rd_range {α : Type} {c : α → List Value} {w : World} {k : Nat} {A : Option Addr} {xs : List α} (h : Rd w k A (xs.map c)) {i : Nat} (hi : i < xs.length) :
    ∃ b off, A = some ⟨b, off, none⟩ ∧ w.rangeAt b (off + i * k) (c xs[i]) := by
  obtain ⟨b, off, e, hc⟩ := h.at hi
  exact ⟨b, off, e, fun j v hv => by rw [Nat.add_assoc]; exact hc j v hv⟩
/-- The cells of 'at' behind k takes. -/
def atC (n k : Nat) (cs : Array Value) : Prop := cs.size = n ∧ ∀ j, j < n → cs[j]? = some (.int .i64 (if j < k then ((j : Int) + 1) else 0))
theorem atC_new (n : Nat) : atC n 0 (madeCells (Value.int .i64 0).cells (n * 1)) := by
  refine ⟨by rw [size_madeCells, Nat.mul_one], fun j hj => ?_⟩
  rw [madeCells_all (v := .int .i64 0) (fun i hi => by
    have : i = 0 := by simp [Value.cells] at hi; omega
    subst this; rfl) (by simp [Value.cells]) _ _ (by omega)]
  simp
theorem atC_set {n k : Nat} {cs : Array Value} (h : atC n k cs) (hk : k < n) : atC n (k + 1) (cs.setIfInBounds k (.int .i64 (k + 1))) := by
  refine ⟨by simp [h.1], fun j hj => ?_⟩
  by_cases e : j = k
  · subst e
    rw [Array.getElem?_setIfInBounds_self_of_lt (by have := h.1; omega), if_pos (by omega)]
  · rw [Array.getElem?_setIfInBounds_ne (fun h => e h.symm), h.2 j hj]
    by_cases e2 : j < k
    · rw [if_pos e2, if_pos (by omega)]
    · rw [if_neg e2, if_neg (by omega)]

theorem holds_any (n : Int) (xs : List Ord) (A : Option Addr) (cap : Nat) (w : World) (hr : Rd w 7 A (xs.map Ord.cells)) (hml : xs.length ≤ maxLen) :
    Calls Try.prog 3 #[.int .i64 n, .slice A xs.length cap] w fun e w' => e = .returned (.bool true) ∧ Below w.heap.size w w' := by
  unfold maxLen at hml
  have HR := Lib.hid hr
  clear hr
  by_cases h60 : 60 < xs.length
  · go_enter Try.func3, Try.ntmps3
    go_wp2_with (first | (go_at_call 11; refine (alive_any _).mono ?_; rintro e w'' ⟨rfl, hb2⟩) | fail)
    go_ret
    exact ⟨rfl, by (repeat (first | with_reducible exact Below.refl _ _ | (with_reducible assumption) | (with_reducible refine below_alloc ?_ _) | (with_reducible refine below_ext (w1 := ?_) ?_ ?_; rotate_left 2; (with_reducible assumption)) | (with_reducible refine Below.setCell ?_ ?_ _; rotate_left; ((try simp) <;> omega)) | (with_reducible refine Below.drew ?_) | (with_reducible refine below_drewN ?_ _) | fail))⟩
  by_cases hn1 : n < 1
  · go_enter Try.func3, Try.ntmps3
    go_wp2_with (first | (go_at_call 11; refine (alive_any _).mono ?_; rintro e w'' ⟨rfl, hb2⟩) | fail)
    go_ret
    exact ⟨rfl, by (repeat (first | with_reducible exact Below.refl _ _ | (with_reducible assumption) | (with_reducible refine below_alloc ?_ _) | (with_reducible refine below_ext (w1 := ?_) ?_ ?_; rotate_left 2; (with_reducible assumption)) | (with_reducible refine Below.setCell ?_ ?_ _; rotate_left; ((try simp) <;> omega)) | (with_reducible refine Below.drew ?_) | (with_reducible refine below_drewN ?_ _) | fail))⟩
  by_cases hn2 : 60 < n
  · go_enter Try.func3, Try.ntmps3
    go_wp2_with (first | (go_at_call 11; refine (alive_any _).mono ?_; rintro e w'' ⟨rfl, hb2⟩) | fail)
    go_ret
    exact ⟨rfl, by (repeat (first | with_reducible exact Below.refl _ _ | (with_reducible assumption) | (with_reducible refine below_alloc ?_ _) | (with_reducible refine below_ext (w1 := ?_) ?_ ?_; rotate_left 2; (with_reducible assumption)) | (with_reducible refine Below.setCell ?_ ?_ _; rotate_left; ((try simp) <;> omega)) | (with_reducible refine Below.drew ?_) | (with_reducible refine below_drewN ?_ _) | fail))⟩
  obtain ⟨n, rfl⟩ : ∃ m : Nat, n = m := ⟨n.toNat, by omega⟩
  go_enter Try.func3, Try.ntmps3
  go_wp2_with fail
  refine (new_any n _ (by omega) (by omega)).mono ?_
  rintro e w1 ⟨g, rfl, hg, hA1, hb1⟩
  rw [hS_new n xs (by omega)] at hA1
  have hgl := hA1.lt
  go_wp2_with (first | (refine wpList_make_blk (by rfl) _ _ _ (by rfl) 3 (.int .i64 0) 1 8 .i64 .i64 n (by rfl) (by rfl) Try.underlying28 (by kernel_rfl) (by omega) ?_; intro w2 hM hb2 hz2) | fail)
  have hA2 := hA1.ext hb2
  have hB2 := below_ext hb1 hb2
  have hC0 := atC_new n
  generalize hbt : w1.heap.size = bt at *
  generalize madeCells (Value.int .i64 0).cells (n * 1) = cs0 at *
  go_loopw [8] (fun i wr => ∃ k : Nat, i = .int .i64 k ∧ k ≤ xs.length ∧ (∃ cs, Blk wr bt 3 cs ∧ atC n (min k n) cs) ∧ Ar wr g (hS n xs (min k n)) ∧ Below w.heap.size w wr ∧ bt < wr.heap.size) (fun i _ => xs.length - (intOf i).toNat)
  case atStart => exact ⟨0, rfl, Nat.zero_le _, ⟨_, hM, by rw [Nat.zero_min]; exact hC0⟩, by rw [Nat.zero_min]; exact hA2, hB2, by omega⟩
  case round =>
    obtain ⟨k, rfl, hk, ⟨cs, hBt, hC⟩, hA, hb, hbtl⟩ := hrel
    by_cases hlt : k < xs.length
    · by_cases hfull : k < n
      · have hmin : min k n = k := Nat.min_eq_left (by omega)
        rw [hmin] at hC hA
        obtain ⟨rb, ro, rfl, hrg⟩ := rd_range (HR.out.below hb) hlt
        have hfree : (hS n xs k).free = k := by simp [hS, hfull]
        have hck : cs[k]? = some (.int .i64 0) := by rw [hC.2 k hfull]; simp
        have hT := take_any g (hS n xs k) k xs[k] wr hA hfree (by omega) ⟨by simp [hS], by simp [hS]; omega⟩
        rw [hS_take n xs k hfull hlt] at hT
        have HT := Lib.hid hT
        have hsz := hC.1
        clear hfree hmin hT
        go_wp2_with (first | (refine wpList_load_mid (by rfl) _ _ (by rfl) _ _ (by rfl) _ _ hrg Try.underlying32 rfl (by kernel_rfl) ?_) | fail)
        refine HT.out.mono ?_
        rintro e w3 ⟨rfl, hA3, hu3⟩
        have hBt3 := hBt.but hu3 (by omega)
        have hcell : w3.cell? ⟨bt, k, none⟩ = some (.int .i64 0) := (hBt3.cell k).trans hck
        go_wp2_with (first | (refine wpList_store_fld (by rfl) _ _ _ (by rfl) _ _ (by rfl) _ (by rfl) _ _ hBt3 ?_ ?_ (by rfl) (by rfl) ?_; (next => first | omega | ((try simp) <;> omega)); (next => kernel_rfl); intro w4 hBt4 hU4) | fail)
        go_roundw
        case rel => exact ⟨k + 1, by go_num, by omega, ⟨_, hBt4, by rw [show min (k + 1) n = k + 1 by omega]; exact atC_set hC hfull⟩, by rw [show min (k + 1) n = k + 1 by omega]; exact ⟨_, hA3.choose_spec.1.upd (by omega) hU4, hA3.choose_spec.2⟩, below_upd (but_below hb hg hu3) (by have := hb1.size; omega) hU4, by have := hBt4.lt; omega⟩
        case measure => simp [intOf]; omega
      · have hmin : min k n = n := Nat.min_eq_right (by omega)
        rw [hmin] at hC hA
        obtain ⟨rb, ro, rfl, hrg⟩ := rd_range (HR.out.below hb) hlt
        have hfree : (hS n xs n).free = -1 := by simp [hS]
        have HT := Lib.hid (take_full g (hS n xs n) xs[k] wr hA hfree)
        clear hfree hmin
        go_wp2_with (first | (refine wpList_load_mid (by rfl) _ _ (by rfl) _ _ (by rfl) _ _ hrg Try.underlying32 rfl (by kernel_rfl) ?_) | fail)
        refine HT.out.mono ?_
        rintro e w3 ⟨rfl, hb3⟩
        go_wp2_with fail
        go_roundw
        case rel => exact ⟨k + 1, by go_num, by omega, ⟨_, hBt.ext hb3, by rw [show min (k + 1) n = n by omega]; exact hC⟩, by rw [show min (k + 1) n = n by omega]; exact hA.ext hb3, below_ext hb hb3, by have := hb3.size; omega⟩
        case measure => simp [intOf]; omega
    · have hk' : k = xs.length := by omega
      obtain ⟨M, hM⟩ : ∃ M, M = min k n := ⟨_, rfl⟩
      rw [← hM] at hC hA
      have hMn : M ≤ n ∧ M ≤ xs.length := by omega
      clear hM hk'
      go_wp2_with fail
      obtain ⟨wo, rfl⟩ : ∃ wo : World, wo = wr := ⟨_, rfl⟩
      go_loopw [11] (fun i wr => ∃ j : Nat, i = .int .i64 j ∧ j ≤ n ∧ Blk wr bt 3 cs ∧ Ar wr g (hS n xs M) ∧ Below w.heap.size w wr) (fun i _ => n - (intOf i).toNat)
      case atStart => exact ⟨0, rfl, Nat.zero_le _, hBt, hA, hb⟩
      case round =>
        obtain ⟨j, rfl, hj, hBt2, hA2, hbw⟩ := hrel
        by_cases hjn : j < n
        · have hcj := hC.2 j hjn
          by_cases hjM : j < M
          · have hjx : j < xs.length := by omega
            have hx2 : (hS n xs M).nx j = -2 := by simp [hS, hjM]
            have ho : (hS n xs M).o j = xs[j] := by simp [hS, hjM, List.getD_eq_getElem?_getD, List.getElem?_eq_getElem hjx]
            have hG := get_yes g (hS n xs M) j wr hA2 (by simp [hS]; omega) hjn hx2
            rw [ho] at hG
            have HG := Lib.hid hG
            rw [if_pos hjM] at hcj
            clear hx2 ho hG
            obtain ⟨rb, ro, rfl, hrg⟩ := rd_range (HR.out.below hbw) hjx
            go_wp2_with (first | (go_at_call 14; refine HG.out.mono ?_; rintro e w3 ⟨rfl, hb3⟩; have hR : Blk (w3.alloc (.cells ord0.arr 32)) w3.heap.size 32 ord0.arr := Blk.new _ _ _ _ rfl) | (refine wpList_store_blk (by rfl) 32 _ _ (by rfl) _ _ (by rfl) (by rfl) _ _ hR (by kernel_rfl) (by rfl) ?_ ?_; (next => first | (simp [Value.oneCell']; done) | exact Are.ordArr_one _); intro w4 hR2 hU2) | fail)
            have hb4 : Below wr.heap.size wr w4 := below_upd (below_alloc hb3 _) hb3.size hU2
            have hbt4 : bt < w4.heap.size := (hBt2.ext hb4).lt
            have hcell : w4.cell? ⟨bt, j, none⟩ = some (.int .i64 (j + 1)) := ((hBt2.ext hb4).cell j).trans hcj
            have hmid : w4.rangeAt rb (ro + j * 7) xs[j].cells := fun i v hv => (hb4.cell (cell_lt (hrg i v hv))).trans (hrg i v hv)
            have hself : (!ordEq xs[j] xs[j]) = false := by rw [ordEq_refl]; rfl
            have hw1 : IntKind.i64.wrap ((j : Int) + 1 - 1) = j := by rw [Int.add_sub_cancel]; exact IntWalk.i64_in _ (by omega)
            have hw2 : IntKind.i64.wrap (j : Int) = j := IntWalk.i64_in _ (by omega)
            refine wp_region_below_lit (by kernel_rfl) (by kernel_rfl) ?_
            repeat (first | go_big_quiet_skip | (go_big_quiet_want; go_big_quiet_op; go_big_quiet_on) | (refine q_load_blk (by rfl) 32 _ (by rfl) ?_ (.pointer (some ⟨_, 0, none⟩)) (by rfl) ?_ _ (fun _ h => h) Try.underlying32 rfl ?_ ?_; rotate_left; (next => (repeat (first | (with_reducible refine BlkAt.new _ _ _ _ ?_; ((try simp) <;> omega)) | (with_reducible assumption) | (with_reducible refine Blk.at (t := ?_) ?_; rotate_left; with_reducible assumption) | with_reducible refine BlkAt.alloc ?_ _ | with_reducible refine BlkAt.drew ?_ | (with_reducible refine BlkAt.setSame ?_ _ _) | (with_reducible refine BlkAt.setCell ?_ ?_ _; rotate_left; ((try simp) <;> omega)) | (with_reducible refine BlkAt.ext (w := ?_) ?_ ?_; rotate_left 2; (with_reducible assumption)) | fail))); (next => kernel_rfl); (try simp only [Act.put, List.setIfInBounds_toArray, List.set_cons_zero, List.set_cons_succ])) | (refine q_load_mid (by rfl) _ _ (by rfl) (fun _ h => h) _ _ (by rfl) _ _ hmid Try.underlying32 rfl (by kernel_rfl) ?_; (try simp only [Act.put, List.setIfInBounds_toArray, List.set_cons_zero, List.set_cons_succ])) | (refine q_ne_ord (by rfl) _ _ _ (by rfl) _ _ (by rfl) (by rfl) ?_; (try simp only [Act.put, List.setIfInBounds_toArray, List.set_cons_zero, List.set_cons_succ])) | (refine q_load_fld (by rfl) _ _ (by rfl) (fun _ h => h) _ _ (by rfl) ?_ ?_ ?_ ?_ ?_ ?_; rotate_left; (next => (repeat (first | (with_reducible refine BlkAt.new _ _ _ _ ?_; ((try simp) <;> omega)) | (with_reducible assumption) | (with_reducible refine Blk.at (t := ?_) ?_; rotate_left; with_reducible assumption) | with_reducible refine BlkAt.alloc ?_ _ | with_reducible refine BlkAt.drew ?_ | (with_reducible refine BlkAt.setSame ?_ _ _) | (with_reducible refine BlkAt.setCell ?_ ?_ _; rotate_left; ((try simp) <;> omega)) | (with_reducible refine BlkAt.ext (w := ?_) ?_ ?_; rotate_left 2; (with_reducible assumption)) | fail))); rotate_left; (next => first | (simp only [go_sem]; rfl) | rfl); (next => kernel_rfl); (try simp only [Act.put, List.setIfInBounds_toArray, List.set_cons_zero, List.set_cons_succ])) | (refine q_rem (by rfl) _ _ _ _ (by rfl) _ _ (by rfl) (by rfl) (by kernel_rfl) (by kernel_rfl) ?_ ?_; (next => omega); (try simp only [Act.put, List.setIfInBounds_toArray, List.set_cons_zero, List.set_cons_succ])) | (refine q_step_ex (by rfl) ?_; apply Exists.intro; refine ⟨fun W hW => ?_, ?_⟩; (next => (have hWc := fun (b o : Nat) (h : b < _) => (Ext.out hW).cell (p := ⟨b, o, none⟩) h); go_simp; first | rfl | fail); (try simp only [Act.put, List.setIfInBounds_toArray, List.set_cons_zero, List.set_cons_succ])) | fail)
            refine wpQuiet_nil ?_
            intro wq hbq
            clear hw1 hw2
            go_wp2_with fail
            go_roundw
            case rel => exact ⟨j + 1, by go_num, by omega, (hBt2.ext hb4).ext hbq, (hA2.ext hb4).ext hbq, below_ext (below_ext hbw hb4) hbq⟩
            case measure => simp [intOf]; omega
          · have hx2 : has (hS n xs M) j = false := by
              simp only [has, hS, decide_eq_false_iff_not, Int.toNat_natCast, if_neg hjM]
              rintro ⟨_, _, h⟩
              first | omega | (split at h <;> first | omega | (split at h <;> omega))
            have HG := Lib.hid (get_no g (hS n xs M) j wr hA2 (by simp [hS]; omega) hx2)
            rw [if_neg hjM] at hcj
            clear hx2
            go_wp2_with (first | (go_at_call 14; refine HG.out.mono ?_; rintro e w3 ⟨rfl, hb3⟩; have hR : Blk (w3.alloc (.cells ord0.arr 32)) w3.heap.size 32 ord0.arr := Blk.new _ _ _ _ rfl) | (refine wpList_store_blk (by rfl) 32 _ _ (by rfl) _ _ (by rfl) (by rfl) _ _ hR (by kernel_rfl) (by rfl) ?_ ?_; (next => first | (simp [Value.oneCell']; done) | exact Are.ordArr_one _); intro w4 hR2 hU2) | fail)
            have hb4 : Below wr.heap.size wr w4 := below_upd (below_alloc hb3 _) hb3.size hU2
            have hbt4 : bt < w4.heap.size := (hBt2.ext hb4).lt
            have hcell : w4.cell? ⟨bt, j, none⟩ = some (.int .i64 0) := ((hBt2.ext hb4).cell j).trans hcj
            refine wp_region_below_lit (by kernel_rfl) (by kernel_rfl) ?_
            repeat (first | go_big_quiet_skip | (go_big_quiet_want; go_big_quiet_op; go_big_quiet_on) | (refine q_load_blk (by rfl) 32 _ (by rfl) ?_ (.pointer (some ⟨_, 0, none⟩)) (by rfl) ?_ _ (fun _ h => h) Try.underlying32 rfl ?_ ?_; rotate_left; (next => (repeat (first | (with_reducible refine BlkAt.new _ _ _ _ ?_; ((try simp) <;> omega)) | (with_reducible assumption) | (with_reducible refine Blk.at (t := ?_) ?_; rotate_left; with_reducible assumption) | with_reducible refine BlkAt.alloc ?_ _ | with_reducible refine BlkAt.drew ?_ | (with_reducible refine BlkAt.setSame ?_ _ _) | (with_reducible refine BlkAt.setCell ?_ ?_ _; rotate_left; ((try simp) <;> omega)) | (with_reducible refine BlkAt.ext (w := ?_) ?_ ?_; rotate_left 2; (with_reducible assumption)) | fail))); (next => kernel_rfl); (try simp only [Act.put, List.setIfInBounds_toArray, List.set_cons_zero, List.set_cons_succ])) | (refine q_ne_ord (by rfl) _ _ _ (by rfl) _ _ (by rfl) (by rfl) ?_; (try simp only [Act.put, List.setIfInBounds_toArray, List.set_cons_zero, List.set_cons_succ])) | (refine q_load_fld (by rfl) _ _ (by rfl) (fun _ h => h) _ _ (by rfl) ?_ ?_ ?_ ?_ ?_ ?_; rotate_left; (next => (repeat (first | (with_reducible refine BlkAt.new _ _ _ _ ?_; ((try simp) <;> omega)) | (with_reducible assumption) | (with_reducible refine Blk.at (t := ?_) ?_; rotate_left; with_reducible assumption) | with_reducible refine BlkAt.alloc ?_ _ | with_reducible refine BlkAt.drew ?_ | (with_reducible refine BlkAt.setSame ?_ _ _) | (with_reducible refine BlkAt.setCell ?_ ?_ _; rotate_left; ((try simp) <;> omega)) | (with_reducible refine BlkAt.ext (w := ?_) ?_ ?_; rotate_left 2; (with_reducible assumption)) | fail))); rotate_left; (next => first | (simp only [go_sem]; rfl) | rfl); (next => kernel_rfl); (try simp only [Act.put, List.setIfInBounds_toArray, List.set_cons_zero, List.set_cons_succ])) | (refine q_rem (by rfl) _ _ _ _ (by rfl) _ _ (by rfl) (by rfl) (by kernel_rfl) (by kernel_rfl) ?_ ?_; (next => omega); (try simp only [Act.put, List.setIfInBounds_toArray, List.set_cons_zero, List.set_cons_succ])) | (refine q_step_ex (by rfl) ?_; apply Exists.intro; refine ⟨fun W hW => ?_, ?_⟩; (next => (have hWc := fun (b o : Nat) (h : b < _) => (Ext.out hW).cell (p := ⟨b, o, none⟩) h); go_simp; first | rfl | fail); (try simp only [Act.put, List.setIfInBounds_toArray, List.set_cons_zero, List.set_cons_succ])) | fail)
            refine wpQuiet_nil ?_
            intro wq hbq
            go_wp2_with fail
            go_roundw
            case rel => exact ⟨j + 1, by go_num, by omega, (hBt2.ext hb4).ext hbq, (hA2.ext hb4).ext hbq, below_ext (below_ext hbw hb4) hbq⟩
            case measure => simp [intOf]; omega
        · go_wp2_with (first | (go_at_call 11; refine (alive_any _).mono ?_; rintro e w'' ⟨rfl, hb2⟩) | fail)
          go_ret
          exact ⟨rfl, by (repeat (first | with_reducible exact Below.refl _ _ | (with_reducible assumption) | (with_reducible refine below_alloc ?_ _) | (with_reducible refine below_ext (w1 := ?_) ?_ ?_; rotate_left 2; (with_reducible assumption)) | (with_reducible refine Below.setCell ?_ ?_ _; rotate_left; ((try simp) <;> omega)) | (with_reducible refine Below.drew ?_) | (with_reducible refine below_drewN ?_ _) | fail))⟩
open Go.ChangeShapes Go.WideShapes Go.ChangeAt Go.Deep
set_option maxRecDepth 100000 in
theorem argsArenaHolds (H : Type) (enc : TypeId × Value → H) (W : World) (args : Array Value) (hargs : Args Try.checked H enc [3, 22] W args) :
    Calls Try.prog 3 args W fun e W' => e = .returned (.bool true) ∧ Below W.heap.size W W' := by
  obtain ⟨base, ds, p, hval, hA⟩ := hargs
  obtain ⟨v0, vs0, d0, ds0, p0, q0, hargs, rfl, rfl, h0, r0⟩ := trodAll_cons hA
  obtain ⟨v1, vs1, d1, ds1, p1, q1, rfl, rfl, rfl, h1, r1⟩ := trodAll_cons r0
  obtain ⟨rfl, rfl, rfl⟩ := trodAll_nil r1
  obtain rfl : args = #[v0, v1] := by cases args; simp_all
  obtain ⟨n, rfl, _⟩ := open_int Try.underlying3 (hval 0 _ v0 rfl rfl) h0
  obtain ⟨A, la, ca, rows, rfl, hla, hlc, hca, hfa, ha⟩ := open_rows (ks := List.replicate 7 K) 5 Try.underlying22 (by kernel_rfl) (by kernel_rfl) (by decide) (hval 1 _ v1 rfl rfl) h1
  obtain ⟨xs, rfl, _⟩ := rowsOf (fun vs h => fitOrd h) rows hfa
  rw [List.length_map] at hla
  subst hla
  exact holds_any n xs A ca W ha (by omega)
theorem ownArenaHolds : ownKnob Try.prog.godebug = none := by kernel_rfl
theorem laidArenaHolds : laidOutB Try.prog = true := by kernel_rfl
set_option maxRecDepth 100000 in
theorem liftedArenaHolds (os : Os) (started : os.Started) (H : Type) (enc : TypeId × Value → H) :
    ReturnsInHanded {} Try.checked os 3 .any (Rows.arenaHoldsSpec.pre6 enc Try.prog Try.f3 Rows.arenaHoldsRow.domain false) (Rows.arenaHoldsSpec.post enc Try.prog Try.f3 false true false false) :=
  law_lifted (C := Try.checked) (ts := [3, 22]) (tb := 4) ownArenaHolds laidArenaHolds started (by kernel_rfl) Try.func3 (by kernel_rfl)
    (ChangeSpec.witness6 (enc := enc) (C := Try.checked) false ⟨#[], #[.int .i64 0, .slice none 0 0], []⟩ 8 (by kernel_rfl) (by kernel_rfl) (by kernel_rfl) (by kernel_rfl))
    rfl (by kernel_rfl) Try.underlying4 (by kernel_rfl)
    (fun ds h => by
      match ds, h with
      | [d0, d1], _ => rfl)
    (fun W args h => argsArenaHolds H enc W args h)
theorem provedArenaHolds : Rows.ArenaHoldsSaid :=
  OpenClaim.holds_of_wide 3 Try.f3 rfl rfl rfl rfl rfl rfl rfl ⟨rfl, rfl, rfl, rfl, rfl⟩ rfl rfl rfl rfl rfl (by kernel_rfl) Try.func3 (by kernel_rfl)
    (of_decide_eq_true (by kernel_rfl)) (by unfold Func.isWrapper; first | (rw [if_pos (by decide +kernel)]; kernel_rfl) | (rw [if_neg (by decide +kernel)]; exact ⟨rfl, rfl⟩))
    (fun os started H enc _ => liftedArenaHolds os started H enc)
#print axioms provedArenaHolds
end Are
end Go.Proofs.Ytodgeakkecaliaa
