/- This text proves ClearChooses: whatever the input, the law returns true. It has no conditions. -/
import Derived.Test.YtacpjpkhmdcagaaGreatClT
import Derived.Test.YtacpjpkhmdcagaaGreatOpen
namespace Go.Proofs.YtacpjpkhmdcagaaGreat
set_option linter.unusedVariables false
open Go.RowKit
namespace Cl
set_option maxHeartbeats 8000000
set_option maxRecDepth 10000
open Cu (ic)
open Bk (bkO osOf)
open Rk (Rb)
def S5 (bb pb qb fb gb : Nat) (lo hi : Int) (p1 p3 : Pr) (W : World) : Prop := Blk W bb 24 #[.int .i64 lo, .int .i64 hi] ∧ Blk W pb 32 p1.arr ∧ Blk W qb 35 p1.arr ∧ Blk W fb 32 p3.arr ∧ Blk W gb 35 p3.arr
theorem S5.ext {bb pb qb fb gb : Nat} {lo hi : Int} {p1 p3 : Pr} {W W' : World} (h : S5 bb pb qb fb gb lo hi p1 p3 W) (hb : Below W.heap.size W W') : S5 bb pb qb fb gb lo hi p1 p3 W' := ⟨h.1.ext hb, h.2.1.ext hb, h.2.2.1.ext hb, h.2.2.2.1.ext hb, h.2.2.2.2.ext hb⟩
theorem y_eq_pr {S : World → Prop} {ops : Array Oper} {o : Oper} {a : Act} (x y : Operand) (u : TypeId) (ho : o.op = .binOp .eql 32 x y u) (hw : Region.wanted o (yielded ops a.tmps) = true) (p q : Pr) (hx : a.eval x = .agg p.arr) (hy : a.eval y = .agg q.arr) (b : Bool) (hb : prEq p q = b) : YieldsIf Tryz.prog ops S o (.bool b) a :=
  .inl ⟨hw, fun w _ => by
    unfold execOp
    simp only [ho, hx, hy, Sem.run_bind, run_eqGuard_agg _ _ _ _ _ _ _ guardPr, Result.andThen_ok, run_eql_struct, eqPr, hb]
    rfl⟩
theorem chooses_law (l : List Ord) (r lo hi : Int) (hwf : ∀ o ∈ l, Idx.Wf o.id) (A : Option Addr) (cap : Nat) (w : World) (hr : Rd w 7 A (l.map Ord.cells)) (hml : l.length ≤ maxLen) :
    Calls Tryz.prog 6 #[.slice A l.length cap, .int .i64 r, .agg #[.int .i64 lo, .int .i64 hi]] w fun e w' => e = .returned (.bool true) ∧ Below w.heap.size w w' := by
  unfold maxLen at hml
  have hB0 : Blk (w.alloc (.cells #[.int .i64 lo, .int .i64 hi] 24)) w.heap.size 24 #[.int .i64 lo, .int .i64 hi] := Blk.new _ _ _ _ rfl
  have hb0 : Below w.heap.size w (w.alloc (.cells #[.int .i64 lo, .int .i64 hi] 24)) := by (repeat (first | with_reducible exact Below.refl _ _ | (with_reducible assumption) | (with_reducible refine below_alloc ?_ _) | (with_reducible refine below_ext (w1 := ?_) ?_ ?_; rotate_left 2; (with_reducible assumption)) | (with_reducible refine Below.setCell ?_ ?_ _; rotate_left; ((try simp) <;> omega)) | (with_reducible refine Below.drew ?_) | (with_reducible refine below_drewN ?_ _) | fail))
  generalize hw0 : w.alloc (.cells #[.int .i64 lo, .int .i64 hi] 24) = w0 at hB0 hb0
  have HW0 := Lib.hid hw0
  have HAL := Lib.hid (fun W => alive_any W)
  clear hw0
  by_cases h60 : 60 < l.length
  · have e1 : (60 : Int) < (l.length : Int) := by omega
    have e2 : decide ((60 : Int) < (l.length : Int)) = true := decide_eq_true e1
    clear hr hwf
    go_enter Tryz.func6, Tryz.ntmps6
    go_upto_region 1 with fail
    rw [HW0.out]
    go_wp2_with fail
    refine (HAL.out _).mono ?_
    rintro e w4 ⟨rfl, hb4⟩
    go_wp2_with fail
    go_ret
    exact ⟨rfl, below_ext hb0 hb4⟩
  have h61 : ¬ (60 : Int) < l.length := by omega
  have h62 : decide ((60 : Int) < (l.length : Int)) = false := decide_eq_false h61
  have hX0 : Blk (w0.alloc (.cells #[.int .i64 r] 2)) w0.heap.size 2 #[.int .i64 r] := Blk.new _ _ _ _ rfl
  have hbX : Below w0.heap.size w0 (w0.alloc (.cells #[.int .i64 r] 2)) := by (repeat (first | with_reducible exact Below.refl _ _ | (with_reducible assumption) | (with_reducible refine below_alloc ?_ _) | (with_reducible refine below_ext (w1 := ?_) ?_ ?_; rotate_left 2; (with_reducible assumption)) | (with_reducible refine Below.setCell ?_ ?_ _; rotate_left; ((try simp) <;> omega)) | (with_reducible refine Below.drew ?_) | (with_reducible refine below_drewN ?_ _) | fail))
  have HP := Lib.hid (priced_any (l := [r]) (cap := 1) (rd_own hX0 (by simp [ic]) (n := 1) (by simp [ic])) (by simp))
  have hB1 := hB0.ext hbX
  have hb1 := below_ext hb0 hbX
  generalize hw1 : w0.alloc (.cells #[.int .i64 r] 2) = w1 at HP hB1 hb1
  have HW1 := Lib.hid hw1
  generalize decide (∀ x ∈ [r], 0 ≤ x ∧ x ≤ 1099511627776) = pz at HP
  have HB := Lib.hid (Bk.books_any l hwf A cap w1 (hr.below hb1) (by omega))
  clear hw1 hX0 hbX hB0 hb0 hr hwf h60
  go_enter Tryz.func6, Tryz.ntmps6
  go_upto_region 1 with fail
  rw [HW0.out]
  go_wp2_with fail
  rw [HW1.out]
  refine HP.out.mono ?_
  rintro e w2 ⟨rfl, rfl⟩
  clear HW0 HW1 HP
  cases pz with
  | false =>
    clear HB
    go_wp2_with fail
    refine (HAL.out _).mono ?_
    rintro e w4 ⟨rfl, hb4⟩
    go_wp2_with fail
    go_ret
    exact ⟨rfl, below_ext hb1 hb4⟩
  | true =>
    go_wp2_with fail
    refine HB.out.mono ?_
    rintro e w3 ⟨b, rb, c, ss, A1, cap1, rfl, W3⟩
    have HCH := Lib.hid (choose_any W3.two.bs r lo hi)
    have HRC := Lib.hid (fun W (hW : Below w3.heap.size w3 W) => rchoose_any (W3.two.rf.ext hW) (fun o ho => by have := (Sw.Bs.okk W3.two.bs o ho).2.2.1; omega) r lo hi)
    have HFR := Lib.hid (fun W (hW : Below w3.heap.size w3 W) => free_any (W3.two.bs.ext hW) r)
    have HRF := Lib.hid (fun W (hW : Below w3.heap.size w3 W) => rfree_any (W3.two.rf.ext hW) (fun o ho => by have := (Sw.Bs.okk W3.two.bs o ho).2.2.1; omega) r)
    have HCA := Lib.hid (fun W (hW : Below w3.heap.size w3 W) => callowed_any (W3.two.bs.ext hW) r lo hi)
    have HRA := Lib.hid (fun W (hW : Below w3.heap.size w3 W) => rallowed_any (W3.two.rf.ext hW) r lo hi)
    have hfew := Sw.Bs.few W3.two.bs
    have hB3 := hB1.ext W3.below
    have hb3 := below_ext hb1 W3.below
    clear HB W3 hB1 hb1
    generalize osOf ss = os at *
    go_wp2_with (first | ((with_reducible show wpList _ _ _ (⟨_, .load 24 _, _, _, _, _⟩ :: _) _ _); refine wpList_load_ho 24 _ (by rfl) (by rfl) ?_ (.pointer (some ⟨_, 0, none⟩)) (by rfl) ?_ _ Tryz.underlying24 rfl ?_ ?_; rotate_left; (next => (repeat (first | (with_reducible refine BlkAt.new _ _ _ _ ?_; ((try simp) <;> omega)) | (with_reducible assumption) | (with_reducible refine Blk.at (t := ?_) ?_; rotate_left; with_reducible assumption) | with_reducible refine BlkAt.alloc ?_ _ | with_reducible refine BlkAt.drew ?_ | (with_reducible refine BlkAt.setSame ?_ _ _) | (with_reducible refine BlkAt.setCell ?_ ?_ _; rotate_left; ((try simp) <;> omega)) | (with_reducible refine BlkAt.ext (w := ?_) ?_ ?_; rotate_left 2; (with_reducible assumption)) | fail))); (next => kernel_rfl)) | fail)
    refine HCH.out.mono ?_
    rintro e w4 ⟨⟨u, hu, rfl⟩, hb4⟩
    have HU := Lib.hid hu
    generalize hz : chB os r u = z
    obtain ⟨p1, z1⟩ := z
    have HZ := Lib.hid hz
    have hB4 := hB3.ext hb4
    have hb04 := below_ext hb3 hb4
    have hP0 : Blk (w4.alloc (.cells #[.int .i64 0, .int .i64 0, .int .i64 0] 32)) w4.heap.size 32 #[.int .i64 0, .int .i64 0, .int .i64 0] := Blk.new _ _ _ _ rfl
    clear hu hz hB3 hb3 HCH
    go_upto_region 5 with (first | ((with_reducible show wpList _ _ _ (⟨_, .store 32 _ _, _, _, _, _⟩ :: _) _ _); refine wpList_store_blk (by rfl) 32 _ _ (by rfl) _ _ (by rfl) (by rfl) _ _ hP0 (by kernel_rfl) (by rfl) ?_ ?_; (next => exact pr_one ..); intro w5 hP5 hU5) | fail)
    have hb45 : Below w4.heap.size w4 w5 := below_upd (by (repeat (first | with_reducible exact Below.refl _ _ | (with_reducible assumption) | (with_reducible refine below_alloc ?_ _) | (with_reducible refine below_ext (w1 := ?_) ?_ ?_; rotate_left 2; (with_reducible assumption)) | (with_reducible refine Below.setCell ?_ ?_ _; rotate_left; ((try simp) <;> omega)) | (with_reducible refine Below.drew ?_) | (with_reducible refine below_drewN ?_ _) | fail))) (Nat.le_refl _) hU5
    have hb35 := below_ext hb4 hb45
    have hB5 := hB4.ext hb45
    have hb05 := below_ext hb04 hb45
    have hP5' : Blk w5 w4.heap.size 32 p1.arr := hP5
    obtain ⟨pb, hpb⟩ : ∃ x, x = w4.heap.size := ⟨_, rfl⟩
    rw [← hpb] at hP5' ⊢
    clear hP0 hP5 hU5 hB4 hb04 hb4 hb45 hpb
    as_aux_lemma =>
      have HRC5 := Lib.hid (HRC.out w5 hb35)
      clear HRC
      go_wp2_with (first | ((with_reducible show wpList _ _ _ (⟨_, .load 24 _, _, _, _, _⟩ :: _) _ _); refine wpList_load_ho 24 _ (by rfl) (by rfl) ?_ (.pointer (some ⟨_, 0, none⟩)) (by rfl) ?_ _ Tryz.underlying24 rfl ?_ ?_; rotate_left; (next => (repeat (first | (with_reducible refine BlkAt.new _ _ _ _ ?_; ((try simp) <;> omega)) | (with_reducible assumption) | (with_reducible refine Blk.at (t := ?_) ?_; rotate_left; with_reducible assumption) | with_reducible refine BlkAt.alloc ?_ _ | with_reducible refine BlkAt.drew ?_ | (with_reducible refine BlkAt.setSame ?_ _ _) | (with_reducible refine BlkAt.setCell ?_ ?_ _; rotate_left; ((try simp) <;> omega)) | (with_reducible refine BlkAt.ext (w := ?_) ?_ ?_; rotate_left 2; (with_reducible assumption)) | fail))); (next => kernel_rfl)) | fail)
      refine HRC5.out.mono ?_
      rintro e w6 ⟨⟨u2, hu2, rfl⟩, hb6⟩
      rw [alx_uniq hu2 HU.out, HZ.out]
      have hB6 := hB5.ext hb6
      have hP6 := hP5'.ext hb6
      have hb36 := below_ext hb35 hb6
      have hb06 := below_ext hb05 hb6
      have hQ0 : Blk (w6.alloc (.cells #[.int .i64 0, .int .i64 0, .int .i64 0] 35)) w6.heap.size 35 #[.int .i64 0, .int .i64 0, .int .i64 0] := Blk.new _ _ _ _ rfl
      clear hu2 hB5 hP5' hb35 hb05 hb6 HRC5
      go_upto_region 6 with (first | ((with_reducible show wpList _ _ _ (⟨_, .store 35 _ _, _, _, _, _⟩ :: _) _ _); refine wpList_store_blk (by rfl) 35 _ _ (by rfl) _ _ (by rfl) (by rfl) _ _ hQ0 (by kernel_rfl) (by rfl) ?_ ?_; (next => exact pr_one ..); intro w7 hQ7 hU7) | fail)
      have hb67 : Below w6.heap.size w6 w7 := below_upd (by (repeat (first | with_reducible exact Below.refl _ _ | (with_reducible assumption) | (with_reducible refine below_alloc ?_ _) | (with_reducible refine below_ext (w1 := ?_) ?_ ?_; rotate_left 2; (with_reducible assumption)) | (with_reducible refine Below.setCell ?_ ?_ _; rotate_left; ((try simp) <;> omega)) | (with_reducible refine Below.drew ?_) | (with_reducible refine below_drewN ?_ _) | fail))) (Nat.le_refl _) hU7
      have hB7 := hB6.ext hb67
      have hP7 := hP6.ext hb67
      have hb37 := below_ext hb36 hb67
      have hb07 := below_ext hb06 hb67
      have hQ7' : Blk w7 w6.heap.size 35 p1.arr := hQ7
      obtain ⟨qb, hqb⟩ : ∃ x, x = w6.heap.size := ⟨_, rfl⟩
      rw [← hqb] at hQ7' ⊢
      clear hQ0 hQ7 hU7 hB6 hP6 hb36 hb06 hb67 hqb
      have HFR7 := Lib.hid (HFR.out w7 hb37)
      clear HFR
      go_wp2_with fail
      refine HFR7.out.mono ?_
      rintro e w8 ⟨⟨u3, hu3, rfl⟩, hb8⟩
      have HU3 := Lib.hid hu3
      generalize hz3 : chB os r u3 = z
      obtain ⟨p3, z3⟩ := z
      have HZ3 := Lib.hid hz3
      have hB8 := hB7.ext hb8
      have hP8 := hP7.ext hb8
      have hQ8 := hQ7'.ext hb8
      have hb38 := below_ext hb37 hb8
      have hb08 := below_ext hb07 hb8
      have hF0 : Blk (w8.alloc (.cells #[.int .i64 0, .int .i64 0, .int .i64 0] 32)) w8.heap.size 32 #[.int .i64 0, .int .i64 0, .int .i64 0] := Blk.new _ _ _ _ rfl
      clear hu3 hz3 hB7 hP7 hQ7' hb37 hb07 hb8 HFR7
      go_upto_region 7 with (first | ((with_reducible show wpList _ _ _ (⟨_, .store 32 _ _, _, _, _, _⟩ :: _) _ _); refine wpList_store_blk (by rfl) 32 _ _ (by rfl) _ _ (by rfl) (by rfl) _ _ hF0 (by kernel_rfl) (by rfl) ?_ ?_; (next => exact pr_one ..); intro w9 hF9 hU9) | fail)
      have hb89 : Below w8.heap.size w8 w9 := below_upd (by (repeat (first | with_reducible exact Below.refl _ _ | (with_reducible assumption) | (with_reducible refine below_alloc ?_ _) | (with_reducible refine below_ext (w1 := ?_) ?_ ?_; rotate_left 2; (with_reducible assumption)) | (with_reducible refine Below.setCell ?_ ?_ _; rotate_left; ((try simp) <;> omega)) | (with_reducible refine Below.drew ?_) | (with_reducible refine below_drewN ?_ _) | fail))) (Nat.le_refl _) hU9
      have hB9 := hB8.ext hb89
      have hP9 := hP8.ext hb89
      have hQ9 := hQ8.ext hb89
      have hb39 := below_ext hb38 hb89
      have hb09 := below_ext hb08 hb89
      have hF9' : Blk w9 w8.heap.size 32 p3.arr := hF9
      obtain ⟨fb, hfb⟩ : ∃ x, x = w8.heap.size := ⟨_, rfl⟩
      rw [← hfb] at hF9' ⊢
      clear hF0 hF9 hU9 hB8 hP8 hQ8 hb38 hb08 hb89 hfb
      have HRF9 := Lib.hid (HRF.out w9 hb39)
      clear HRF
      go_wp2_with fail
      refine HRF9.out.mono ?_
      rintro e w10 ⟨⟨u4, hu4, rfl⟩, hb10⟩
      rw [alx_uniq hu4 HU3.out, HZ3.out]
      have hB10 := hB9.ext hb10
      have hP10 := hP9.ext hb10
      have hQ10 := hQ9.ext hb10
      have hF10 := hF9'.ext hb10
      have hb310 := below_ext hb39 hb10
      have hb010 := below_ext hb09 hb10
      have hG0 : Blk (w10.alloc (.cells #[.int .i64 0, .int .i64 0, .int .i64 0] 35)) w10.heap.size 35 #[.int .i64 0, .int .i64 0, .int .i64 0] := Blk.new _ _ _ _ rfl
      clear hu4 hB9 hP9 hQ9 hF9' hb39 hb09 hb10 HRF9 HU3 HZ3
      go_upto_region 8 with (first | ((with_reducible show wpList _ _ _ (⟨_, .store 35 _ _, _, _, _, _⟩ :: _) _ _); refine wpList_store_blk (by rfl) 35 _ _ (by rfl) _ _ (by rfl) (by rfl) _ _ hG0 (by kernel_rfl) (by rfl) ?_ ?_; (next => exact pr_one ..); intro w11 hG11 hU11) | fail)
      have hb1011 : Below w10.heap.size w10 w11 := below_upd (by (repeat (first | with_reducible exact Below.refl _ _ | (with_reducible assumption) | (with_reducible refine below_alloc ?_ _) | (with_reducible refine below_ext (w1 := ?_) ?_ ?_; rotate_left 2; (with_reducible assumption)) | (with_reducible refine Below.setCell ?_ ?_ _; rotate_left; ((try simp) <;> omega)) | (with_reducible refine Below.drew ?_) | (with_reducible refine below_drewN ?_ _) | fail))) (Nat.le_refl _) hU11
      have hB11 := hB10.ext hb1011
      have hP11 := hP10.ext hb1011
      have hQ11 := hQ10.ext hb1011
      have hF11 := hF10.ext hb1011
      have hb311 := below_ext hb310 hb1011
      have hb011 := below_ext hb010 hb1011
      have hG11' : Blk w11 w10.heap.size 35 p3.arr := hG11
      obtain ⟨gb, hgb⟩ : ∃ x, x = w10.heap.size := ⟨_, rfl⟩
      rw [← hgb] at hG11' ⊢
      clear hG0 hG11 hU11 hB10 hP10 hQ10 hF10 hb310 hb010 hb1011 hgb
      as_aux_lemma =>
        have HFN := Lib.hid (free_nil r w11)
        go_wp2_with fail
        refine HFN.out.mono ?_
        rintro e w12 ⟨rfl, hb12⟩
        have hB12 := hB11.ext hb12
        have hP12 := hP11.ext hb12
        have hQ12 := hQ11.ext hb12
        have hF12 := hF11.ext hb12
        have hG12 := hG11'.ext hb12
        have hb312 := below_ext hb311 hb12
        have hb012 := below_ext hb011 hb12
        have hN0 : Blk (w12.alloc (.cells #[.int .i64 0, .int .i64 0, .int .i64 0] 32)) w12.heap.size 32 #[.int .i64 0, .int .i64 0, .int .i64 0] := Blk.new _ _ _ _ rfl
        clear hB11 hP11 hQ11 hF11 hG11' hb311 hb011 hb12 HFN
        go_upto_region 9 with (first | ((with_reducible show wpList _ _ _ (⟨_, .store 32 _ _, _, _, _, _⟩ :: _) _ _); refine wpList_store_blk (by rfl) 32 _ _ (by rfl) _ _ (by rfl) (by rfl) _ _ hN0 (by kernel_rfl) (by rfl) ?_ ?_; (next => exact pr_one ..); intro w13 hN13 hU13) | fail)
        have hb1213 : Below w12.heap.size w12 w13 := below_upd (by (repeat (first | with_reducible exact Below.refl _ _ | (with_reducible assumption) | (with_reducible refine below_alloc ?_ _) | (with_reducible refine below_ext (w1 := ?_) ?_ ?_; rotate_left 2; (with_reducible assumption)) | (with_reducible refine Below.setCell ?_ ?_ _; rotate_left; ((try simp) <;> omega)) | (with_reducible refine Below.drew ?_) | (with_reducible refine below_drewN ?_ _) | fail))) (Nat.le_refl _) hU13
        have hB13 := hB12.ext hb1213
        have hP13 := hP12.ext hb1213
        have hQ13 := hQ12.ext hb1213
        have hF13 := hF12.ext hb1213
        have hG13 := hG12.ext hb1213
        have hb313 := below_ext hb312 hb1213
        have hb013 := below_ext hb012 hb1213
        clear hN0 hN13 hU13 hB12 hP12 hQ12 hF12 hG12 hb312 hb012 hb1213
        as_aux_lemma =>
          have HOA := Lib.hid (fun W => own_any p1 W)
          have HOB := Lib.hid (fun W => own_any p3 W)
          have q1 : (z1 == z1) = true := by simp
          have q3 : (z3 == z3) = true := by simp
          have hbd : Below w13.heap.size w13 w13.drew := (Below.refl _ _).drew
          refine wp_region_T (S := S5 w.heap.size pb qb fb gb lo hi p1 p3) 46 (by kernel_rfl) ?_
          generalize w13.drew = w14 at hbd ⊢
          have hS : S5 w.heap.size pb qb fb gb lo hi p1 p3 w14 := ⟨hB13.ext hbd, hP13.ext hbd, hQ13.ext hbd, hF13.ext hbd, hG13.ext hbd⟩
          have hb314 := below_ext hb313 hbd
          have hb014 := below_ext hb013 hbd
          clear hbd hB13 hP13 hQ13 hF13 hG13 hb313 hb013
          (refine T_take (i := 0) rfl (by kernel_rfl) (fun _ _ _ _ h => h) hS ?_; refine ⟨_, y_load_blk 32 _ rfl (by rfl) pb (by rfl) 32 p1.arr _ (fun W h => h.2.1) Tryz.underlying32 rfl (by kernel_rfl), ?_⟩; simp only [Act.put, List.setIfInBounds_toArray, List.set_cons_zero, List.set_cons_succ])
          (refine T_take (i := 1) rfl (by kernel_rfl) (fun _ _ _ _ h => h) hS ?_; refine ⟨_, y_load_blk 35 _ rfl (by rfl) qb (by rfl) 35 p1.arr _ (fun W h => h.2.2.1) Tryz.underlying35 rfl (by kernel_rfl), ?_⟩; simp only [Act.put, List.setIfInBounds_toArray, List.set_cons_zero, List.set_cons_succ])
          refine T_all [2] (by kernel_rfl) (by decide) ?_
          intro j hj
          simp only [List.mem_cons, List.mem_nil_iff, or_false, List.not_mem_nil] at hj
          subst hj
          refine T_op rfl (by rfl) ?_
          refine Lad.wp_enterE (F := 12) (args := #[.agg p1.arr]) ?_ ?_
          (next => first | (go_simp; done) | (go_simp; rfl))
          refine (HOA.out _).mono ?_
          rintro e w15 ⟨rfl, hb15⟩
          have hS15 := hS.ext hb15
          have hb315 := below_ext hb314 hb15
          have hb015 := below_ext hb014 hb15
          refine ⟨_, rfl, .inr hS15, ?_⟩
          simp only [Act.put, List.setIfInBounds_toArray, List.set_cons_zero, List.set_cons_succ]
          clear hS hb314 hb014 hb15
          have hS := hS15
          clear hS15
          as_aux_lemma =>
            (refine T_take (i := 3) rfl (by kernel_rfl) (fun _ _ _ _ h => h) hS ?_; refine ⟨_, y_eq_pr _ _ _ rfl (by rfl) p1 p1 (by rfl) (by rfl) true (prEq_refl _), ?_⟩; simp only [Act.put, List.setIfInBounds_toArray, List.set_cons_zero, List.set_cons_succ])
            (refine T_take (i := 4) rfl (by kernel_rfl) (fun _ _ _ _ h => h) hS ?_; apply Exists.intro; refine ⟨.inl ⟨by rfl, fun W hW => ?_⟩, ?_⟩; (next => (go_simp; first | done | rfl)); simp only [Act.put, List.setIfInBounds_toArray, List.set_cons_zero, List.set_cons_succ])
            (refine T_take (i := 5) rfl (by kernel_rfl) (fun _ _ _ _ h => h) hS ?_; apply Exists.intro; refine ⟨.inl ⟨by rfl, fun W hW => ?_⟩, ?_⟩; (next => (go_simp; first | done | rfl)); simp only [Act.put, List.setIfInBounds_toArray, List.set_cons_zero, List.set_cons_succ])
            (refine T_take (i := 6) rfl (by kernel_rfl) (fun _ _ _ _ h => h) hS ?_; apply Exists.intro; refine ⟨.inl ⟨by rfl, fun W hW => ?_⟩, ?_⟩; (next => (go_simp; first | done | rfl)); simp only [Act.put, List.setIfInBounds_toArray, List.set_cons_zero, List.set_cons_succ])
            (refine T_take (i := 7) rfl (by kernel_rfl) (fun _ _ _ _ h => h) hS ?_; apply Exists.intro; refine ⟨.inl ⟨by rfl, fun W hW => ?_⟩, ?_⟩; (next => (go_simp; first | done | rfl)); simp only [Act.put, List.setIfInBounds_toArray, List.set_cons_zero, List.set_cons_succ])
            (refine T_take (i := 8) rfl (by kernel_rfl) (fun _ _ _ _ h => h) hS ?_; apply Exists.intro; refine ⟨.inl ⟨by rfl, fun W hW => ?_⟩, ?_⟩; (next => (go_simp; first | done | rfl)); simp only [Act.put, List.setIfInBounds_toArray, List.set_cons_zero, List.set_cons_succ])
            (refine T_take (i := 9) rfl (by kernel_rfl) (fun _ _ _ _ h => h) hS ?_; apply Exists.intro; refine ⟨.inl ⟨by rfl, fun W hW => ?_⟩, ?_⟩; (next => (go_simp; first | done | rfl)); simp only [Act.put, List.setIfInBounds_toArray, List.set_cons_zero, List.set_cons_succ])
            (refine T_take (i := 10) rfl (by kernel_rfl) (fun _ _ _ _ h => h) hS ?_; refine ⟨_, y_load_blk 32 _ rfl (by rfl) fb (by rfl) 32 p3.arr _ (fun W h => h.2.2.2.1) Tryz.underlying32 rfl (by kernel_rfl), ?_⟩; simp only [Act.put, List.setIfInBounds_toArray, List.set_cons_zero, List.set_cons_succ])
            (refine T_take (i := 11) rfl (by kernel_rfl) (fun _ _ _ _ h => h) hS ?_; refine ⟨_, y_load_blk 35 _ rfl (by rfl) gb (by rfl) 35 p3.arr _ (fun W h => h.2.2.2.2) Tryz.underlying35 rfl (by kernel_rfl), ?_⟩; simp only [Act.put, List.setIfInBounds_toArray, List.set_cons_zero, List.set_cons_succ])
            refine T_all [12] (by kernel_rfl) (by decide) ?_
            intro j hj
            simp only [List.mem_cons, List.mem_nil_iff, or_false, List.not_mem_nil] at hj
            subst hj
            refine T_op rfl (by rfl) ?_
            refine Lad.wp_enterE (F := 12) (args := #[.agg p3.arr]) ?_ ?_
            (next => first | (go_simp; done) | (go_simp; rfl))
            refine (HOB.out _).mono ?_
            rintro e w16 ⟨rfl, hb16⟩
            have hS16 := hS.ext hb16
            have hb316 := below_ext hb315 hb16
            have hb016 := below_ext hb015 hb16
            refine ⟨_, rfl, .inr hS16, ?_⟩
            simp only [Act.put, List.setIfInBounds_toArray, List.set_cons_zero, List.set_cons_succ]
            clear hS hb315 hb015 hb16
            have hS := hS16
            clear hS16
            as_aux_lemma =>
              (refine T_take (i := 13) rfl (by kernel_rfl) (fun _ _ _ _ h => h) hS ?_; refine ⟨_, y_eq_pr _ _ _ rfl (by rfl) p3 p3 (by rfl) (by rfl) true (prEq_refl _), ?_⟩; simp only [Act.put, List.setIfInBounds_toArray, List.set_cons_zero, List.set_cons_succ])
              (refine T_take (i := 14) rfl (by kernel_rfl) (fun _ _ _ _ h => h) hS ?_; apply Exists.intro; refine ⟨.inl ⟨by rfl, fun W hW => ?_⟩, ?_⟩; (next => (go_simp; first | done | rfl)); simp only [Act.put, List.setIfInBounds_toArray, List.set_cons_zero, List.set_cons_succ])
              (refine T_take (i := 15) rfl (by kernel_rfl) (fun _ _ _ _ h => h) hS ?_; apply Exists.intro; refine ⟨.inl ⟨by rfl, fun W hW => ?_⟩, ?_⟩; (next => (go_simp; first | done | rfl)); simp only [Act.put, List.setIfInBounds_toArray, List.set_cons_zero, List.set_cons_succ])
              (refine T_take (i := 16) rfl (by kernel_rfl) (fun _ _ _ _ h => h) hS ?_; apply Exists.intro; refine ⟨.inl ⟨by rfl, fun W hW => ?_⟩, ?_⟩; (next => (go_simp; first | done | rfl)); simp only [Act.put, List.setIfInBounds_toArray, List.set_cons_zero, List.set_cons_succ])
              (refine T_take (i := 17) rfl (by kernel_rfl) (fun _ _ _ _ h => h) hS ?_; apply Exists.intro; refine ⟨.inl ⟨by rfl, fun W hW => ?_⟩, ?_⟩; (next => (go_simp; first | done | rfl)); simp only [Act.put, List.setIfInBounds_toArray, List.set_cons_zero, List.set_cons_succ])
              (refine T_take (i := 18) rfl (by kernel_rfl) (fun _ _ _ _ h => h) hS ?_; apply Exists.intro; refine ⟨.inl ⟨by rfl, fun W hW => ?_⟩, ?_⟩; (next => (go_simp; first | done | rfl)); simp only [Act.put, List.setIfInBounds_toArray, List.set_cons_zero, List.set_cons_succ])
              (refine T_take (i := 19) rfl (by kernel_rfl) (fun _ _ _ _ h => h) hS ?_; apply Exists.intro; refine ⟨.inl ⟨by rfl, fun W hW => ?_⟩, ?_⟩; (next => (go_simp; first | done | rfl)); simp only [Act.put, List.setIfInBounds_toArray, List.set_cons_zero, List.set_cons_succ])
              (refine T_take (i := 20) rfl (by kernel_rfl) (fun _ _ _ _ h => h) hS ?_; apply Exists.intro; refine ⟨.inl ⟨by rfl, fun W hW => ?_⟩, ?_⟩; (next => (go_simp; first | done | rfl)); simp only [Act.put, List.setIfInBounds_toArray, List.set_cons_zero, List.set_cons_succ])
              as_aux_lemma =>
                (refine T_take (i := 21) rfl (by kernel_rfl) (fun _ _ _ _ h => h) hS ?_; apply Exists.intro; refine ⟨.inl ⟨by rfl, fun W hW => ?_⟩, ?_⟩; (next => (go_simp; first | done | rfl)); simp only [Act.put, List.setIfInBounds_toArray, List.set_cons_zero, List.set_cons_succ])
                (refine T_take (i := 22) rfl (by kernel_rfl) (fun _ _ _ _ h => h) hS ?_; apply Exists.intro; refine ⟨.inl ⟨by rfl, fun W hW => ?_⟩, ?_⟩; (next => (go_simp; first | done | rfl)); simp only [Act.put, List.setIfInBounds_toArray, List.set_cons_zero, List.set_cons_succ])
                (refine T_take (i := 23) rfl (by kernel_rfl) (fun _ _ _ _ h => h) hS ?_; refine ⟨_, y_load_blk 24 _ rfl (by rfl) w.heap.size (by rfl) 24 #[.int .i64 lo, .int .i64 hi] _ (fun W h => h.1) Tryz.underlying24 rfl (by kernel_rfl), ?_⟩; simp only [Act.put, List.setIfInBounds_toArray, List.set_cons_zero, List.set_cons_succ])
                (refine T_take (i := 25) rfl (by kernel_rfl) (fun _ _ _ _ h => h) hS ?_; apply Exists.intro; refine ⟨.inl ⟨by rfl, fun W hW => ?_⟩, ?_⟩; (next => (go_simp; first | done | rfl)); simp only [Act.put, List.setIfInBounds_toArray, List.set_cons_zero, List.set_cons_succ])
                (refine T_take (i := 26) rfl (by kernel_rfl) (fun _ _ _ _ h => h) hS ?_; apply Exists.intro; refine ⟨.inl ⟨by rfl, fun W hW => ?_⟩, ?_⟩; (next => (go_simp; first | done | rfl)); simp only [Act.put, List.setIfInBounds_toArray, List.set_cons_zero, List.set_cons_succ])
                (refine T_take (i := 27) rfl (by kernel_rfl) (fun _ _ _ _ h => h) hS ?_; refine ⟨_, y_load_blk 24 _ rfl (by rfl) w.heap.size (by rfl) 24 #[.int .i64 lo, .int .i64 hi] _ (fun W h => h.1) Tryz.underlying24 rfl (by kernel_rfl), ?_⟩; simp only [Act.put, List.setIfInBounds_toArray, List.set_cons_zero, List.set_cons_succ])
                refine T_all [24] (by kernel_rfl) (by decide) ?_
                intro j hj
                simp only [List.mem_cons, List.mem_nil_iff, or_false, List.not_mem_nil] at hj
                subst hj
                refine T_op rfl (by rfl) ?_
                refine Lad.wp_enterE (F := 20) (args := #[.pointer (some ⟨b, 0, none⟩), .int .i64 r, .agg #[.int .i64 lo, .int .i64 hi]]) ?_ ?_
                (next => first | (go_simp; done) | (go_simp; rfl))
                refine (HCA.out _ hb316).mono ?_
                rintro e w17 ⟨⟨v, u5, rfl, hown, hal⟩, hb17⟩
                have hue := alx_uniq hal HU.out
                rw [hue] at hown
                obtain ⟨A5, cap5, rfl, hrd5, _, _, hf5⟩ := Cu.owns_i hown
                have hul := alx_len HU.out
                have hS17 := hS.ext hb17
                have hb317 := below_ext hb316 hb17
                have hb017 := below_ext hb016 hb17
                refine ⟨_, rfl, .inr hS17, ?_⟩
                simp only [Act.put, List.setIfInBounds_toArray, List.set_cons_zero, List.set_cons_succ]
                clear hown hal hue hS hb17 hb316 hb016
                as_aux_lemma =>
                  refine T_all [28] (by kernel_rfl) (by decide) ?_
                  intro j hj
                  simp only [List.mem_cons, List.mem_nil_iff, or_false, List.not_mem_nil] at hj
                  subst hj
                  refine T_op rfl (by rfl) ?_
                  refine Lad.wp_enterE (F := 21) (args := #[.pointer (some ⟨rb, 0, none⟩), .int .i64 r, .agg #[.int .i64 lo, .int .i64 hi]]) ?_ ?_
                  (next => first | (go_simp; done) | (go_simp; rfl))
                  refine (HRA.out _ hb317).mono ?_
                  rintro e w18 ⟨⟨v, u6, rfl, hown, hal⟩, hb18⟩
                  have hue := alx_uniq hal HU.out
                  rw [hue] at hown
                  obtain ⟨A6, cap6, rfl, hrd6, _, _, hf6⟩ := Cu.owns_i hown
                  have hS18 := hS17.ext hb18
                  have hb018 := below_ext hb017 hb18
                  have hrd56 := hrd5.below hb18
                  have HSA := Lib.hid (same_any (cap := cap5) (cap2 := cap6) hrd56 hrd6 (by omega))
                  refine ⟨_, rfl, .inr hS18, ?_⟩
                  simp only [Act.put, List.setIfInBounds_toArray, List.set_cons_zero, List.set_cons_succ]
                  clear hown hal hue hb18 hS17 hrd56 hrd6 hrd5 hb017 hb317
                  refine T_all [29] (by kernel_rfl) (by decide) ?_
                  intro j hj
                  simp only [List.mem_cons, List.mem_nil_iff, or_false, List.not_mem_nil] at hj
                  subst hj
                  refine T_op rfl (by rfl) ?_
                  refine Lad.wp_enterE (F := 19) (args := #[.slice A5 u.length cap5, .slice A6 u.length cap6]) ?_ ?_
                  (next => first | (go_simp; done) | (go_simp; rfl))
                  refine (HSA.out).mono ?_
                  rintro e w19 ⟨rfl, hb19⟩
                  have hS19 := hS18.ext hb19
                  have hb019 := below_ext hb018 hb19
                  refine ⟨_, rfl, .inr hS19, ?_⟩
                  simp only [Act.put, List.setIfInBounds_toArray, List.set_cons_zero, List.set_cons_succ]
                  clear hb19 hS18 HSA hb018
                  as_aux_lemma =>
                    refine T_rest 30 (by rfl) (by kernel_rfl) (fun W hW => hS19.ext hW) ?_
                    simp only [List.drop_succ_cons, List.drop_zero]
                    have HCN := Lib.hid (fun W => callowed_nil r lo hi W)
                    have hBL : Blk w19 w.heap.size 24 #[.int .i64 lo, .int .i64 hi] := hS19.1
                    have hlB := hBL.lt
                    clear hS19
                    skip
                    repeat (first | go_big_quiet_skip | (go_big_quiet_want; go_big_quiet_op; go_big_quiet_on) | (refine q_load_blk (by rfl) 24 _ (by rfl) ?_ (.pointer (some ⟨_, 0, none⟩)) (by rfl) ?_ _ (fun _ h => h) Tryz.underlying24 rfl ?_ ?_; rotate_left; (next => (repeat (first | (with_reducible refine BlkAt.new _ _ _ _ ?_; ((try simp) <;> omega)) | (with_reducible assumption) | (with_reducible refine Blk.at (t := ?_) ?_; rotate_left; with_reducible assumption) | with_reducible refine BlkAt.alloc ?_ _ | with_reducible refine BlkAt.drew ?_ | (with_reducible refine BlkAt.setSame ?_ _ _) | (with_reducible refine BlkAt.setCell ?_ ?_ _; rotate_left; ((try simp) <;> omega)) | (with_reducible refine BlkAt.ext (w := ?_) ?_ ?_; rotate_left 2; (with_reducible assumption)) | fail))); (next => kernel_rfl); (try simp only [Act.put, List.setIfInBounds_toArray, List.set_cons_zero, List.set_cons_succ])) | (refine q_load_fld (by rfl) _ _ (by rfl) (fun _ h => h) _ _ (by rfl) ?_ ?_ ?_ ?_ ?_ ?_; rotate_left; (next => (repeat (first | (with_reducible refine BlkAt.new _ _ _ _ ?_; ((try simp) <;> omega)) | (with_reducible assumption) | (with_reducible refine Blk.at (t := ?_) ?_; rotate_left; with_reducible assumption) | with_reducible refine BlkAt.alloc ?_ _ | with_reducible refine BlkAt.drew ?_ | (with_reducible refine BlkAt.setSame ?_ _ _) | (with_reducible refine BlkAt.setCell ?_ ?_ _; rotate_left; ((try simp) <;> omega)) | (with_reducible refine BlkAt.ext (w := ?_) ?_ ?_; rotate_left 2; (with_reducible assumption)) | fail))); rotate_left; (next => first | (simp only [go_sem]; rfl) | rfl); (next => kernel_rfl); (try simp only [Act.put, List.setIfInBounds_toArray, List.set_cons_zero, List.set_cons_succ])) | (refine q_rem (by rfl) _ _ _ _ (by rfl) _ _ (by rfl) (by rfl) (by kernel_rfl) (by kernel_rfl) ?_ ?_; (next => omega); (try simp only [Act.put, List.setIfInBounds_toArray, List.set_cons_zero, List.set_cons_succ])) | (refine q_step_ex (by rfl) ?_; apply Exists.intro; refine ⟨fun W hW => ?_, ?_⟩; (next => (have hWc := fun (b o : Nat) (h : b < _) => (Ext.out hW).cell (p := ⟨b, o, none⟩) h); (try have hLK := HLK.out W (Ext.out hW)); go_simp; first | rfl | (go_at_call 20; refine (HCN.out _).mono ?_; rintro e w'' ⟨rfl, hb2⟩; exact ⟨rfl, below_ext hW hb2⟩) | (go_at_call 8; refine (HAL.out _).mono ?_; rintro e w'' ⟨rfl, hb2⟩; exact ⟨rfl, below_ext hW hb2⟩) | fail); (try simp only [Act.put, List.setIfInBounds_toArray, List.set_cons_zero, List.set_cons_succ])) | fail)
                    refine wpQuiet_nil ?_
                    intro w20 hb20
                    go_wp2_with fail
                    go_ret
                    exact ⟨rfl, below_ext hb019 hb20⟩
theorem fitOrdW {vs : List Value} (h : fits (List.replicate 7 K) vs) : ∃ s : Ord, vs = s.cells ∧ Idx.Wf s.id := by
  obtain ⟨a0, _, rfl, b0, h⟩ := fitInt h
  obtain ⟨a1, _, rfl, b1, h⟩ := fitInt h
  obtain ⟨a2, _, rfl, b2, h⟩ := fitInt h
  obtain ⟨a3, _, rfl, b3, h⟩ := fitInt h
  obtain ⟨a4, _, rfl, b4, h⟩ := fitInt h
  obtain ⟨a5, _, rfl, b5, h⟩ := fitInt h
  obtain ⟨a6, _, rfl, b6, h⟩ := fitInt h
  obtain rfl := fitNil h
  exact ⟨⟨a0, a1, a2, a3, a4, a5, a6⟩, rfl, WalkArith.wf_i64 b0⟩
theorem fitBand {vs : List Value} (h : fits (List.replicate 2 K) vs) : ∃ lo hi : Int, vs = [.int .i64 lo, .int .i64 hi] := by
  obtain ⟨a0, _, rfl, b0, h⟩ := fitInt h
  obtain ⟨a1, _, rfl, b1, h⟩ := fitInt h
  obtain rfl := fitNil h
  exact ⟨a0, a1, rfl⟩
open Go.ChangeShapes Go.WideShapes Go.ChangeAt Go.Deep
set_option maxRecDepth 100000 in
theorem argsClearChooses (H : Type) (enc : TypeId × Value → H) (W : World) (args : Array Value) (hargs : Args Tryz.checked H enc [22, 2, 24] W args) :
    Calls Tryz.prog 6 args W fun e W' => e = .returned (.bool true) ∧ Below W.heap.size W W' := by
  obtain ⟨base, ds, p, hval, hA⟩ := hargs
  obtain ⟨v0, vs0, d0, ds0, p0, q0, hargs, rfl, rfl, h0, r0⟩ := trodAll_cons hA
  obtain ⟨v1, vs1, d1, ds1, p1, q1, rfl, rfl, rfl, h1, r1⟩ := trodAll_cons r0
  obtain ⟨v2, vs2, d2, ds2, p2, q2, rfl, rfl, rfl, h2, r2⟩ := trodAll_cons r1
  obtain ⟨rfl, rfl, rfl⟩ := trodAll_nil r2
  obtain rfl : args = #[v0, v1, v2] := by cases args; simp_all
  obtain ⟨A, la, ca, rows, rfl, hla, hlc, hca, hfa, ha⟩ := open_rows (ks := List.replicate 7 K) 5 Tryz.underlying22 (by kernel_rfl) (by kernel_rfl) (by decide) (hval 0 _ v0 rfl rfl) h0
  obtain ⟨xs, rfl, hwf⟩ := rowsOf (fun vs h => fitOrdW h) rows hfa
  obtain ⟨r, rfl, _⟩ := open_int Tryz.underlying2 (hval 1 _ v1 rfl rfl) h1
  obtain ⟨c2, rfl, f2⟩ := open_flat (ks := List.replicate 2 K) 5 Tryz.underlying24 (by kernel_rfl) (hval 2 _ v2 rfl rfl) h2
  obtain ⟨lo, hi, rfl⟩ := fitBand f2
  rw [List.length_map] at hla
  subst hla
  exact chooses_law xs r lo hi hwf A ca W ha (by omega)
theorem ownClearChooses : ownKnob Tryz.prog.godebug = none := by kernel_rfl
theorem laidClearChooses : laidOutB Tryz.prog = true := by kernel_rfl
set_option maxRecDepth 100000 in
theorem liftedClearChooses (os : Os) (started : os.Started) (H : Type) (enc : TypeId × Value → H) :
    ReturnsInHanded {} Tryz.checked os 6 .any (Rows.clearChoosesSpec.pre6 enc Tryz.prog Tryz.f6 Rows.clearChoosesRow.domain false) (Rows.clearChoosesSpec.post enc Tryz.prog Tryz.f6 false true false false) :=
  law_lifted (C := Tryz.checked) (ts := [22, 2, 24]) (tb := 4) ownClearChooses laidClearChooses started (by kernel_rfl) Tryz.func6 (by kernel_rfl)
    (ChangeSpec.witness6 (enc := enc) (C := Tryz.checked) false ⟨#[], #[.slice none 0 0, .int .i64 0, .agg #[.int .i64 0, .int .i64 0]], []⟩ 8 (by kernel_rfl) (by kernel_rfl) (by kernel_rfl) (by kernel_rfl))
    rfl (by kernel_rfl) Tryz.underlying4 (by kernel_rfl)
    (fun ds h => by
      match ds, h with
      | [d0, d1, d2], _ => rfl)
    (fun W args h => argsClearChooses H enc W args h)
theorem provedClearChooses : Rows.ClearChoosesSaid :=
  OpenClaim.holds_of_wide 6 Tryz.f6 rfl rfl rfl rfl rfl rfl rfl ⟨rfl, rfl, rfl, rfl, rfl⟩ rfl rfl rfl rfl rfl (by kernel_rfl) Tryz.func6 (by kernel_rfl)
    (of_decide_eq_true (by kernel_rfl)) (by unfold Func.isWrapper; first | (rw [if_pos (by decide +kernel)]; kernel_rfl) | (rw [if_neg (by decide +kernel)]; exact ⟨rfl, rfl⟩))
    (fun os started H enc _ => liftedClearChooses os started H enc)
#print axioms provedClearChooses
end Cl
end Go.Proofs.YtacpjpkhmdcagaaGreat
