/- This text proves ClearStays: whatever the input, the law returns true. It has no conditions. -/
import Derived.Test.YtacpjpkhmdcagaaGreatClM
namespace Go.Proofs.YtacpjpkhmdcagaaGreat
set_option linter.unusedVariables false
open Go.RowKit
namespace Cl
set_option maxHeartbeats 8000000
set_option maxRecDepth 10000
open Cu (ic)
open Bk (bkO osOf)
open Rk (Rb)
theorem stays_law (l : List Ord) (r lo hi : Int) (hwf : ∀ o ∈ l, Idx.Wf o.id) (A : Option Addr) (cap : Nat) (w : World) (hr : Rd w 7 A (l.map Ord.cells)) (hml : l.length ≤ maxLen) :
    Calls Tryz.prog 4 #[.slice A l.length cap, .int .i64 r, .agg #[.int .i64 lo, .int .i64 hi]] w fun e w' => e = .returned (.bool true) ∧ Below w.heap.size w w' := by
  unfold maxLen at hml
  have hB0 : Blk (w.alloc (.cells #[.int .i64 lo, .int .i64 hi] 24)) w.heap.size 24 #[.int .i64 lo, .int .i64 hi] := Blk.new _ _ _ _ rfl
  have hb0 : Below w.heap.size w (w.alloc (.cells #[.int .i64 lo, .int .i64 hi] 24)) := by (repeat (first | with_reducible exact Below.refl _ _ | (with_reducible assumption) | (with_reducible refine below_alloc ?_ _) | (with_reducible refine below_ext (w1 := ?_) ?_ ?_; rotate_left 2; (with_reducible assumption)) | (with_reducible refine Below.setCell ?_ ?_ _; rotate_left; ((try simp) <;> omega)) | (with_reducible refine Below.drew ?_) | (with_reducible refine below_drewN ?_ _) | fail))
  generalize hw0 : w.alloc (.cells #[.int .i64 lo, .int .i64 hi] 24) = w0 at hB0 hb0
  have HW0 := Lib.hid hw0
  have HAL := Lib.hid (fun W => alive_any W)
  clear hw0
  by_cases h60 : 60 < l.length
  · have e1 : (60 : Int) < (l.length : Int) := by omega
    have e2 : decide ((60 : Int) < (l.length : Int)) = true := decide_eq_true e1
    clear hr hwf
    go_enter Tryz.func4, Tryz.ntmps4
    go_upto_region 1 with fail
    rw [HW0.out]
    go_wp2_with fail
    refine (HAL.out _).mono ?_
    rintro e w4 ⟨rfl, hb4⟩
    go_wp2_with fail
    go_ret
    exact ⟨rfl, below_ext hb0 hb4⟩
  have h61 : ¬ (60 : Int) < l.length := by omega
  have h62 : decide ((60 : Int) < (l.length : Int)) = false := decide_eq_false h61
  have hX0 : Blk (w0.alloc (.cells #[.int .i64 r] 2)) w0.heap.size 2 #[.int .i64 r] := Blk.new _ _ _ _ rfl
  have hbX : Below w0.heap.size w0 (w0.alloc (.cells #[.int .i64 r] 2)) := by (repeat (first | with_reducible exact Below.refl _ _ | (with_reducible assumption) | (with_reducible refine below_alloc ?_ _) | (with_reducible refine below_ext (w1 := ?_) ?_ ?_; rotate_left 2; (with_reducible assumption)) | (with_reducible refine Below.setCell ?_ ?_ _; rotate_left; ((try simp) <;> omega)) | (with_reducible refine Below.drew ?_) | (with_reducible refine below_drewN ?_ _) | fail))
  have HP := Lib.hid (priced_any (l := [r]) (cap := 1) (rd_own hX0 (by simp [ic]) (n := 1) (by simp [ic])) (by simp))
  have hB1 := hB0.ext hbX
  have hb1 := below_ext hb0 hbX
  generalize hw1 : w0.alloc (.cells #[.int .i64 r] 2) = w1 at HP hB1 hb1
  have HW1 := Lib.hid hw1
  generalize decide (∀ x ∈ [r], 0 ≤ x ∧ x ≤ 1099511627776) = pz at HP
  have HB := Lib.hid (Bk.books_any l hwf A cap w1 (hr.below hb1) (by omega))
  have b0 : w1.cell? ⟨w.heap.size, 0, none⟩ = some (.int .i64 lo) := hB1.cell 0
  have b1 : w1.cell? ⟨w.heap.size, 1, none⟩ = some (.int .i64 hi) := hB1.cell 1
  clear hw1 hX0 hbX hB0 hb0 hr hwf h60
  go_enter Tryz.func4, Tryz.ntmps4
  go_upto_region 1 with fail
  rw [HW0.out]
  go_wp2_with fail
  rw [HW1.out]
  refine HP.out.mono ?_
  rintro e w2 ⟨rfl, rfl⟩
  clear HW0 HW1 HP
  cases pz with
  | false =>
    clear HB
    go_wp2_with fail
    refine (HAL.out _).mono ?_
    rintro e w4 ⟨rfl, hb4⟩
    go_wp2_with fail
    go_ret
    exact ⟨rfl, below_ext hb1 hb4⟩
  | true =>
    by_cases c0 : lo < 1
    · have d0 : decide (lo < 1) = true := decide_eq_true c0
      clear HB
      go_wp2_with fail
      refine (HAL.out _).mono ?_
      rintro e w4 ⟨rfl, hb4⟩
      go_wp2_with fail
      go_ret
      exact ⟨rfl, below_ext hb1 hb4⟩
    have d0 : decide (lo < 1) = false := decide_eq_false c0
    by_cases c1 : 1099511627776 < hi
    · have d1 : decide (1099511627776 < hi) = true := decide_eq_true c1
      clear HB
      go_wp2_with fail
      refine (HAL.out _).mono ?_
      rintro e w4 ⟨rfl, hb4⟩
      go_wp2_with fail
      go_ret
      exact ⟨rfl, below_ext hb1 hb4⟩
    have d1 : decide (1099511627776 < hi) = false := decide_eq_false c1
    by_cases c2 : r < lo
    · have d2 : decide (r < lo) = true := decide_eq_true c2
      clear HB
      go_wp2_with fail
      refine (HAL.out _).mono ?_
      rintro e w4 ⟨rfl, hb4⟩
      go_wp2_with fail
      go_ret
      exact ⟨rfl, below_ext hb1 hb4⟩
    have d2 : decide (r < lo) = false := decide_eq_false c2
    by_cases c3 : hi < r
    · have d3 : decide (hi < r) = true := decide_eq_true c3
      clear HB
      go_wp2_with fail
      refine (HAL.out _).mono ?_
      rintro e w4 ⟨rfl, hb4⟩
      go_wp2_with fail
      go_ret
      exact ⟨rfl, below_ext hb1 hb4⟩
    have d3 : decide (hi < r) = false := decide_eq_false c3
    go_wp2_with fail
    refine HB.out.mono ?_
    rintro e w3 ⟨b, rb, c, ss, A1, cap1, rfl, W3⟩
    have hqn : ∀ o ∈ osOf ss, 0 ≤ o.qty := fun o ho => by have := (Sw.Bs.okk W3.two.bs o ho).2.2.1; omega
    have HQN := Lib.hid hqn
    have HFR := Lib.hid (free_any W3.two.bs r)
    have HCH := Lib.hid (fun W (hW : Below w3.heap.size w3 W) => choose_any (W3.two.bs.ext hW) r lo hi)
    have hB3 := hB1.ext W3.below
    have hb3 := below_ext hb1 W3.below
    clear HB W3 hB1 hb1 b0 b1 hqn
    generalize osOf ss = os at *
    go_wp2_with fail
    refine HFR.out.mono ?_
    rintro e w4 ⟨⟨u, hu, rfl⟩, hb4⟩
    have HU := Lib.hid hu
    generalize hz : chB os r u = z
    obtain ⟨p1, z1⟩ := z
    have HZ := Lib.hid hz
    have hB4 := hB3.ext hb4
    have hb04 := below_ext hb3 hb4
    have hP0 : Blk (w4.alloc (.cells #[.int .i64 0, .int .i64 0, .int .i64 0] 32)) w4.heap.size 32 #[.int .i64 0, .int .i64 0, .int .i64 0] := Blk.new _ _ _ _ rfl
    clear hu hz hB3 hb3 HFR
    go_upto_region 5 with (first | ((with_reducible show wpList _ _ _ (⟨_, .store 32 _ _, _, _, _, _⟩ :: _) _ _); refine wpList_store_blk (by rfl) 32 _ _ (by rfl) _ _ (by rfl) (by rfl) _ _ hP0 (by kernel_rfl) (by rfl) ?_ ?_; (next => exact pr_one ..); intro w5 hP5 hU5) | fail)
    have hb45 : Below w4.heap.size w4 w5 := below_upd (by (repeat (first | with_reducible exact Below.refl _ _ | (with_reducible assumption) | (with_reducible refine below_alloc ?_ _) | (with_reducible refine below_ext (w1 := ?_) ?_ ?_; rotate_left 2; (with_reducible assumption)) | (with_reducible refine Below.setCell ?_ ?_ _; rotate_left; ((try simp) <;> omega)) | (with_reducible refine Below.drew ?_) | (with_reducible refine below_drewN ?_ _) | fail))) (Nat.le_refl _) hU5
    have hb35 := below_ext hb4 hb45
    have hB5 := hB4.ext hb45
    have hb05 := below_ext hb04 hb45
    have hP5' : Blk w5 w4.heap.size 32 p1.arr := hP5
    obtain ⟨pb, hpb⟩ : ∃ x, x = w4.heap.size := ⟨_, rfl⟩
    rw [← hpb] at hP5' ⊢
    have p50 : w5.cell? ⟨pb, 0, none⟩ = some (.int .i64 p1.price) := hP5'.cell 0
    have b50 : w5.cell? ⟨w.heap.size, 0, none⟩ = some (.int .i64 lo) := hB5.cell 0
    have b51 : w5.cell? ⟨w.heap.size, 1, none⟩ = some (.int .i64 hi) := hB5.cell 1
    clear hP0 hP5 hU5 hB4 hb04 hb4 hb45 hpb
    cases z1 with
    | false =>
      go_wp2_with fail
      refine (HAL.out _).mono ?_
      rintro e w6 ⟨rfl, hb6⟩
      go_wp2_with fail
      go_ret
      exact ⟨rfl, below_ext hb05 hb6⟩
    | true =>
      by_cases g0 : p1.price < lo
      · have f0 : decide (p1.price < lo) = true := decide_eq_true g0
        go_wp2_with fail
        refine (HAL.out _).mono ?_
        rintro e w6 ⟨rfl, hb6⟩
        go_wp2_with fail
        go_ret
        exact ⟨rfl, below_ext hb05 hb6⟩
      have f0 : decide (p1.price < lo) = false := decide_eq_false g0
      by_cases g1 : hi < p1.price
      · have f1 : decide (hi < p1.price) = true := decide_eq_true g1
        go_wp2_with fail
        refine (HAL.out _).mono ?_
        rintro e w6 ⟨rfl, hb6⟩
        go_wp2_with fail
        go_ret
        exact ⟨rfl, below_ext hb05 hb6⟩
      have f1 : decide (hi < p1.price) = false := decide_eq_false g1
      have HST : Hid (∀ v, Alx lo hi r os v → chB os r v = (p1, true)) := Lib.hid (fun v hv => stays HU.out hv (by omega) (by omega) (by omega) (by omega) HZ.out (by omega) (by omega))
      have HC5 := Lib.hid (HCH.out w5 hb35)
      clear HCH
      go_wp2_with (first | ((with_reducible show wpList _ _ _ (⟨_, .load 24 _, _, _, _, _⟩ :: _) _ _); refine wpList_load_ho 24 _ (by rfl) (by rfl) ?_ (.pointer (some ⟨_, 0, none⟩)) (by rfl) ?_ _ Tryz.underlying24 rfl ?_ ?_; rotate_left; (next => (repeat (first | (with_reducible refine BlkAt.new _ _ _ _ ?_; ((try simp) <;> omega)) | (with_reducible assumption) | (with_reducible refine Blk.at (t := ?_) ?_; rotate_left; with_reducible assumption) | with_reducible refine BlkAt.alloc ?_ _ | with_reducible refine BlkAt.drew ?_ | (with_reducible refine BlkAt.setSame ?_ _ _) | (with_reducible refine BlkAt.setCell ?_ ?_ _; rotate_left; ((try simp) <;> omega)) | (with_reducible refine BlkAt.ext (w := ?_) ?_ ?_; rotate_left 2; (with_reducible assumption)) | fail))); (next => kernel_rfl)) | fail)
      refine HC5.out.mono ?_
      rintro e w6 ⟨⟨v, hv, rfl⟩, hb6⟩
      rw [HST.out v hv]
      have hP6 := hP5'.ext hb6
      have hb06 := below_ext hb05 hb6
      have hQ0 : Blk (w6.alloc (.cells #[.int .i64 0, .int .i64 0, .int .i64 0] 32)) w6.heap.size 32 #[.int .i64 0, .int .i64 0, .int .i64 0] := Blk.new _ _ _ _ rfl
      clear hv hP5' p50 b50 b51 hB5 hb35 hb05 hb6 HC5
      go_upto_region 8 with (first | ((with_reducible show wpList _ _ _ (⟨_, .store 32 _ _, _, _, _, _⟩ :: _) _ _); refine wpList_store_blk (by rfl) 32 _ _ (by rfl) _ _ (by rfl) (by rfl) _ _ hQ0 (by kernel_rfl) (by rfl) ?_ ?_; (next => exact pr_one ..); intro w7 hQ7 hU7) | fail)
      have hb67 : Below w6.heap.size w6 w7 := below_upd (by (repeat (first | with_reducible exact Below.refl _ _ | (with_reducible assumption) | (with_reducible refine below_alloc ?_ _) | (with_reducible refine below_ext (w1 := ?_) ?_ ?_; rotate_left 2; (with_reducible assumption)) | (with_reducible refine Below.setCell ?_ ?_ _; rotate_left; ((try simp) <;> omega)) | (with_reducible refine Below.drew ?_) | (with_reducible refine below_drewN ?_ _) | fail))) (Nat.le_refl _) hU7
      have hP7 := hP6.ext hb67
      have hb07 := below_ext hb06 hb67
      have hQ7' : Blk w7 w6.heap.size 32 p1.arr := hQ7
      clear hQ0 hQ7 hU7 hP6 hb67 hb06
      go_wp2_with (first | ((with_reducible show wpList _ _ _ (⟨_, .load 32 _, _, _, _, _⟩ :: _) _ _); refine wpList_load_ho 32 _ (by rfl) (by rfl) ?_ (.pointer (some ⟨_, 0, none⟩)) (by rfl) ?_ _ Tryz.underlying32 rfl ?_ ?_; rotate_left; (next => (repeat (first | (with_reducible refine BlkAt.new _ _ _ _ ?_; ((try simp) <;> omega)) | (with_reducible assumption) | (with_reducible refine Blk.at (t := ?_) ?_; rotate_left; with_reducible assumption) | with_reducible refine BlkAt.alloc ?_ _ | with_reducible refine BlkAt.drew ?_ | (with_reducible refine BlkAt.setSame ?_ _ _) | (with_reducible refine BlkAt.setCell ?_ ?_ _; rotate_left; ((try simp) <;> omega)) | (with_reducible refine BlkAt.ext (w := ?_) ?_ ?_; rotate_left 2; (with_reducible assumption)) | fail))); (next => kernel_rfl)) | ((with_reducible show wpList _ _ _ (⟨_, .binOp .eql 32 _ _ _, _, _, _, _⟩ :: _) _ _); refine wpList_eq_pr (by rfl) _ _ _ (by rfl) _ _ (by rfl) (by rfl) _ (prEq_refl _) ?_) | fail)
      refine (HAL.out _).mono ?_
      rintro e w8 ⟨rfl, hb8⟩
      go_wp2_with fail
      go_ret
      exact ⟨rfl, below_ext hb07 hb8⟩
theorem fitOrdWS {vs : List Value} (h : fits (List.replicate 7 K) vs) : ∃ s : Ord, vs = s.cells ∧ Idx.Wf s.id := by
  obtain ⟨a0, _, rfl, b0, h⟩ := fitInt h
  obtain ⟨a1, _, rfl, b1, h⟩ := fitInt h
  obtain ⟨a2, _, rfl, b2, h⟩ := fitInt h
  obtain ⟨a3, _, rfl, b3, h⟩ := fitInt h
  obtain ⟨a4, _, rfl, b4, h⟩ := fitInt h
  obtain ⟨a5, _, rfl, b5, h⟩ := fitInt h
  obtain ⟨a6, _, rfl, b6, h⟩ := fitInt h
  obtain rfl := fitNil h
  exact ⟨⟨a0, a1, a2, a3, a4, a5, a6⟩, rfl, WalkArith.wf_i64 b0⟩
theorem fitBandS {vs : List Value} (h : fits (List.replicate 2 K) vs) : ∃ lo hi : Int, vs = [.int .i64 lo, .int .i64 hi] := by
  obtain ⟨a0, _, rfl, b0, h⟩ := fitInt h
  obtain ⟨a1, _, rfl, b1, h⟩ := fitInt h
  obtain rfl := fitNil h
  exact ⟨a0, a1, rfl⟩
open Go.ChangeShapes Go.WideShapes Go.ChangeAt Go.Deep
set_option maxRecDepth 100000 in
theorem argsClearStays (H : Type) (enc : TypeId × Value → H) (W : World) (args : Array Value) (hargs : Args Tryz.checked H enc [22, 2, 24] W args) :
    Calls Tryz.prog 4 args W fun e W' => e = .returned (.bool true) ∧ Below W.heap.size W W' := by
  obtain ⟨base, ds, p, hval, hA⟩ := hargs
  obtain ⟨v0, vs0, d0, ds0, p0, q0, hargs, rfl, rfl, h0, r0⟩ := trodAll_cons hA
  obtain ⟨v1, vs1, d1, ds1, p1, q1, rfl, rfl, rfl, h1, r1⟩ := trodAll_cons r0
  obtain ⟨v2, vs2, d2, ds2, p2, q2, rfl, rfl, rfl, h2, r2⟩ := trodAll_cons r1
  obtain ⟨rfl, rfl, rfl⟩ := trodAll_nil r2
  obtain rfl : args = #[v0, v1, v2] := by cases args; simp_all
  obtain ⟨A, la, ca, rows, rfl, hla, hlc, hca, hfa, ha⟩ := open_rows (ks := List.replicate 7 K) 5 Tryz.underlying22 (by kernel_rfl) (by kernel_rfl) (by decide) (hval 0 _ v0 rfl rfl) h0
  obtain ⟨xs, rfl, hwf⟩ := rowsOf (fun vs h => fitOrdWS h) rows hfa
  obtain ⟨r, rfl, _⟩ := open_int Tryz.underlying2 (hval 1 _ v1 rfl rfl) h1
  obtain ⟨c2, rfl, f2⟩ := open_flat (ks := List.replicate 2 K) 5 Tryz.underlying24 (by kernel_rfl) (hval 2 _ v2 rfl rfl) h2
  obtain ⟨lo, hi, rfl⟩ := fitBandS f2
  rw [List.length_map] at hla
  subst hla
  exact stays_law xs r lo hi hwf A ca W ha (by omega)
theorem ownClearStays : ownKnob Tryz.prog.godebug = none := by kernel_rfl
theorem laidClearStays : laidOutB Tryz.prog = true := by kernel_rfl
set_option maxRecDepth 100000 in
theorem liftedClearStays (os : Os) (started : os.Started) (H : Type) (enc : TypeId × Value → H) :
    ReturnsInHanded {} Tryz.checked os 4 .any (Rows.clearStaysSpec.pre6 enc Tryz.prog Tryz.f4 Rows.clearStaysRow.domain false) (Rows.clearStaysSpec.post enc Tryz.prog Tryz.f4 false true false false) :=
  law_lifted (C := Tryz.checked) (ts := [22, 2, 24]) (tb := 4) ownClearStays laidClearStays started (by kernel_rfl) Tryz.func4 (by kernel_rfl)
    (ChangeSpec.witness6 (enc := enc) (C := Tryz.checked) false ⟨#[], #[.slice none 0 0, .int .i64 0, .agg #[.int .i64 0, .int .i64 0]], []⟩ 8 (by kernel_rfl) (by kernel_rfl) (by kernel_rfl) (by kernel_rfl))
    rfl (by kernel_rfl) Tryz.underlying4 (by kernel_rfl)
    (fun ds h => by
      match ds, h with
      | [d0, d1, d2], _ => rfl)
    (fun W args h => argsClearStays H enc W args h)
theorem provedClearStays : Rows.ClearStaysSaid :=
  OpenClaim.holds_of_wide 4 Tryz.f4 rfl rfl rfl rfl rfl rfl rfl ⟨rfl, rfl, rfl, rfl, rfl⟩ rfl rfl rfl rfl rfl (by kernel_rfl) Tryz.func4 (by kernel_rfl)
    (of_decide_eq_true (by kernel_rfl)) (by unfold Func.isWrapper; first | (rw [if_pos (by decide +kernel)]; kernel_rfl) | (rw [if_neg (by decide +kernel)]; exact ⟨rfl, rfl⟩))
    (fun os started H enc _ => liftedClearStays os started H enc)
#print axioms provedClearStays
end Cl
end Go.Proofs.YtacpjpkhmdcagaaGreat
