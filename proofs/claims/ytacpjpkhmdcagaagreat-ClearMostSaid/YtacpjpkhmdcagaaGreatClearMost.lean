/- This text proves ClearMost: whatever the input, the law returns true. It has no conditions. -/
import Derived.Test.YtacpjpkhmdcagaaGreatClM
namespace Go.Proofs.YtacpjpkhmdcagaaGreat
set_option linter.unusedVariables false
open Go.RowKit
namespace Cl
set_option maxHeartbeats 8000000
set_option maxRecDepth 10000
open Cu (ic)
open Bk (bkO osOf)
open Rk (Rb)
theorem q_ne_pr {ops : Array Oper} {C : World → Prop} {Q : Act → Prop} {a : Act} {o : Oper} {rest : List Oper} (hgd : Region.wanted o (yielded ops a.tmps) = true) (x y : Operand) (u : TypeId) (ho : o.op = .binOp .neq 32 x y u)
    (p q : Pr) (hx : a.eval x = .agg p.arr) (hy : a.eval y = .agg q.arr) (b : Bool) (hb : (!prEq p q) = b) (h : wpQuiet Tryz.prog ops C Q rest (a.put o.dst (.bool b))) : wpQuiet Tryz.prog ops C Q (o :: rest) a :=
  q_step hgd _ (fun w _ => by
    unfold Oper.quietAt execOp
    simp only [ho, hx, hy, Sem.run_bind, run_eqGuard_agg _ _ _ _ _ _ _ guardPr, Result.andThen_ok, run_neq_struct, eqPr, hb]
    exact ⟨rfl, rfl⟩) h
theorem most_law (l : List Ord) (r lo hi price : Int) (hwf : ∀ o ∈ l, Idx.Wf o.id) (A : Option Addr) (cap : Nat) (w : World) (hr : Rd w 7 A (l.map Ord.cells)) (hml : l.length ≤ maxLen) :
    Calls Tryz.prog 3 #[.slice A l.length cap, .int .i64 r, .agg #[.int .i64 lo, .int .i64 hi], .int .i64 price] w fun e w' => e = .returned (.bool true) ∧ Below w.heap.size w w' := by
  unfold maxLen at hml
  have hB0 : Blk (w.alloc (.cells #[.int .i64 lo, .int .i64 hi] 24)) w.heap.size 24 #[.int .i64 lo, .int .i64 hi] := Blk.new _ _ _ _ rfl
  have hb0 : Below w.heap.size w (w.alloc (.cells #[.int .i64 lo, .int .i64 hi] 24)) := by (repeat (first | with_reducible exact Below.refl _ _ | (with_reducible assumption) | (with_reducible refine below_alloc ?_ _) | (with_reducible refine below_ext (w1 := ?_) ?_ ?_; rotate_left 2; (with_reducible assumption)) | (with_reducible refine Below.setCell ?_ ?_ _; rotate_left; ((try simp) <;> omega)) | (with_reducible refine Below.drew ?_) | (with_reducible refine below_drewN ?_ _) | fail))
  generalize hw0 : w.alloc (.cells #[.int .i64 lo, .int .i64 hi] 24) = w0 at hB0 hb0
  have HW0 := Lib.hid hw0
  have HAL := Lib.hid (fun W => alive_any W)
  clear hw0
  by_cases h60 : 60 < l.length
  · have e1 : (60 : Int) < (l.length : Int) := by omega
    have e2 : decide ((60 : Int) < (l.length : Int)) = true := decide_eq_true e1
    clear hr hwf
    go_enter Tryz.func3, Tryz.ntmps3
    go_upto_region 1 with fail
    rw [HW0.out]
    go_wp2_with fail
    refine (HAL.out _).mono ?_
    rintro e w4 ⟨rfl, hb4⟩
    go_wp2_with fail
    go_ret
    exact ⟨rfl, below_ext hb0 hb4⟩
  have h61 : ¬ (60 : Int) < l.length := by omega
  have h62 : decide ((60 : Int) < (l.length : Int)) = false := decide_eq_false h61
  have hX0 : Blk (w0.alloc (.cells #[.int .i64 r] 2)) w0.heap.size 2 #[.int .i64 r] := Blk.new _ _ _ _ rfl
  have hbX : Below w0.heap.size w0 (w0.alloc (.cells #[.int .i64 r] 2)) := by (repeat (first | with_reducible exact Below.refl _ _ | (with_reducible assumption) | (with_reducible refine below_alloc ?_ _) | (with_reducible refine below_ext (w1 := ?_) ?_ ?_; rotate_left 2; (with_reducible assumption)) | (with_reducible refine Below.setCell ?_ ?_ _; rotate_left; ((try simp) <;> omega)) | (with_reducible refine Below.drew ?_) | (with_reducible refine below_drewN ?_ _) | fail))
  have HP := Lib.hid (priced_any (l := [r]) (cap := 1) (rd_own hX0 (by simp [ic]) (n := 1) (by simp [ic])) (by simp))
  have hB1 := hB0.ext hbX
  have hb1 := below_ext hb0 hbX
  generalize hw1 : w0.alloc (.cells #[.int .i64 r] 2) = w1 at HP hB1 hb1
  have HW1 := Lib.hid hw1
  generalize decide (∀ x ∈ [r], 0 ≤ x ∧ x ≤ 1099511627776) = pz at HP
  have HB := Lib.hid (Bk.books_any l hwf A cap w1 (hr.below hb1) (by omega))
  have b0 : w1.cell? ⟨w.heap.size, 0, none⟩ = some (.int .i64 lo) := hB1.cell 0
  have b1 : w1.cell? ⟨w.heap.size, 1, none⟩ = some (.int .i64 hi) := hB1.cell 1
  clear hw1 hX0 hbX hB0 hb0 hr hwf h60
  go_enter Tryz.func3, Tryz.ntmps3
  go_upto_region 1 with fail
  rw [HW0.out]
  go_wp2_with fail
  rw [HW1.out]
  refine HP.out.mono ?_
  rintro e w2 ⟨rfl, rfl⟩
  clear HW0 HW1 HP
  cases pz with
  | false =>
    clear HB
    go_wp2_with fail
    refine (HAL.out _).mono ?_
    rintro e w4 ⟨rfl, hb4⟩
    go_wp2_with fail
    go_ret
    exact ⟨rfl, below_ext hb1 hb4⟩
  | true =>
    by_cases c0 : price < lo
    · have d0 : decide (price < lo) = true := decide_eq_true c0
      clear HB
      go_wp2_with fail
      refine (HAL.out _).mono ?_
      rintro e w4 ⟨rfl, hb4⟩
      go_wp2_with fail
      go_ret
      exact ⟨rfl, below_ext hb1 hb4⟩
    have d0 : decide (price < lo) = false := decide_eq_false c0
    by_cases c1 : hi < price
    · have d1 : decide (hi < price) = true := decide_eq_true c1
      clear HB
      go_wp2_with fail
      refine (HAL.out _).mono ?_
      rintro e w4 ⟨rfl, hb4⟩
      go_wp2_with fail
      go_ret
      exact ⟨rfl, below_ext hb1 hb4⟩
    have d1 : decide (hi < price) = false := decide_eq_false c1
    by_cases c2 : lo < 1
    · have d2 : decide (lo < 1) = true := decide_eq_true c2
      clear HB
      go_wp2_with fail
      refine (HAL.out _).mono ?_
      rintro e w4 ⟨rfl, hb4⟩
      go_wp2_with fail
      go_ret
      exact ⟨rfl, below_ext hb1 hb4⟩
    have d2 : decide (lo < 1) = false := decide_eq_false c2
    by_cases c3 : 1099511627776 < hi
    · have d3 : decide (1099511627776 < hi) = true := decide_eq_true c3
      clear HB
      go_wp2_with fail
      refine (HAL.out _).mono ?_
      rintro e w4 ⟨rfl, hb4⟩
      go_wp2_with fail
      go_ret
      exact ⟨rfl, below_ext hb1 hb4⟩
    have d3 : decide (1099511627776 < hi) = false := decide_eq_false c3
    go_wp2_with fail
    refine HB.out.mono ?_
    rintro e w3 ⟨b, rb, c, ss, A1, cap1, rfl, W3⟩
    have hqn : ∀ o ∈ osOf ss, 0 ≤ o.qty := fun o ho => by have := (Sw.Bs.okk W3.two.bs o ho).2.2.1; omega
    have HQN := Lib.hid hqn
    have HCH := Lib.hid (choose_any W3.two.bs r lo hi)
    have HOF := Lib.hid (fun p W (hW : Below w3.heap.size w3 W) => rof_any (W3.two.rf.ext hW) (fun o ho => by have := (Sw.Bs.okk W3.two.bs o ho).2.2.1; omega) p)
    have HHAS := Lib.hid (fun W (hW : Below w3.heap.size w3 W) => has_any (W3.two.rf.ext hW) price)
    have hB3 := hB1.ext W3.below
    have hb3 := below_ext hb1 W3.below
    clear HB W3 hB1 hb1 b0 b1 hqn
    generalize osOf ss = os at *
    go_wp2_with (first | ((with_reducible show wpList _ _ _ (⟨_, .load 24 _, _, _, _, _⟩ :: _) _ _); refine wpList_load_ho 24 _ (by rfl) (by rfl) ?_ (.pointer (some ⟨_, 0, none⟩)) (by rfl) ?_ _ Tryz.underlying24 rfl ?_ ?_; rotate_left; (next => (repeat (first | (with_reducible refine BlkAt.new _ _ _ _ ?_; ((try simp) <;> omega)) | (with_reducible assumption) | (with_reducible refine Blk.at (t := ?_) ?_; rotate_left; with_reducible assumption) | with_reducible refine BlkAt.alloc ?_ _ | with_reducible refine BlkAt.drew ?_ | (with_reducible refine BlkAt.setSame ?_ _ _) | (with_reducible refine BlkAt.setCell ?_ ?_ _; rotate_left; ((try simp) <;> omega)) | (with_reducible refine BlkAt.ext (w := ?_) ?_ ?_; rotate_left 2; (with_reducible assumption)) | fail))); (next => kernel_rfl)) | fail)
    refine HCH.out.mono ?_
    rintro e w4 ⟨⟨u, hu, rfl⟩, hb4⟩
    have HM := Lib.hid (most (p := price) HQN.out hu (by omega) (by omega) (by omega) (by omega))
    generalize hz : chB os r u = z at HM
    obtain ⟨p1, z1⟩ := z
    have hB4 := hB3.ext hb4
    have hb04 := below_ext hb3 hb4
    have hP0 : Blk (w4.alloc (.cells #[.int .i64 0, .int .i64 0, .int .i64 0] 32)) w4.heap.size 32 #[.int .i64 0, .int .i64 0, .int .i64 0] := Blk.new _ _ _ _ rfl
    clear hu hz hB3 hb3 HCH
    go_upto_region 5 with (first | ((with_reducible show wpList _ _ _ (⟨_, .store 32 _ _, _, _, _, _⟩ :: _) _ _); refine wpList_store_blk (by rfl) 32 _ _ (by rfl) _ _ (by rfl) (by rfl) _ _ hP0 (by kernel_rfl) (by rfl) ?_ ?_; (next => exact pr_one ..); intro w5 hP5 hU5) | fail)
    have hb45 : Below w4.heap.size w4 w5 := below_upd (by (repeat (first | with_reducible exact Below.refl _ _ | (with_reducible assumption) | (with_reducible refine below_alloc ?_ _) | (with_reducible refine below_ext (w1 := ?_) ?_ ?_; rotate_left 2; (with_reducible assumption)) | (with_reducible refine Below.setCell ?_ ?_ _; rotate_left; ((try simp) <;> omega)) | (with_reducible refine Below.drew ?_) | (with_reducible refine below_drewN ?_ _) | fail))) (Nat.le_refl _) hU5
    have hb35 := below_ext hb4 hb45
    have hB5 := hB4.ext hb45
    have hb05 := below_ext hb04 hb45
    have hP5' : Blk w5 w4.heap.size 32 p1.arr := hP5
    obtain ⟨pb, hpb⟩ : ∃ x, x = w4.heap.size := ⟨_, rfl⟩
    rw [← hpb] at hP5' ⊢
    clear hP0 hP5 hU5 hB4 hb04 hb4 hb45 hpb
    have HO5 := Lib.hid (HOF.out price w5 hb35)
    obtain ⟨q, hq⟩ : ∃ q, q = prO os price := ⟨_, rfl⟩
    rw [← hq] at HO5
    have HM2 : Hid (((p1, z1) = ((⟨0, 0, 0⟩ : Pr), false) ∧ q.volume = 0) ∨ ∃ x, (p1, z1) = (prO os x, true) ∧ lo ≤ x ∧ x ≤ hi ∧ q.volume ≤ (prO os x).volume ∧ ((∃ o ∈ os, o.price = price) → q.volume = (prO os x).volume → (prO os x).odds ≤ q.odds)) := Lib.hid (by rw [hq]; exact HM.out)
    clear hq HM
    go_wp2_with fail
    refine HO5.out.mono ?_
    rintro e w6 ⟨rfl, hb6⟩
    have hB6 := hB5.ext hb6
    have hP6 := hP5'.ext hb6
    have hb36 := below_ext hb35 hb6
    have hb06 := below_ext hb05 hb6
    have hQ0 : Blk (w6.alloc (.cells #[.int .i64 0, .int .i64 0, .int .i64 0] 35)) w6.heap.size 35 #[.int .i64 0, .int .i64 0, .int .i64 0] := Blk.new _ _ _ _ rfl
    clear hB5 hP5' hb35 hb05 hb6 HO5
    go_upto_region 6 with (first | ((with_reducible show wpList _ _ _ (⟨_, .store 35 _ _, _, _, _, _⟩ :: _) _ _); refine wpList_store_blk (by rfl) 35 _ _ (by rfl) _ _ (by rfl) (by rfl) _ _ hQ0 (by kernel_rfl) (by rfl) ?_ ?_; (next => exact pr_one ..); intro w7 hQ7 hU7) | fail)
    have hb67 : Below w6.heap.size w6 w7 := below_upd (by (repeat (first | with_reducible exact Below.refl _ _ | (with_reducible assumption) | (with_reducible refine below_alloc ?_ _) | (with_reducible refine below_ext (w1 := ?_) ?_ ?_; rotate_left 2; (with_reducible assumption)) | (with_reducible refine Below.setCell ?_ ?_ _; rotate_left; ((try simp) <;> omega)) | (with_reducible refine Below.drew ?_) | (with_reducible refine below_drewN ?_ _) | fail))) (Nat.le_refl _) hU7
    have hB7 := hB6.ext hb67
    have hP7 := hP6.ext hb67
    have hb37 := below_ext hb36 hb67
    have hb07 := below_ext hb06 hb67
    have hQ7' : Blk w7 w6.heap.size 35 q.arr := hQ7
    obtain ⟨qb, hqb⟩ : ∃ x, x = w6.heap.size := ⟨_, rfl⟩
    rw [← hqb] at hQ7' ⊢
    clear hQ0 hQ7 hU7 hB6 hP6 hb36 hb06 hb67 hqb
    have q1 : w7.cell? ⟨qb, 1, none⟩ = some (.int .i64 q.volume) := hQ7'.cell 1
    rcases HM2.out with ⟨hpz, hv⟩ | ⟨x, hpz, hx1, hx2, hx3, hx4⟩
    · obtain ⟨rfl, rfl⟩ := (Prod.mk.injEq _ _ _ _).mp hpz
      have hv2 : (q.volume == 0) = true := by simpa using hv
      clear hpz HM2 hv
      go_wp2_with (first | ((with_reducible show wpList _ _ _ (⟨_, .load 32 _, _, _, _, _⟩ :: _) _ _); refine wpList_load_ho 32 _ (by rfl) (by rfl) ?_ (.pointer (some ⟨_, 0, none⟩)) (by rfl) ?_ _ Tryz.underlying32 rfl ?_ ?_; rotate_left; (next => (repeat (first | (with_reducible refine BlkAt.new _ _ _ _ ?_; ((try simp) <;> omega)) | (with_reducible assumption) | (with_reducible refine Blk.at (t := ?_) ?_; rotate_left; with_reducible assumption) | with_reducible refine BlkAt.alloc ?_ _ | with_reducible refine BlkAt.drew ?_ | (with_reducible refine BlkAt.setSame ?_ _ _) | (with_reducible refine BlkAt.setCell ?_ ?_ _; rotate_left; ((try simp) <;> omega)) | (with_reducible refine BlkAt.ext (w := ?_) ?_ ?_; rotate_left 2; (with_reducible assumption)) | fail))); (next => kernel_rfl)) | ((with_reducible show wpList _ _ _ (⟨_, .build _ _, _, _, _, _⟩ :: _) _ _); refine wpList_build_is (by rfl) _ _ (by rfl) ?_ ?_ ?_; rotate_left; (next => simp only [List.map_toArray, List.map_cons, List.map_nil, go_sem]; exact built_c0 ..)) | ((with_reducible show wpList _ _ _ (⟨_, .binOp .eql 32 _ _ _, _, _, _, _⟩ :: _) _ _); refine wpList_eq_pr (by rfl) _ _ _ (by rfl) _ _ (by rfl) (by rfl) _ (prEq_refl _) ?_) | fail)
      refine (HAL.out _).mono ?_
      rintro e w8 ⟨rfl, hb8⟩
      go_wp2_with fail
      go_ret
      exact ⟨rfl, below_ext hb07 hb8⟩
    · obtain ⟨rfl, rfl⟩ := (Prod.mk.injEq _ _ _ _).mp hpz
      have HOX : Hid (∀ W, Below w7.heap.size w7 W → Calls Tryz.prog 11 #[.pointer (some ⟨rb, 0, none⟩), .int .i64 (prO os x).price] W fun e w' => e = .returned (.agg (prO os x).arr) ∧ Below W.heap.size W w') := Lib.hid (fun W hW => HOF.out x W (below_ext hb37 hW))
      have hx1' : lo ≤ (prO os x).price := hx1
      have hx2' : (prO os x).price ≤ hi := hx2
      have HHX := Lib.hid (fun W (hW : Below w7.heap.size w7 W) => HHAS.out W (below_ext hb37 hW))
      have HOWN := Lib.hid (fun W => own_any (prO os x) W)
      have HX4 := Lib.hid hx4
      have p0' : w7.cell? ⟨pb, 0, none⟩ = some (.int .i64 (prO os x).price) := hP7.cell 0
      have p1' : w7.cell? ⟨pb, 1, none⟩ = some (.int .i64 (prO os x).volume) := hP7.cell 1
      have p2' : w7.cell? ⟨pb, 2, none⟩ = some (.int .i64 (prO os x).odds) := hP7.cell 2
      have q2 : w7.cell? ⟨qb, 2, none⟩ = some (.int .i64 q.odds) := hQ7'.cell 2
      have b70 : w7.cell? ⟨w.heap.size, 0, none⟩ = some (.int .i64 lo) := hB7.cell 0
      have b71 : w7.cell? ⟨w.heap.size, 1, none⟩ = some (.int .i64 hi) := hB7.cell 1
      generalize prO os x = p1 at *
      have lP := hP7.lt
      have lQ := hQ7'.lt
      have lB := hB7.lt
      have n0 : decide (p1.price < lo) = false := decide_eq_false (by omega)
      have n1 : decide (hi < p1.price) = false := decide_eq_false (by omega)
      have n0' : lo ≤ p1.price := hx1'
      have n2 : decide (p1.volume < q.volume) = false := decide_eq_false (by omega)
      have hpe : (!prEq p1 p1) = false := by rw [prEq_refl]; rfl
      clear hpz HM2 HOF HHAS hx4
      go_wp2_with fail
      refine wp_region_below_lit (by kernel_rfl) (by kernel_rfl) ?_
      repeat (first | go_big_quiet_skip | (go_big_quiet_want; go_big_quiet_op; go_big_quiet_on) | (refine q_load_blk (by rfl) 32 _ (by rfl) ?_ (.pointer (some ⟨_, 0, none⟩)) (by rfl) ?_ _ (fun _ h => h) Tryz.underlying32 rfl ?_ ?_; rotate_left; (next => (repeat (first | (with_reducible refine BlkAt.new _ _ _ _ ?_; ((try simp) <;> omega)) | (with_reducible assumption) | (with_reducible refine Blk.at (t := ?_) ?_; rotate_left; with_reducible assumption) | with_reducible refine BlkAt.alloc ?_ _ | with_reducible refine BlkAt.drew ?_ | (with_reducible refine BlkAt.setSame ?_ _ _) | (with_reducible refine BlkAt.setCell ?_ ?_ _; rotate_left; ((try simp) <;> omega)) | (with_reducible refine BlkAt.ext (w := ?_) ?_ ?_; rotate_left 2; (with_reducible assumption)) | fail))); (next => kernel_rfl); (try simp only [Act.put, List.setIfInBounds_toArray, List.set_cons_zero, List.set_cons_succ])) | ((with_reducible show wpQuiet _ _ _ _ (⟨_, .binOp .neq 32 _ _ _, _, _, _, _⟩ :: _) _); refine Cl.q_ne_pr (by rfl) _ _ _ (by rfl) _ _ (by rfl) (by rfl) _ hpe ?_; (try simp only [Act.put, List.setIfInBounds_toArray, List.set_cons_zero, List.set_cons_succ])) | (refine q_load_fld (by rfl) _ _ (by rfl) (fun _ h => h) _ _ (by rfl) ?_ ?_ ?_ ?_ ?_ ?_; rotate_left; (next => (repeat (first | (with_reducible refine BlkAt.new _ _ _ _ ?_; ((try simp) <;> omega)) | (with_reducible assumption) | (with_reducible refine Blk.at (t := ?_) ?_; rotate_left; with_reducible assumption) | with_reducible refine BlkAt.alloc ?_ _ | with_reducible refine BlkAt.drew ?_ | (with_reducible refine BlkAt.setSame ?_ _ _) | (with_reducible refine BlkAt.setCell ?_ ?_ _; rotate_left; ((try simp) <;> omega)) | (with_reducible refine BlkAt.ext (w := ?_) ?_ ?_; rotate_left 2; (with_reducible assumption)) | fail))); rotate_left; (next => first | (simp only [go_sem]; rfl) | rfl); (next => kernel_rfl); (try simp only [Act.put, List.setIfInBounds_toArray, List.set_cons_zero, List.set_cons_succ])) | (refine q_rem (by rfl) _ _ _ _ (by rfl) _ _ (by rfl) (by rfl) (by kernel_rfl) (by kernel_rfl) ?_ ?_; (next => omega); (try simp only [Act.put, List.setIfInBounds_toArray, List.set_cons_zero, List.set_cons_succ])) | (refine q_step_ex (by rfl) ?_; apply Exists.intro; refine ⟨fun W hW => ?_, ?_⟩; (next => (have hWc := fun (b o : Nat) (h : b < _) => (Ext.out hW).cell (p := ⟨b, o, none⟩) h); (try have hLK := HLK.out W (Ext.out hW)); go_simp; first | rfl | (go_at_call 11; refine (HOX.out _ hW.out).mono ?_; rintro e w'' ⟨rfl, hb2⟩; exact ⟨rfl, below_ext hW hb2⟩) | (go_at_call 12; refine (HOWN.out _).mono ?_; rintro e w'' ⟨rfl, hb2⟩; exact ⟨rfl, below_ext hW hb2⟩) | fail); (try simp only [Act.put, List.setIfInBounds_toArray, List.set_cons_zero, List.set_cons_succ])) | fail)
      refine wpQuiet_nil ?_
      intro w8 hb8
      have hb08 := below_ext hb07 hb8
      have r1 : w8.cell? ⟨pb, 1, none⟩ = some (.int .i64 p1.volume) := (hb8.cell (p := ⟨pb, 1, none⟩) lP).trans p1'
      have r2 : w8.cell? ⟨pb, 2, none⟩ = some (.int .i64 p1.odds) := (hb8.cell (p := ⟨pb, 2, none⟩) lP).trans p2'
      have s1 : w8.cell? ⟨qb, 1, none⟩ = some (.int .i64 q.volume) := (hb8.cell (p := ⟨qb, 1, none⟩) lQ).trans q1
      have s2 : w8.cell? ⟨qb, 2, none⟩ = some (.int .i64 q.odds) := (hb8.cell (p := ⟨qb, 2, none⟩) lQ).trans q2
      have HH8 := Lib.hid (HHX.out w8 hb8)
      clear hB7 hP7 hQ7' p0' p1' p2' q1 q2 b70 b71 HHX HOX hb37 hb07 hb8
      by_cases hh : ∃ o ∈ os, o.price = price
      · rw [decide_eq_true hh] at HH8
        by_cases hve : q.volume = p1.volume
        · have hod := HX4.out hh hve
          have n3 : decide (q.odds < p1.odds) = false := decide_eq_false (by omega)
          have n4 : (q.volume == p1.volume) = true := by simpa using hve
          clear hh hve HX4
          go_wp2_with (first | (go_at_call 13; refine HH8.out.mono ?_; rintro e w9 ⟨rfl, rfl⟩) | fail)
          refine (HAL.out _).mono ?_
          rintro e w9 ⟨rfl, hb9⟩
          go_wp2_with fail
          go_ret
          exact ⟨rfl, below_ext hb08 hb9⟩
        · have n4 : (q.volume == p1.volume) = false := by simpa using hve
          clear hh HX4
          go_wp2_with (first | (go_at_call 13; refine HH8.out.mono ?_; rintro e w9 ⟨rfl, rfl⟩) | fail)
          refine (HAL.out _).mono ?_
          rintro e w9 ⟨rfl, hb9⟩
          go_wp2_with fail
          go_ret
          exact ⟨rfl, below_ext hb08 hb9⟩
      · rw [decide_eq_false hh] at HH8
        clear hh HX4
        go_wp2_with (first | (go_at_call 13; refine HH8.out.mono ?_; rintro e w9 ⟨rfl, rfl⟩) | fail)
        refine (HAL.out _).mono ?_
        rintro e w9 ⟨rfl, hb9⟩
        go_wp2_with fail
        go_ret
        exact ⟨rfl, below_ext hb08 hb9⟩
theorem fitOrdWM {vs : List Value} (h : fits (List.replicate 7 K) vs) : ∃ s : Ord, vs = s.cells ∧ Idx.Wf s.id := by
  obtain ⟨a0, _, rfl, b0, h⟩ := fitInt h
  obtain ⟨a1, _, rfl, b1, h⟩ := fitInt h
  obtain ⟨a2, _, rfl, b2, h⟩ := fitInt h
  obtain ⟨a3, _, rfl, b3, h⟩ := fitInt h
  obtain ⟨a4, _, rfl, b4, h⟩ := fitInt h
  obtain ⟨a5, _, rfl, b5, h⟩ := fitInt h
  obtain ⟨a6, _, rfl, b6, h⟩ := fitInt h
  obtain rfl := fitNil h
  exact ⟨⟨a0, a1, a2, a3, a4, a5, a6⟩, rfl, WalkArith.wf_i64 b0⟩
theorem fitBandM {vs : List Value} (h : fits (List.replicate 2 K) vs) : ∃ lo hi : Int, vs = [.int .i64 lo, .int .i64 hi] := by
  obtain ⟨a0, _, rfl, b0, h⟩ := fitInt h
  obtain ⟨a1, _, rfl, b1, h⟩ := fitInt h
  obtain rfl := fitNil h
  exact ⟨a0, a1, rfl⟩
open Go.ChangeShapes Go.WideShapes Go.ChangeAt Go.Deep
set_option maxRecDepth 100000 in
theorem argsClearMost (H : Type) (enc : TypeId × Value → H) (W : World) (args : Array Value) (hargs : Args Tryz.checked H enc [22, 2, 24, 2] W args) :
    Calls Tryz.prog 3 args W fun e W' => e = .returned (.bool true) ∧ Below W.heap.size W W' := by
  obtain ⟨base, ds, p, hval, hA⟩ := hargs
  obtain ⟨v0, vs0, d0, ds0, p0, q0, hargs, rfl, rfl, h0, r0⟩ := trodAll_cons hA
  obtain ⟨v1, vs1, d1, ds1, p1, q1, rfl, rfl, rfl, h1, r1⟩ := trodAll_cons r0
  obtain ⟨v2, vs2, d2, ds2, p2, q2, rfl, rfl, rfl, h2, r2⟩ := trodAll_cons r1
  obtain ⟨v3, vs3, d3, ds3, p3, q3, rfl, rfl, rfl, h3, r3⟩ := trodAll_cons r2
  obtain ⟨rfl, rfl, rfl⟩ := trodAll_nil r3
  obtain rfl : args = #[v0, v1, v2, v3] := by cases args; simp_all
  obtain ⟨A, la, ca, rows, rfl, hla, hlc, hca, hfa, ha⟩ := open_rows (ks := List.replicate 7 K) 5 Tryz.underlying22 (by kernel_rfl) (by kernel_rfl) (by decide) (hval 0 _ v0 rfl rfl) h0
  obtain ⟨xs, rfl, hwf⟩ := rowsOf (fun vs h => fitOrdWM h) rows hfa
  obtain ⟨r, rfl, _⟩ := open_int Tryz.underlying2 (hval 1 _ v1 rfl rfl) h1
  obtain ⟨c2, rfl, f2⟩ := open_flat (ks := List.replicate 2 K) 5 Tryz.underlying24 (by kernel_rfl) (hval 2 _ v2 rfl rfl) h2
  obtain ⟨lo, hi, rfl⟩ := fitBandM f2
  obtain ⟨price, rfl, _⟩ := open_int Tryz.underlying2 (hval 3 _ v3 rfl rfl) h3
  rw [List.length_map] at hla
  subst hla
  exact most_law xs r lo hi price hwf A ca W ha (by omega)
theorem ownClearMost : ownKnob Tryz.prog.godebug = none := by kernel_rfl
theorem laidClearMost : laidOutB Tryz.prog = true := by kernel_rfl
set_option maxRecDepth 100000 in
theorem liftedClearMost (os : Os) (started : os.Started) (H : Type) (enc : TypeId × Value → H) :
    ReturnsInHanded {} Tryz.checked os 3 .any (Rows.clearMostSpec.pre6 enc Tryz.prog Tryz.f3 Rows.clearMostRow.domain false) (Rows.clearMostSpec.post enc Tryz.prog Tryz.f3 false true false false) :=
  law_lifted (C := Tryz.checked) (ts := [22, 2, 24, 2]) (tb := 4) ownClearMost laidClearMost started (by kernel_rfl) Tryz.func3 (by kernel_rfl)
    (ChangeSpec.witness6 (enc := enc) (C := Tryz.checked) false ⟨#[], #[.slice none 0 0, .int .i64 0, .agg #[.int .i64 0, .int .i64 0], .int .i64 0], []⟩ 8 (by kernel_rfl) (by kernel_rfl) (by kernel_rfl) (by kernel_rfl))
    rfl (by kernel_rfl) Tryz.underlying4 (by kernel_rfl)
    (fun ds h => by
      match ds, h with
      | [d0, d1, d2, d3], _ => rfl)
    (fun W args h => argsClearMost H enc W args h)
theorem provedClearMost : Rows.ClearMostSaid :=
  OpenClaim.holds_of_wide 3 Tryz.f3 rfl rfl rfl rfl rfl rfl rfl ⟨rfl, rfl, rfl, rfl, rfl⟩ rfl rfl rfl rfl rfl (by kernel_rfl) Tryz.func3 (by kernel_rfl)
    (of_decide_eq_true (by kernel_rfl)) (by unfold Func.isWrapper; first | (rw [if_pos (by decide +kernel)]; kernel_rfl) | (rw [if_neg (by decide +kernel)]; exact ⟨rfl, rfl⟩))
    (fun os started H enc _ => liftedClearMost os started H enc)
#print axioms provedClearMost
end Cl
end Go.Proofs.YtacpjpkhmdcagaaGreat
