/- This text proves MatchEnters: whatever the input, the law returns true. It has no conditions. -/
import Derived.Test.YtbnappiaomiciaaGreatMeN
import Derived.Deep.DeepCutAuto
namespace Go.Proofs.YtbnappiaomiciaaGreat
set_option linter.unusedVariables false
open Go.RowKit
namespace Mr
set_option maxHeartbeats 8000000
set_option maxRecDepth 10000
open Bk (Bs osOf Sl Two)
open Sw (Fl)
open Ma (En checkF enterF resArr res_size res_one own_any alive_any)
/-- What holds behind i entries. -/
structure Wt (w wr : World) (c : Nat → Nat) (b rb N M k i : Nat) (ss : List Sl) (A : Option Addr) (cap : Nat) : Prop where
  two : Two wr c b rb N M k ss A cap
  cnt : k + (osOf ss).length ≤ 3 * i
  nine : ∀ q, q < w.heap.size → c q = 9
  below : Below w.heap.size w wr
  far : w.heap.size ≤ rb
theorem enters_fault {N M : Nat} {os : List Ord} {e : En} : (enterF N M os e).1.fault = checkF N M os e := by
  unfold enterF
  by_cases hc : checkF N M os e = 0
  · rw [if_neg (by rw [hc]; decide)]
    split
    · exact hc.symm
    · exact hc.symm
  · rw [if_pos hc]
theorem built_e0 : Tryz.prog.built 37 [(1, .int .i64 1)] = some (En.mk Are.ord0 1 0 0 0).arr := by kernel_rfl
def SM (xb ab ao i : Nat) (f : Int) (A : Option Addr) (n cap : Nat) (o : Ord) (gn y : Int) (e : En) (W : World) : Prop := W.cell? ⟨xb, 0, none⟩ = some (.int .i64 f) ∧ (Blk W xb 32 (resArr f (.slice A n cap) o gn y) ∧ W.rangeAt ab (ao + i * 11) e.cells)
theorem enters_bad (a b : Int) (h : a < 1 ∨ 500 < a ∨ b < 1 ∨ 200 < b) (n : Nat) (hn : n ≤ 40) (A : Option Addr) (cap : Nat) (w : World) :
    Calls Tryz.prog 3 #[.int .i64 a, .int .i64 b, .slice A n cap] w fun x w' => x = .returned (.bool true) ∧ Below w.heap.size w w' := by
  have h41 : ¬ (40 : Int) < n := by omega
  have HRN := Lib.hid (fun W => Rk.rnew_bad a b h W)
  have HEN := Lib.hid (fun W => enter_nil (En.mk Are.ord0 1 0 0 0) W)
  clear h
  go_enter Tryz.func3, Tryz.ntmps3
  go_wp2_with (first | (go_at_call 5; refine (HRN.out _).mono ?_; rintro x w1 ⟨rfl, rfl⟩) | ((with_reducible show wpList _ _ _ (⟨_, .build _ _, _, _, _, _⟩ :: _) _ _); refine wpList_build_is (by rfl) _ _ (by rfl) ?_ ?_ ?_; rotate_left; (next => simp only [List.map_toArray, List.map_cons, List.map_nil, go_sem]; exact built_e0 ..)) | (go_at_call 6; refine (HEN.out _).mono ?_; rintro x w2 ⟨rfl, hb2⟩) | ((with_reducible show wpList _ _ _ (⟨_, .field _ _ _, _, _, _, _⟩ :: _) _ _); refine wpList_run (v := .int .i64 1) (by rfl) (by go_simp; first | done | rfl) ?_) | (go_at_call 4; refine (alive_any _).mono ?_; rintro x w3 ⟨rfl, hb3⟩) | fail)
  go_ret
  exact ⟨rfl, below_ext hb2 hb3⟩
theorem enters_main (N M : Nat) (hN : 1 ≤ N ∧ N ≤ 500) (hM : 1 ≤ M ∧ M ≤ 200) (l : List En) (hwf : ∀ e ∈ l, Idx.Wf e.o.id ∧ I64 e.o.price ∧ I64 e.o.qty) (A0 : Option Addr) (cap0 : Nat) (w : World) (hr : Rd w 11 A0 (l.map En.cells)) (hl : l.length ≤ 40) :
    Calls Tryz.prog 3 #[.int .i64 (N : Int), .int .i64 (M : Int), .slice A0 l.length cap0] w fun x w' => x = .returned (.bool true) ∧ Below w.heap.size w w' := by
  have h41 : ¬ (40 : Int) < l.length := by omega
  have HBN := Lib.hid (fun W => Bk.new_ok N M W hN hM)
  have HRN := Lib.hid (fun W => Rk.rnew_ok (N : Int) (M : Int) (by omega) W)
  have HR := Lib.hid hr
  have HWF := Lib.hid hwf
  clear hr hwf hN hM
  go_enter Tryz.func3, Tryz.ntmps3
  go_wp2_with (first | (go_at_call 5; refine (HRN.out _).mono ?_; rintro x w1 ⟨rfl, hR1, hb1⟩) | fail)
  refine (HBN.out _).mono ?_
  rintro x w2 ⟨b, c, rfl, B2, hb2, h9⟩
  obtain ⟨rb, hrb⟩ : ∃ n, n = w.heap.size := ⟨_, rfl⟩
  rw [← hrb] at hR1
  rw [← hrb]
  have W2 : Hid (Wt w w2 c b rb N M 0 0 [] none 0) := Lib.hid ⟨⟨B2, hR1.ext hb2, h9 rb hR1.hd.lt, fun a e => by cases e⟩, Nat.le_refl _, fun q hq => h9 q (Nat.lt_of_lt_of_le hq hb1.size), below_ext hb1 hb2, by omega⟩
  clear B2 hR1 hb1 hb2 h9 hrb HBN HRN
  go_wp2_with fail
  go_loopw [11] (fun iv wr => ∃ (i k : Nat) (c : Nat → Nat) (ss : List Sl) (A : Option Addr) (cap : Nat), iv = .int .i64 i ∧ i ≤ l.length ∧ Hid (Wt w wr c b rb N M k i ss A cap)) (fun iv _ => l.length - (intOf iv).toNat)
  case atStart => exact ⟨0, 0, c, [], none, 0, rfl, Nat.zero_le _, W2⟩
  case round =>
    obtain ⟨i, k, c, ss, A, cap, rfl, hi, HW⟩ := hrel
    clear W2
    by_cases hlt : i < l.length
    · have e1 : (i : Int) < (l.length : Int) := by omega
      have HLT := Lib.hid hlt
      obtain ⟨ab, ao, rfl, hmid⟩ := Bk.rd_rngB (HR.out.below HW.out.below) HLT.out
      obtain ⟨e, he⟩ : ∃ e, e = l[i]'HLT.out := ⟨_, rfl⟩
      replace hmid : wr.rangeAt ab (ao + i * 11) e.cells := by rw [he]; exact hmid
      have hmw : w.rangeAt ab (ao + i * 11) e.cells := by
        obtain ⟨b', o', e2, h⟩ := Bk.rd_rngB HR.out HLT.out
        cases e2
        rw [he]
        exact h
      have HMW := Lib.hid hmw
      clear hmw
      have HID := Lib.hid (HWF.out e (by rw [he]; exact List.getElem_mem HLT.out))
      have hids := Bk.Bs.ids HW.out.two.bs
      have hokk := fun o ho => (Sw.Bs.okk HW.out.two.bs o ho).2.2.1
      have hfew := Sw.Bs.few HW.out.two.bs
      obtain ⟨f, hf⟩ : ∃ f, f = checkF N M (osOf ss) e := ⟨_, rfl⟩
      have HCH : Hid (∀ W, Below wr.heap.size wr W → Calls Tryz.prog 8 #[.pointer (some ⟨b, 0, none⟩), .agg e.arr] W fun x w' => x = .returned (.int .i64 f) ∧ Below W.heap.size W w') := Lib.hid (fun W hW => by
        rw [hf]; exact Ma.check_any (HW.out.two.bs.ext hW) e HID.out.1 HID.out.2.1 HID.out.2.2.2)
      have HRC : Hid (∀ W, Below wr.heap.size wr W → Calls Tryz.prog 10 #[.pointer (some ⟨rb, 0, none⟩), .agg e.arr] W fun x w' => x = .returned (.int .i64 f) ∧ Below W.heap.size W w') := Lib.hid (fun W hW => by
        rw [hf]; exact rcheck_any (HW.out.two.rf.ext hW) e hids hokk)
      have HFF := Lib.hid hf
      have HOW := Lib.hid (fun W => own_any e W)
      have HID2 := Lib.hid (And.intro hids (And.intro hokk hfew))
      have kk : (f != f) = false := by simp
      clear hlt he hf hids hokk hfew
      go_upto_region 11 with (first | ((with_reducible show wpList _ _ _ (⟨_, .load 43 _, _, _, _, _⟩ :: _) _ _); refine wpList_load_mid (by rfl) _ _ (by rfl) _ _ (by rfl) _ _ hmid Tryz.underlying43 rfl (by kernel_rfl) ?_) | (go_at_call 9; refine (HOW.out _).mono ?_; rintro x w2 ⟨rfl, hb2⟩) | (go_at_call 8; refine (HCH.out _ hb2).mono ?_; rintro x w3 ⟨rfl, hb3⟩) | fail)
      have hb03 := below_ext hb2 hb3
      have hmid3 : w3.rangeAt ab (ao + i * 11) e.cells := Ma.rangeAt_below hmid hb03
      have HM := Lib.hid hmid
      clear hmid hb2 hb3 HCH
      go_upto_region 13 with (first | ((with_reducible show wpList _ _ _ (⟨_, .load 43 _, _, _, _, _⟩ :: _) _ _); refine wpList_load_mid (by rfl) _ _ (by rfl) _ _ (by rfl) _ _ hmid3 Tryz.underlying43 rfl (by kernel_rfl) ?_) | (go_at_call 10; refine (HRC.out _ hb03).mono ?_; rintro x w4 ⟨rfl, hb4⟩) | fail)
      have hb04 := below_ext hb03 hb4
      have hmid4 : w4.rangeAt ab (ao + i * 11) e.cells := Ma.rangeAt_below HM.out hb04
      clear hmid3 hb03 hb4 HRC
      go_wp2_with (first | ((with_reducible show wpList _ _ _ (⟨_, .load 43 _, _, _, _, _⟩ :: _) _ _); refine wpList_load_mid (by rfl) _ _ (by rfl) _ _ (by rfl) _ _ hmid4 Tryz.underlying43 rfl (by kernel_rfl) ?_) | (go_at_call 9; refine (HOW.out _).mono ?_; rintro x w5 ⟨rfl, hb5⟩) | fail)
      have hb05 := below_ext hb04 hb5
      have T5 := HW.out.two.ext hb05
      obtain ⟨k', hk', hfl, hEN⟩ := enter_all T5.bs e HID.out.1 HID.out.2.1 HID.out.2.2.2 HW.out.cnt (by omega)
      have hRN := fun (W : World) (A' : Option Addr) (cap' : Nat) (q : Rk.Rb W rb (N : Int) (M : Int) (osOf ss) A' cap') => renter_any q e HID2.out.1 HID2.out.2.1 (by have := HID2.out.2.2; omega)
      have hft : (enterF N M (osOf ss) e).1.fault = f := by rw [HFF.out]; exact enters_fault
      generalize enterF N M (osOf ss) e = rr at *
      obtain ⟨⟨rf, rfs, rrest, rgone, rwhy⟩, os'⟩ := rr
      simp only at hk' hfl hft
      subst hft
      have HRN := Lib.hid hRN
      clear hRN
      refine hEN.mono ?_
      rintro x w6 ⟨A4, cp4, c4, ss4, rfl, hrd4, hf4, B4, hos4, hs4⟩
      simp only at hrd4 hos4
      obtain ⟨q6, c9⟩ := T5.left hs4
      have hz5 := hb05.size
      have hbw5 := below_ext HW.out.below hb05
      have hbw6 : Below w.heap.size w w6 := hbw5.trans (hs4.below hbw5.size HW.out.nine)
      have nine6 : ∀ q, q < w.heap.size → c4 q = 9 := fun q hq => (hs4.old q (Nat.lt_of_lt_of_le hq hbw5.size)).trans (HW.out.nine q hq)
      have hX6 := Blk.new w6 32 (resArr 0 (.slice none 0 0) Are.ord0 0 0) _ rfl
      have hab : ab < w.heap.size := cell_lt (HMW.out 0 _ rfl)
      have hrw := HW.out.far
      have hr6 := q6.hd.lt
      have HK6 := Lib.hid (And.intro q6 (And.intro c9 (And.intro hbw6 (And.intro nine6 (And.intro B4 (And.intro hos4 (And.intro hrd4 (And.intro hf4 hk'))))))))
      clear q6 c9 hbw5 hbw6 nine6 B4 hos4 hrd4 hf4 hk' hs4 hEN T5 HM hmid4 hb04 hb5 hb05 HOW hz5
      go_upto_region 14 with (first | (((with_reducible show wpList _ _ _ (⟨_, .store 32 _ _, _, _, _, _⟩ :: _) _ _); refine wpList_store_blk (by rfl) 32 _ _ (by rfl) _ _ (by rfl) (by rfl) _ _ hX6 (by kernel_rfl) (by rfl) ?_ ?_; (next => exact res_one ..); intro w7 hX7 hU7); have hb67 : Below w6.heap.size w6 w7 := below_upd (by (repeat (first | with_reducible exact Below.refl _ _ | (with_reducible assumption) | (with_reducible refine below_alloc ?_ _) | (with_reducible refine below_ext (w1 := ?_) ?_ ?_; rotate_left 2; (with_reducible assumption)) | (with_reducible refine Below.setCell ?_ ?_ _; rotate_left; ((try simp) <;> omega)) | (with_reducible refine Below.drew ?_) | (with_reducible refine below_drewN ?_ _) | fail))) (Nat.le_refl _) hU7; simp only [Act.put]) | fail)
      obtain ⟨xb, hxb⟩ : ∃ x, x = w6.heap.size := ⟨_, rfl⟩
      rw [← hxb] at hX7 hr6
      rw [← hxb]
      obtain ⟨q6, c9, hbw6, nine6, B4, hos4, hrd4, hf4, hk'⟩ := HK6.out
      have hbd : Below w7.heap.size w7 w7.drew := (Below.refl _ _).drew
      have hb6d : Below w6.heap.size w6 w7.drew := below_ext hb67 hbd
      have qd := q6.ext hb6d
      have Bd := B4.ext hb6d
      have hrdd := hrd4.below hb6d
      have hfd : ∀ a, A4 = some a → a.block < w7.drew.heap.size := fun a h => by have := (hf4 a h).2; have := hb6d.size; omega
      have hXd := hX7.ext hbd
      have hbwd := below_ext hbw6 hb6d
      refine wp_region_T (S := SM xb ab ao i rf A4 rfs.length cp4 rrest rgone rwhy e) 22 (by kernel_rfl) ?_
      generalize w7.drew = wd at *
      have hS : SM xb ab ao i rf A4 rfs.length cp4 rrest rgone rwhy e wd := ⟨hXd.cell 0, hXd, fun j v hv => (hbwd.cell (p := ⟨ab, ao + i * 11 + j, none⟩) hab).trans (HMW.out j v hv)⟩
      have hxr : xb ≠ rb := by omega
      have hrd := qd.hd.lt
      have HB5 := Lib.hid (back5_any hrdd hfd (cap := cp4) hfl rf rrest rgone rwhy)
      have HKD := Lib.hid (And.intro qd (And.intro Bd (And.intro hXd hbwd)))
      clear q6 hbw6 B4 hrd4 hf4 hX6 hU7 hb67 hX7 hbd hb6d qd Bd hrdd hfd hXd hbwd HK6 hxb
      (refine T_take (i := 0) rfl (by kernel_rfl) (fun _ _ _ _ h => h) hS ?_; apply Exists.intro; refine ⟨.inl ⟨by rfl, fun W hW => ?_⟩, ?_⟩; (next => (obtain ⟨hs1, hs2⟩ := hW; go_simp; first | done | rfl)); simp only [Act.put, List.setIfInBounds_toArray, List.set_cons_zero, List.set_cons_succ])
      (refine T_take (i := 1) rfl (by kernel_rfl) (fun _ _ _ _ h => h) hS ?_; apply Exists.intro; refine ⟨.inl ⟨by rfl, fun W hW => ?_⟩, ?_⟩; (next => (obtain ⟨hs1, hs2⟩ := hW; go_simp; first | done | rfl)); simp only [Act.put, List.setIfInBounds_toArray, List.set_cons_zero, List.set_cons_succ])
      (refine T_take (i := 2) rfl (by kernel_rfl) (fun _ _ _ _ h => h) hS ?_; apply Exists.intro; refine ⟨.inl ⟨by rfl, fun W hW => ?_⟩, ?_⟩; (next => (obtain ⟨hs1, hs2⟩ := hW; go_simp; first | done | rfl)); simp only [Act.put, List.setIfInBounds_toArray, List.set_cons_zero, List.set_cons_succ])
      (refine T_take (i := 3) rfl (by kernel_rfl) (fun _ _ _ _ h => h) hS ?_; apply Exists.intro; refine ⟨.inl ⟨by rfl, fun W hW => ?_⟩, ?_⟩; (next => (obtain ⟨hs1, hs2⟩ := hW; go_simp; first | done | rfl)); simp only [Act.put, List.setIfInBounds_toArray, List.set_cons_zero, List.set_cons_succ])
      (refine T_take (i := 4) rfl (by kernel_rfl) (fun _ _ _ _ h => h) hS ?_; apply Exists.intro; refine ⟨.inl ⟨by rfl, fun W hW => ?_⟩, ?_⟩; (next => (obtain ⟨hs1, hs2⟩ := hW; go_simp; first | done | rfl)); simp only [Act.put, List.setIfInBounds_toArray, List.set_cons_zero, List.set_cons_succ])
      (refine T_take (i := 5) rfl (by kernel_rfl) (fun _ _ _ _ h => h) hS ?_; refine ⟨_, y_load_blk 32 _ rfl (by rfl) xb (by rfl) 32 _ _ (fun W h => h.2.1) Tryz.underlying32 rfl (by kernel_rfl), ?_⟩; simp only [Act.put, List.setIfInBounds_toArray, List.set_cons_zero, List.set_cons_succ])
      (refine T_take (i := 7) rfl (by kernel_rfl) (fun _ _ _ _ h => h) hS ?_; apply Exists.intro; refine ⟨.inl ⟨by rfl, fun W hW => ?_⟩, ?_⟩; (next => (obtain ⟨hs1, hs2⟩ := hW; go_simp; first | done | rfl)); simp only [Act.put, List.setIfInBounds_toArray, List.set_cons_zero, List.set_cons_succ])
      (refine T_take (i := 8) rfl (by kernel_rfl) (fun _ _ _ _ h => h) hS ?_; apply Exists.intro; refine ⟨.inl ⟨by rfl, fun W hW => ?_⟩, ?_⟩; (next => (obtain ⟨hs1, hs2⟩ := hW; go_simp; first | done | rfl)); simp only [Act.put, List.setIfInBounds_toArray, List.set_cons_zero, List.set_cons_succ])
      (refine T_take (i := 9) rfl (by kernel_rfl) (fun _ _ _ _ h => h) hS ?_; apply Exists.intro; refine ⟨.inl ⟨by rfl, fun W hW => ?_⟩, ?_⟩; (next => (obtain ⟨hs1, hs2⟩ := hW; go_simp; first | done | rfl)); simp only [Act.put, List.setIfInBounds_toArray, List.set_cons_zero, List.set_cons_succ])
      (refine T_take (i := 10) rfl (by kernel_rfl) (fun _ _ _ _ h => h) hS ?_; apply Exists.intro; refine ⟨.inl ⟨by rfl, fun W hW => ?_⟩, ?_⟩; (next => (obtain ⟨hs1, hs2⟩ := hW; go_simp; first | done | rfl)); simp only [Act.put, List.setIfInBounds_toArray, List.set_cons_zero, List.set_cons_succ])
      (refine T_take (i := 11) rfl (by kernel_rfl) (fun _ _ _ _ h => h) hS ?_; refine ⟨_, y_load_mid 43 _ rfl (by rfl) ab (ao + i * 11) (by rfl) e.cells _ (fun W h => h.2.2) Tryz.underlying43 rfl (by kernel_rfl), ?_⟩; simp only [Act.put, List.setIfInBounds_toArray, List.set_cons_zero, List.set_cons_succ])
      refine T_all [6] (by kernel_rfl) (by decide) ?_
      intro j hj
      simp only [List.mem_cons, or_false, List.not_mem_nil] at hj
      subst hj
      refine T_op rfl (by rfl) ?_
      refine wp_enterE (ops := #[]) (F := 12) (args := #[.agg (resArr rf (.slice A4 rfs.length cp4) rrest rgone rwhy)]) ?_ ?_
      (next => first | (go_simp; done) | (go_simp; rfl))
      refine HB5.out.mono ?_
      rintro x w8 ⟨⟨A8, cp8, rfl, hrd8, hf8⟩, hb8⟩
      have hX8 := HKD.out.2.2.1.ext hb8
      have q8 := HKD.out.1.ext hb8
      have B8 := HKD.out.2.1.ext hb8
      have hbw8 := below_ext HKD.out.2.2.2 hb8
      have hS8 : SM xb ab ao i rf A4 rfs.length cp4 rrest rgone rwhy e w8 := ⟨hX8.cell 0, hX8, fun j v hv => (hbw8.cell (p := ⟨ab, ao + i * 11 + j, none⟩) hab).trans (HMW.out j v hv)⟩
      refine ⟨_, rfl, .inr hS8, ?_⟩
      simp only [Act.put, List.setIfInBounds_toArray, List.set_cons_zero, List.set_cons_succ]
      refine T_all [12] (by kernel_rfl) (by decide) ?_
      intro j hj
      simp only [List.mem_cons, or_false, List.not_mem_nil] at hj
      subst hj
      refine T_op rfl (by rfl) ?_
      refine wp_enterE (ops := #[]) (F := 13) (args := #[.pointer (some ⟨rb, 0, none⟩), .agg e.arr]) ?_ ?_
      (next => first | (go_simp; done) | (go_simp; rfl))
      refine (HRN.out _ _ _ q8).mono ?_
      rintro x w9 ⟨A9, cp9, A10, cap10, rfl, hrd9, hf9, q9, hf10, hu9⟩
      simp only at hrd9 q9
      have hz8 := hb8.size
      have hzw8 := hbw8.size
      have hX9 := hX8.butL hu9 (by simpa using hxr)
      have hbl9 : Below w.heap.size w8 w9 := hu9.below (C := w.heap.size) (fun g hg => by rw [List.mem_singleton] at hg; omega) hzw8
      have hbw9 := hbw8.trans hbl9
      have B9 := Bk.right_bs B8 c9.1 hu9
      have c10 := Bk.right_c9 B8 c9.2 hf10
      have hrd89 : Rd w9 4 A8 (rfs.map Fl.cells) := hrd8.keep (fun a h => hu9.block _ (hf8 a h).2 (by have := (hf8 a h).1; simp; omega))
      have hS9 : SM xb ab ao i rf A4 rfs.length cp4 rrest rgone rwhy e w9 := ⟨hX9.cell 0, hX9, fun j v hv => (hbw9.cell (p := ⟨ab, ao + i * 11 + j, none⟩) hab).trans (HMW.out j v hv)⟩
      have HSA := Lib.hid (rsame5_any hrd89 hrd9 (cap := cp8) (cap' := cp9) hfl rf rrest rgone rwhy)
      clear hS hS8
      refine ⟨_, rfl, .inr hS9, ?_⟩
      simp only [Act.put, List.setIfInBounds_toArray, List.set_cons_zero, List.set_cons_succ]
      refine T_all [13] (by kernel_rfl) (by decide) ?_
      intro j hj
      simp only [List.mem_cons, or_false, List.not_mem_nil] at hj
      subst hj
      refine T_op rfl (by rfl) ?_
      refine wp_enterE (ops := #[]) (F := 11) (args := #[.agg (resArr rf (.slice A8 rfs.length cp8) rrest rgone rwhy), .agg (resArr rf (.slice A9 rfs.length cp9) rrest rgone rwhy)]) ?_ ?_
      (next => first | (go_simp; done) | (go_simp; rfl))
      refine HSA.out.mono ?_
      rintro x w10 ⟨rfl, hb10⟩
      have hX10 := hX9.ext hb10
      have hbw10 := below_ext hbw9 hb10
      have hS : SM xb ab ao i rf A4 rfs.length cp4 rrest rgone rwhy e w10 := ⟨hX10.cell 0, hX10, fun j v hv => (hbw10.cell (p := ⟨ab, ao + i * 11 + j, none⟩) hab).trans (HMW.out j v hv)⟩
      have HLK := Lib.hid (like_any (B9.ext hb10) (q9.ext hb10) hos4)
      refine ⟨_, rfl, .inr hS, ?_⟩
      simp only [Act.put, List.setIfInBounds_toArray, List.set_cons_zero, List.set_cons_succ]
      (refine T_take (i := 14) rfl (by kernel_rfl) (fun _ _ _ _ h => h) hS ?_; apply Exists.intro; refine ⟨.inl ⟨by rfl, fun W hW => ?_⟩, ?_⟩; (next => (obtain ⟨hs1, hs2⟩ := hW; go_simp; first | done | rfl)); simp only [Act.put, List.setIfInBounds_toArray, List.set_cons_zero, List.set_cons_succ])
      (refine T_take (i := 15) rfl (by kernel_rfl) (fun _ _ _ _ h => h) hS ?_; apply Exists.intro; refine ⟨.inl ⟨by rfl, fun W hW => ?_⟩, ?_⟩; (next => (obtain ⟨hs1, hs2⟩ := hW; go_simp; first | done | rfl)); simp only [Act.put, List.setIfInBounds_toArray, List.set_cons_zero, List.set_cons_succ])
      (refine T_take (i := 16) rfl (by kernel_rfl) (fun _ _ _ _ h => h) hS ?_; apply Exists.intro; refine ⟨.inl ⟨by rfl, fun W hW => ?_⟩, ?_⟩; (next => (obtain ⟨hs1, hs2⟩ := hW; go_simp; first | done | rfl)); simp only [Act.put, List.setIfInBounds_toArray, List.set_cons_zero, List.set_cons_succ])
      (refine T_take (i := 17) rfl (by kernel_rfl) (fun _ _ _ _ h => h) hS ?_; apply Exists.intro; refine ⟨.inl ⟨by rfl, fun W hW => ?_⟩, ?_⟩; (next => (obtain ⟨hs1, hs2⟩ := hW; go_simp; first | done | rfl)); simp only [Act.put, List.setIfInBounds_toArray, List.set_cons_zero, List.set_cons_succ])
      (refine T_take (i := 18) rfl (by kernel_rfl) (fun _ _ _ _ h => h) hS ?_; apply Exists.intro; refine ⟨.inl ⟨by rfl, fun W hW => ?_⟩, ?_⟩; (next => (obtain ⟨hs1, hs2⟩ := hW; go_simp; first | done | rfl)); simp only [Act.put, List.setIfInBounds_toArray, List.set_cons_zero, List.set_cons_succ])
      refine T_all [19] (by kernel_rfl) (by decide) ?_
      intro j hj
      simp only [List.mem_cons, or_false, List.not_mem_nil] at hj
      subst hj
      refine T_op rfl (by rfl) ?_
      refine wp_enterE (ops := #[]) (F := 14) (args := #[.pointer (some ⟨b, 0, none⟩), .pointer (some ⟨rb, 0, none⟩)]) ?_ ?_
      (next => first | (go_simp; done) | (go_simp; rfl))
      refine HLK.out.mono ?_
      rintro x w11 ⟨rfl, hb11⟩
      have hX11 := hX10.ext hb11
      have hbw11 := below_ext hbw10 hb11
      have hS11 : SM xb ab ao i rf A4 rfs.length cp4 rrest rgone rwhy e w11 := ⟨hX11.cell 0, hX11, fun j v hv => (hbw11.cell (p := ⟨ab, ao + i * 11 + j, none⟩) hab).trans (HMW.out j v hv)⟩
      have W11 : Hid (Wt w w11 c4 b rb N M k' (i + 1) ss4 A10 cap10) := Lib.hid ⟨⟨B9.ext (below_ext hb10 hb11), by rw [hos4]; exact q9.ext (below_ext hb10 hb11), c9.1, c10⟩, by rw [hos4]; exact hk', nine6, hbw11, hrw⟩
      refine ⟨_, rfl, .inr hS11, ?_⟩
      simp only [Act.put, List.setIfInBounds_toArray, List.set_cons_zero, List.set_cons_succ]
      clear hS
      have hS := hS11
      (refine T_take (i := 20) rfl (by kernel_rfl) (fun _ _ _ _ h => h) hS ?_; apply Exists.intro; refine ⟨.inl ⟨by rfl, fun W hW => ?_⟩, ?_⟩; (next => (obtain ⟨hs1, hs2⟩ := hW; go_simp; first | done | rfl)); simp only [Act.put, List.setIfInBounds_toArray, List.set_cons_zero, List.set_cons_succ])
      (refine T_take (i := 21) rfl (by kernel_rfl) (fun _ _ _ _ h => h) hS ?_; apply Exists.intro; refine ⟨.inl ⟨by rfl, fun W hW => ?_⟩, ?_⟩; (next => (obtain ⟨hs1, hs2⟩ := hW; go_simp; first | done | rfl)); simp only [Act.put, List.setIfInBounds_toArray, List.set_cons_zero, List.set_cons_succ])
      refine T_done (by kernel_rfl) ?_
      clear hS hS11 hX11 hX10 hX9 hX8 hbw11 hbw10 hbw9 hbw8 hb11 hb10 hb8 hu9 hbl9 B9 B8 q8 q9 c10 c9 hrd8 hrd9 hrd89 hf8 hf9 hf10 HKD HSA HLK HB5 nine6 hos4 hk'
      go_wp2_with fail
      go_roundw
      case rel => exact ⟨i + 1, k', c4, ss4, A10, cap10, by go_num, HLT.out, W11⟩
      case measure => (have := HLT.out; simp [intOf]; omega)
    · obtain rfl : i = l.length := by omega
      clear hlt
      go_wp2_with (first | (go_at_call 4; refine (alive_any _).mono ?_; rintro x w2 ⟨rfl, hb2⟩) | fail)
      go_ret
      exact ⟨rfl, below_ext HW.out.below hb2⟩
theorem enters_law (a b : Int) (l : List En) (hwf : ∀ e ∈ l, Idx.Wf e.o.id ∧ I64 e.o.price ∧ I64 e.o.qty) (A : Option Addr) (cap : Nat) (w : World) (hr : Rd w 11 A (l.map En.cells)) (hml : l.length ≤ maxLen) :
    Calls Tryz.prog 3 #[.int .i64 a, .int .i64 b, .slice A l.length cap] w fun x w' => x = .returned (.bool true) ∧ Below w.heap.size w w' := by
  by_cases h40 : l.length ≤ 40
  · by_cases hg : 1 ≤ a ∧ a ≤ 500 ∧ 1 ≤ b ∧ b ≤ 200
    · obtain ⟨N, rfl⟩ : ∃ N : Nat, a = (N : Int) := ⟨a.toNat, by omega⟩
      obtain ⟨M, rfl⟩ : ∃ M : Nat, b = (M : Int) := ⟨b.toNat, by omega⟩
      exact enters_main N M (by omega) (by omega) l hwf A cap w hr h40
    · exact enters_bad a b (by omega) l.length h40 A cap w
  · unfold maxLen at hml
    have h41 : (40 : Int) < l.length := by omega
    clear hr hwf
    go_enter Tryz.func3, Tryz.ntmps3
    go_wp2_with (first | (go_at_call 4; refine (alive_any _).mono ?_; rintro x w2 ⟨rfl, hb2⟩) | fail)
    go_ret
    exact ⟨rfl, hb2⟩
theorem fitEn {vs : List Value} (h : fits (List.replicate 11 K) vs) : ∃ e : En, vs = e.cells ∧ Idx.Wf e.o.id ∧ I64 e.o.price ∧ I64 e.o.qty := by
  obtain ⟨a0, _, rfl, b0, h⟩ := fitInt h
  obtain ⟨a1, _, rfl, b1, h⟩ := fitInt h
  obtain ⟨a2, _, rfl, b2, h⟩ := fitInt h
  obtain ⟨a3, _, rfl, b3, h⟩ := fitInt h
  obtain ⟨a4, _, rfl, b4, h⟩ := fitInt h
  obtain ⟨a5, _, rfl, b5, h⟩ := fitInt h
  obtain ⟨a6, _, rfl, b6, h⟩ := fitInt h
  obtain ⟨a7, _, rfl, b7, h⟩ := fitInt h
  obtain ⟨a8, _, rfl, b8, h⟩ := fitInt h
  obtain ⟨a9, _, rfl, b9, h⟩ := fitInt h
  obtain ⟨a10, _, rfl, b10, h⟩ := fitInt h
  obtain rfl := fitNil h
  exact ⟨⟨⟨a0, a1, a2, a3, a4, a5, a6⟩, a7, a8, a9, a10⟩, rfl, WalkArith.wf_i64 b0, b3, b4⟩
open Go.ChangeShapes Go.WideShapes Go.ChangeAt Go.Deep
set_option maxRecDepth 100000 in
theorem argsMatchEnters (H : Type) (enc : TypeId × Value → H) (W : World) (args : Array Value) (hargs : Args Tryz.checked H enc [3, 3, 22] W args) :
    Calls Tryz.prog 3 args W fun e W' => e = .returned (.bool true) ∧ Below W.heap.size W W' := by
  obtain ⟨base, ds, p, hval, hA⟩ := hargs
  obtain ⟨v0, vs0, d0, ds0, p0, q0, hargs, rfl, rfl, h0, r0⟩ := trodAll_cons hA
  obtain ⟨v1, vs1, d1, ds1, p1, q1, rfl, rfl, rfl, h1, r1⟩ := trodAll_cons r0
  obtain ⟨v2, vs2, d2, ds2, p2, q2, rfl, rfl, rfl, h2, r2⟩ := trodAll_cons r1
  obtain ⟨rfl, rfl, rfl⟩ := trodAll_nil r2
  obtain rfl : args = #[v0, v1, v2] := by cases args; simp_all
  obtain ⟨a, rfl, _, _, wa⟩ := open_int Tryz.underlying3 (hval 0 _ v0 rfl rfl) h0
  obtain ⟨b, rfl, _, _, wb⟩ := open_int Tryz.underlying3 (hval 1 _ v1 rfl rfl) h1
  obtain ⟨A, la, ca, rows, rfl, hla, hlc, hca, hfa, ha⟩ := open_rows (ks := List.replicate 11 K) 5 Tryz.underlying22 (by kernel_rfl) (by kernel_rfl) (by decide) (hval 2 _ v2 rfl rfl) h2
  obtain ⟨xs, rfl, hwf⟩ := rowsOf (fun vs h => fitEn h) rows hfa
  rw [List.length_map] at hla
  subst hla
  exact enters_law a b xs hwf A ca W ha (by omega)
theorem ownMatchEnters : ownKnob Tryz.prog.godebug = none := by kernel_rfl
theorem laidMatchEnters : laidOutB Tryz.prog = true := by kernel_rfl
set_option maxRecDepth 100000 in
theorem liftedMatchEnters (os : Os) (started : os.Started) (H : Type) (enc : TypeId × Value → H) :
    ReturnsInHanded {} Tryz.checked os 3 .any (Rows.matchEntersSpec.pre6 enc Tryz.prog Tryz.f3 Rows.matchEntersRow.domain false) (Rows.matchEntersSpec.post enc Tryz.prog Tryz.f3 false true false false) :=
  law_lifted (C := Tryz.checked) (ts := [3, 3, 22]) (tb := 4) ownMatchEnters laidMatchEnters started (by kernel_rfl) Tryz.func3 (by kernel_rfl)
    (ChangeSpec.witness6 (enc := enc) (C := Tryz.checked) false ⟨#[], #[.int .i64 0, .int .i64 0, .slice none 0 0], []⟩ 8 (by kernel_rfl) (by kernel_rfl) (by kernel_rfl) (by kernel_rfl))
    rfl (by kernel_rfl) Tryz.underlying4 (by kernel_rfl)
    (fun ds h => by
      match ds, h with
      | [d0, d1, d2], _ => rfl)
    (fun W args h => argsMatchEnters H enc W args h)
theorem provedMatchEnters : Rows.MatchEntersSaid :=
  OpenClaim.holds_of_wide 3 Tryz.f3 rfl rfl rfl rfl rfl rfl rfl ⟨rfl, rfl, rfl, rfl, rfl⟩ rfl rfl rfl rfl rfl (by kernel_rfl) Tryz.func3 (by kernel_rfl)
    (of_decide_eq_true (by kernel_rfl)) (by unfold Func.isWrapper; first | (rw [if_pos (by decide +kernel)]; kernel_rfl) | (rw [if_neg (by decide +kernel)]; exact ⟨rfl, rfl⟩))
    (fun os started H enc _ => liftedMatchEnters os started H enc)
#print axioms provedMatchEnters
end Mr
end Go.Proofs.YtbnappiaomiciaaGreat
