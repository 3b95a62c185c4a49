/- This text proves CurveTurns: whatever the input, the law returns true. It has no conditions. -/
import Derived.Test.YtacpjpkhmdcagaaCuT
import Derived.Test.YtacpjpkhmdcagaaCurvePoints
namespace Go.Proofs.Ytacpjpkhmdcagaa
set_option linter.unusedVariables false
open Go.RowKit
namespace Cu
set_option maxHeartbeats 4000000
set_option maxRecDepth 10000
open Bk (bkO osOf)
theorem turns_law (l : List Ord) (p q : Int) (hwf : ∀ o ∈ l, Idx.Wf o.id) (A : Option Addr) (cap : Nat) (w : World) (hr : Rd w 7 A (l.map Ord.cells)) (hml : l.length ≤ maxLen) :
    Calls Try.prog 5 #[.slice A l.length cap, .int .i64 p, .int .i64 q] w fun e w' => e = .returned (.bool true) ∧ Below w.heap.size w w' := by
  unfold maxLen at hml
  have HR := Lib.hid hr
  clear hr
  have hT1 : Blk (w.alloc (.cells #[.bool false] 4)) w.heap.size 4 #[.bool false] := Blk.new _ _ _ _ rfl
  have hb1 : Below w.heap.size w (w.alloc (.cells #[.bool false] 4)) := by (repeat (first | with_reducible exact Below.refl _ _ | (with_reducible assumption) | (with_reducible refine below_alloc ?_ _) | (with_reducible refine below_ext (w1 := ?_) ?_ ?_; rotate_left 2; (with_reducible assumption)) | (with_reducible refine Below.setCell ?_ ?_ _; rotate_left; ((try simp) <;> omega)) | (with_reducible refine Below.drew ?_) | (with_reducible refine below_drewN ?_ _) | fail))
  refine calls_of_wp_marks Try.func5 rfl ?_
  simp only [Try.ntmps5, List.size_toArray, List.length_cons, List.length_nil, Nat.reduceAdd, Nat.reduceSub, Array.replicate_succ, Array.replicate_zero, List.push_toArray, List.append_toArray, List.nil_append, List.cons_append]
  generalize hw1 : w.alloc (.cells #[.bool false] 4) = w1 at *
  have HW1 := Lib.hid hw1
  clear hw1
  go_wp2_with fail
  rw [HW1.out]
  refine (alive_any _).mono ?_
  rintro e w2 ⟨rfl, hb2⟩
  have hT2 := hT1.ext hb2
  have hB2 := below_ext hb1 hb2
  clear hT1 hb1 hb2 HW1
  by_cases h60 : 60 < l.length
  · have e1 : (60 : Int) < (l.length : Int) := by omega
    go_wp2_with (first | ((with_reducible show wpList _ _ _ (⟨_, .store _ _ _, _, _, _, _⟩ :: _) _ _); refine wpList_store_fld (by rfl) _ _ _ (by rfl) _ _ (by rfl) _ (by rfl) _ _ hT2 ?_ ?_ (by rfl) (by rfl) ?_; (next => first | omega | ((try simp) <;> omega)); (next => kernel_rfl); intro w4 hT4 hU4) | fail)
    have hcc : w4.cell? ⟨w.heap.size, 0, none⟩ = some (.bool true) := hT4.cell 0
    exact bodyPostM_none (v := .bool true) rfl (by simp [results, Try.results5, go_sem, hcc]) ⟨rfl, below_upd hB2 (by omega) hU4⟩
  have h61 : ¬ (60 : Int) < l.length := by omega
  by_cases hpq : q < p
  · clear HR hwf h60
    go_wp2_with (first | ((with_reducible show wpList _ _ _ (⟨_, .store _ _ _, _, _, _, _⟩ :: _) _ _); refine wpList_store_fld (by rfl) _ _ _ (by rfl) _ _ (by rfl) _ (by rfl) _ _ hT2 ?_ ?_ (by rfl) (by rfl) ?_; (next => first | omega | ((try simp) <;> omega)); (next => kernel_rfl); intro w4 hT4 hU4) | fail)
    have hcc : w4.cell? ⟨w.heap.size, 0, none⟩ = some (.bool true) := hT4.cell 0
    exact bodyPostM_none (v := .bool true) rfl (by simp [results, Try.results5, go_sem, hcc]) ⟨rfl, below_upd hB2 (by omega) hU4⟩
  have HB := Lib.hid (Bk.books_any l hwf A cap w2 (HR.out.below hB2) (by omega))
  clear HR hwf h60
  go_wp2_with fail
  refine HB.out.mono ?_
  rintro e w3 ⟨b, rb, c, ss, A1, cap1, rfl, W3⟩
  have HOF := Lib.hid (of_any W3.two.bs)
  have hosb := Sw.Bs.okk W3.two.bs
  have hqn : ∀ o ∈ osOf ss, 0 ≤ o.qty := fun o ho => by have := (hosb o ho).2.2.1; omega
  have hdm := dem_mono hqn (show p ≤ q by omega)
  have hsm := sup_mono hqn (show p ≤ q by omega)
  have hT3 := hT2.ext W3.below
  have hB3 := below_ext hB2 W3.below
  have hTl := hT3.lt
  clear HB W3 hT2 hB2 hosb hqn
  go_wp2_with fail
  refine HOF.out.mono ?_
  rintro e w4 ⟨cb, lp, A8, cap8, rfl, C4, AL, hcb, hb4⟩
  have HA := Lib.hid (at_any C4 AL p)
  have HA2 := Lib.hid (fun W (hW : Below w4.heap.size w4 W) => at_any (C4.ext hW) AL q)
  obtain ⟨x1, hx1⟩ : ∃ z, z = dem (osOf ss) p := ⟨_, rfl⟩
  obtain ⟨x2, hx2⟩ : ∃ z, z = sup (osOf ss) p := ⟨_, rfl⟩
  obtain ⟨y1, hy1⟩ : ∃ z, z = dem (osOf ss) q := ⟨_, rfl⟩
  obtain ⟨y2, hy2⟩ : ∃ z, z = sup (osOf ss) q := ⟨_, rfl⟩
  rw [← hx1, ← hx2] at HA
  rw [← hy1, ← hy2] at HA2
  rw [← hx1, ← hy1] at hdm
  rw [← hx2, ← hy2] at hsm
  have hT4 := hT3.ext hb4
  have hB4 := below_ext hB3 hb4
  clear HOF C4 AL hcb hx1 hx2 hy1 hy2 hT3
  go_wp2_with fail
  refine HA.out.mono ?_
  rintro e w5 ⟨rfl, hb5⟩
  have hT5 := hT4.ext hb5
  have hB5 := below_ext hB4 hb5
  have HA3 := Lib.hid (HA2.out w5 hb5)
  clear HA HA2 hT4 hB4 hb5
  go_wp2_with fail
  refine HA3.out.mono ?_
  rintro e w6 ⟨rfl, hb6⟩
  have hT6 := hT5.ext hb6
  have hB6 := below_ext hB5 hb6
  have hTl6 := hT6.lt
  have hX0 : Blk ((w6.alloc (.cells #[.int .i64 0, .int .i64 0, .int .i64 0] 26)).alloc (.cells #[.int .i64 0, .int .i64 0, .int .i64 0] 26)) w6.heap.size 26 #[.int .i64 0, .int .i64 0, .int .i64 0] := (Blk.new w6 _ _ _ rfl).alloc _
  have hY0 : Blk ((w6.alloc (.cells #[.int .i64 0, .int .i64 0, .int .i64 0] 26)).alloc (.cells #[.int .i64 0, .int .i64 0, .int .i64 0] 26)) (w6.heap.size + 1) 26 #[.int .i64 0, .int .i64 0, .int .i64 0] := Blk.new _ _ _ _ (sz_alloc _ _)
  have hb60 : Below w6.heap.size w6 ((w6.alloc (.cells #[.int .i64 0, .int .i64 0, .int .i64 0] 26)).alloc (.cells #[.int .i64 0, .int .i64 0, .int .i64 0] 26)) := by (repeat (first | with_reducible exact Below.refl _ _ | (with_reducible assumption) | (with_reducible refine below_alloc ?_ _) | (with_reducible refine below_ext (w1 := ?_) ?_ ?_; rotate_left 2; (with_reducible assumption)) | (with_reducible refine Below.setCell ?_ ?_ _; rotate_left; ((try simp) <;> omega)) | (with_reducible refine Below.drew ?_) | (with_reducible refine below_drewN ?_ _) | fail))
  clear HA3 hT5 hB5 hb6
  go_wp2_with (first | (((with_reducible show wpList _ _ _ (⟨_, .store 26 _ _, _, _, _, _⟩ :: _) _ _); refine wpList_store_blk (by rfl) 26 _ _ (by rfl) _ _ (by rfl) (by rfl) _ _ hX0 (by kernel_rfl) (by rfl) ?_ ?_; (next => exact pt_one ..); intro w7 hX7 hU7); have hY7 := hY0.upd (show w6.heap.size + 1 ≠ w6.heap.size by omega) hU7; have hb67 := below_upd hb60 (Nat.le_refl _) hU7; clear hX0 hY0 hU7) | (((with_reducible show wpList _ _ _ (⟨_, .store 26 _ _, _, _, _, _⟩ :: _) _ _); refine wpList_store_blk (by rfl) 26 _ _ (by rfl) _ _ (by rfl) (by rfl) _ _ hY7 (by kernel_rfl) (by rfl) ?_ ?_; (next => exact pt_one ..); intro w8 hY8 hU8); have hX8 := hX7.upd (show w6.heap.size ≠ w6.heap.size + 1 by omega) hU8; have hb68 := below_upd hb67 (Nat.le_succ _) hU8; clear hX7 hY7 hU8) | fail)
  obtain ⟨xb, hxb⟩ : ∃ b, b = w6.heap.size := ⟨_, rfl⟩
  have hz8 := hb68.size
  rw [← hxb] at hX8 hY8 hTl6 hz8 ⊢
  have hXl := hX8.lt
  have hYl := hY8.lt
  have hT8 := hT6.ext hb68
  have hB8 := below_ext hB6 hb68
  clear hxb hb67 hb68 hT6 hB6
  refine (points_nil _).mono ?_
  rintro e w9 ⟨rfl, rfl⟩
  go_wp2_with fail
  refine wp_rangeFunc_none (gf := 27) (by rfl) (enters_of Try.func27 (by kernel_rfl) rfl) (fun l W _ => pointsn_app l W) ?_
  intro D W hD hb9 hK
  have hX9 := hX8.ext hb9
  have hY9 := hY8.ext hb9
  have hT9 := hT8.ext hb9
  have hB9 := below_ext hB8 hb9
  have hDl : D < W.heap.size := (Array.getElem?_eq_some_iff.1 hK).1
  have HK := Lib.hid hK
  have HON := Lib.hid (of_nil W)
  have hz9 := hb9.size
  clear hX8 hY8 hT8 hB8 hb9 hK
  go_wp2_with fail
  refine HON.out.mono ?_
  rintro e w10 ⟨cn, ln, An, capn, rfl, Cn, ALn, hcn, hb10⟩
  obtain rfl := all_nil ALn
  go_wp2_with fail
  refine (points_any Cn).mono ?_
  rintro e w11 ⟨rfl, hQ11, hb11⟩
  have hQ : Blk w11 w10.heap.size 63 #[.slice An 0 capn] := hQ11
  have hX11 := (hX9.ext hb10).ext hb11
  have hY11 := (hY9.ext hb10).ext hb11
  have hT11 := (hT9.ext hb10).ext hb11
  have hB11 := below_ext (below_ext hB9 hb10) hb11
  have HK11 : Hid (w11.heap[D]? = some (.deferred (some []))) := Lib.hid ((hb11.block D (by have := hb10.size; omega)).trans ((hb10.block D hDl).trans HK.out))
  have hz11 : W.heap.size ≤ w11.heap.size := by have := hb10.size; have := hb11.size; omega
  clear HON Cn ALn hcn hQ11 hX9 hY9 hT9 hB9 hb10 hb11 HK
  go_wp2_with fail
  refine wp_rangeFunc_none (gf := 53) (by rfl) (enters_of Try.func53 (by kernel_rfl) rfl) (fun l W hW => vals_none _ hQ l W hW) ?_
  intro D2 W2 hD2 hb12 hK2
  have hX12 := hX11.ext hb12
  have hT12 := hT11.ext hb12
  have hB12 := below_ext hB11 hb12
  have cx1 : W2.cell? ⟨xb, 1, none⟩ = some (.int .i64 x1) := hX12.cell 1
  have cx2 : W2.cell? ⟨xb, 2, none⟩ = some (.int .i64 x2) := hX12.cell 2
  have cy1 : W2.cell? ⟨xb + 1, 1, none⟩ = some (.int .i64 y1) := (hY11.ext hb12).cell 1
  have cy2 : W2.cell? ⟨xb + 1, 2, none⟩ = some (.int .i64 y2) := (hY11.ext hb12).cell 2
  have hD2l : D2 < W2.heap.size := (Array.getElem?_eq_some_iff.1 hK2).1
  have HKK : Hid (W2.heap[D]? = some (.deferred (some [])) ∧ W2.heap[D2]? = some (.deferred (some []))) := Lib.hid ⟨(hb12.block D (by omega)).trans HK11.out, hK2⟩
  have hz12 := hb12.size
  clear hQ hX11 hY11 hT11 hB11 hb12 HK11 hK2 hX12
  go_wp2_with fail
  refine (at_nil p _).mono ?_
  rintro e w13 ⟨rfl, hb13⟩
  clear cx1 cx2 cy1 cy2
  go_wp2_with (first | ((with_reducible show wpList _ _ _ (⟨_, .build _ _, _, _, _, _⟩ :: _) _ _); refine wpList_build_is (by rfl) _ _ (by rfl) ?_ ?_ ?_; rotate_left; (next => simp only [List.map_toArray, List.map_cons, List.map_nil, go_sem]; exact built_p1 ..)) | ((with_reducible show wpList _ _ _ (⟨_, .binOp .eql 26 _ _ _, _, _, _, _⟩ :: _) _ _); refine wpList_eq_pt (by rfl) _ _ _ (by rfl) _ _ (by rfl) (by rfl) _ (ptEq_refl _) ?_) | fail)
  refine (prices_nil p q _).mono ?_
  rintro e w14 ⟨rfl, hb14⟩
  go_wp2_with fail
  refine (of_nil _).mono ?_
  rintro e w15 ⟨cm, lm, Am, capm, rfl, Cm, ALm, hcm, hb15⟩
  have HAM : Hid (Calls Try.prog 17 #[.pointer (some ⟨cm, 0, none⟩), .int .i64 q] w15 fun x w' => x = .returned (.agg (Pt.mk q 0 0).arr) ∧ Below w15.heap.size w15 w') := Lib.hid (at_any Cm ALm q)
  have hb125 := below_ext hb13 (below_ext hb14 hb15)
  have hz13 := hb13.size
  have hz14 := hb14.size
  have hz15 := hb15.size
  clear Cm ALm hcm hb13 hb14 hb15
  go_wp2_with fail
  refine HAM.out.mono ?_
  rintro e w16 ⟨rfl, hb16⟩
  have hT16 := (hT12.ext hb125).ext hb16
  have hb126 := below_ext hb125 hb16
  have hB16 := below_ext hB12 hb126
  clear HAM hb125 hb16 hT12 hB12
  go_wp2_with (first | ((with_reducible show wpList _ _ _ (⟨_, .build _ _, _, _, _, _⟩ :: _) _ _); refine wpList_build_is (by rfl) _ _ (by rfl) ?_ ?_ ?_; rotate_left; (next => simp only [List.map_toArray, List.map_cons, List.map_nil, go_sem]; exact built_p1 ..)) | ((with_reducible show wpList _ _ _ (⟨_, .binOp .eql 26 _ _ _, _, _, _, _⟩ :: _) _ _); refine wpList_eq_pt (by rfl) _ _ _ (by rfl) _ _ (by rfl) (by rfl) _ (ptEq_refl _) ?_) | ((with_reducible show wpList _ _ _ (⟨_, .store _ _ _, _, _, _, _⟩ :: _) _ _); refine wpList_store_fld (by rfl) _ _ _ (by rfl) _ _ (by rfl) _ (by rfl) _ _ hT16 ?_ ?_ (by rfl) (by rfl) ?_; (next => first | omega | ((try simp) <;> omega)); (next => kernel_rfl); intro w17 hT17 hU17) | fail)
  have hT18 : Blk w17 w.heap.size 4 #[.bool true] := by
    simpa [go_sem] using hT17
  have hB17 := below_upd hB16 (Nat.le_refl _) hU17
  have hDD : ∀ E ∈ [D2, D], w.heap.size < E ∧ w17.heap[E]? = some (.deferred (some [])) := by
    intro E hE
    rcases List.mem_cons.1 hE with rfl | hE
    · exact ⟨by omega, (hU17.block _ (by omega)).trans ((hb126.block _ hD2l).trans HKK.out.2)⟩
    · rw [List.mem_singleton.1 hE]
      exact ⟨by omega, (hU17.block _ (by omega)).trans ((hb126.block _ (by omega)).trans HKK.out.1)⟩
  refine bodyPostM_many (ds := [D2, D]) rfl (by simp; omega) (fun E hE => (hDD E hE).2) (fun w' mk => ⟨.bool true, ?_, rfl, ?_⟩)
  · have hcc : w'.cell? ⟨w.heap.size, 0, none⟩ = some (.bool true) := (World.cell?_of_block (mk.block w.heap.size (fun h => Nat.lt_irrefl _ (hDD _ h).1))).trans (hT18.cell 0)
    simp [results, Try.results5, go_sem, hcc]
  · exact ⟨mk.os.trans hB17.os, mk.tape.trans hB17.tape, mk.output.trans hB17.output, by rw [mk.size]; exact hB17.size, fun k hk => (mk.block k (fun h => by have := (hDD _ h).1; omega)).trans (hB17.block k hk)⟩
open Go.ChangeShapes Go.WideShapes Go.ChangeAt Go.Deep
set_option maxRecDepth 100000 in
theorem argsCurveTurns (H : Type) (enc : TypeId × Value → H) (W : World) (args : Array Value) (hargs : Args Try.checked H enc [30, 2, 2] W args) :
    Calls Try.prog 5 args W fun e W' => e = .returned (.bool true) ∧ Below W.heap.size W W' := by
  obtain ⟨base, ds, p, hval, hA⟩ := hargs
  obtain ⟨v0, vs0, d0, ds0, p0, q0, hargs, rfl, rfl, h0, r0⟩ := trodAll_cons hA
  obtain ⟨v1, vs1, d1, ds1, p1, q1, rfl, rfl, rfl, h1, r1⟩ := trodAll_cons r0
  obtain ⟨v2, vs2, d2, ds2, p2, q2, rfl, rfl, rfl, h2, r2⟩ := trodAll_cons r1
  obtain ⟨rfl, rfl, rfl⟩ := trodAll_nil r2
  obtain rfl : args = #[v0, v1, v2] := by cases args; simp_all
  obtain ⟨A, la, ca, rows, rfl, hla, hlc, hca, hfa, ha⟩ := open_rows (ks := List.replicate 7 K) 5 Try.underlying30 (by kernel_rfl) (by kernel_rfl) (by decide) (hval 0 _ v0 rfl rfl) h0
  obtain ⟨xs, rfl, hwf⟩ := rowsOf (fun vs h => fitOrdW h) rows hfa
  obtain ⟨p, rfl, _⟩ := open_int Try.underlying2 (hval 1 _ v1 rfl rfl) h1
  obtain ⟨q, rfl, _⟩ := open_int Try.underlying2 (hval 2 _ v2 rfl rfl) h2
  rw [List.length_map] at hla
  subst hla
  exact turns_law xs p q hwf A ca W ha (by omega)
theorem ownCurveTurns : ownKnob Try.prog.godebug = none := by kernel_rfl
theorem laidCurveTurns : laidOutB Try.prog = true := by kernel_rfl
set_option maxRecDepth 100000 in
theorem liftedCurveTurns (os : Os) (started : os.Started) (H : Type) (enc : TypeId × Value → H) :
    ReturnsInHanded {} Try.checked os 5 .any (Rows.curveTurnsSpec.pre6 enc Try.prog Try.f5 Rows.curveTurnsRow.domain false) (Rows.curveTurnsSpec.post enc Try.prog Try.f5 false true false false) :=
  law_lifted (C := Try.checked) (ts := [30, 2, 2]) (tb := 4) ownCurveTurns laidCurveTurns started (by kernel_rfl) Try.func5 (by kernel_rfl)
    (ChangeSpec.witness6 (enc := enc) (C := Try.checked) false ⟨#[], #[.slice none 0 0, .int .i64 0, .int .i64 0], []⟩ 8 (by kernel_rfl) (by kernel_rfl) (by kernel_rfl) (by kernel_rfl))
    rfl (by kernel_rfl) Try.underlying4 (by kernel_rfl)
    (fun ds h => by
      match ds, h with
      | [d0, d1, d2], _ => rfl)
    (fun W args h => argsCurveTurns H enc W args h)
theorem provedCurveTurns : Rows.CurveTurnsSaid :=
  OpenClaim.holds_of_wide 5 Try.f5 rfl rfl rfl rfl rfl rfl rfl ⟨rfl, rfl, rfl, rfl, rfl⟩ rfl rfl rfl rfl rfl (by kernel_rfl) Try.func5 (by kernel_rfl)
    (of_decide_eq_true (by kernel_rfl)) (by unfold Func.isWrapper; first | (rw [if_pos (by decide +kernel)]; kernel_rfl) | (rw [if_neg (by decide +kernel)]; exact ⟨rfl, rfl⟩))
    (fun os started H enc _ => liftedCurveTurns os started H enc)
#print axioms provedCurveTurns
end Cu
end Go.Proofs.Ytacpjpkhmdcagaa
