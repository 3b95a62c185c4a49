/- This text proves CurveNumbers: what any point trades and what is left over are the document's. It has no conditions but those that it states. -/
import Derived.Test.YtacpjpkhmdcagaaCuN
namespace Go.Proofs.Ytacpjpkhmdcagaa
set_option linter.unusedVariables false
open Go.RowKit
namespace Cu
set_option maxHeartbeats 4000000
set_option maxRecDepth 10000
theorem built_rp (x y z : Int) : Try.prog.built 24 [(0, .int .i64 x), (1, .int .i64 y), (2, .int .i64 z)] = some (Pt.mk x y z).arr := by kernel_rfl
theorem numbers_law (p d s : Int) (w : World) : Calls Try.prog 3 #[.int .i64 p, .int .i64 d, .int .i64 s] w fun e w' => e = .returned (.bool true) ∧ Below w.heap.size w w' := by
  have HAL := Lib.hid (fun W => alive_any W)
  by_cases h : d < 0 ∨ s < 0
  · by_cases h1 : d < 0
    · have e1 : decide (d < 0) = true := decide_eq_true h1
      clear h
      go_enter Try.func3, Try.ntmps3
      go_wp2_with fail
      refine (HAL.out _).mono ?_
      rintro e w1 ⟨rfl, hb1⟩
      go_wp2_with fail
      go_ret
      exact ⟨rfl, hb1⟩
    · have h2 : s < 0 := by omega
      have e1 : decide (d < 0) = false := decide_eq_false h1
      have e2 : decide (s < 0) = true := decide_eq_true h2
      clear h
      go_enter Try.func3, Try.ntmps3
      go_wp2_with fail
      refine (HAL.out _).mono ?_
      rintro e w1 ⟨rfl, hb1⟩
      go_wp2_with fail
      go_ret
      exact ⟨rfl, hb1⟩
  · have h1 : ¬ d < 0 := by omega
    have h2 : ¬ s < 0 := by omega
    have e1 : decide (d < 0) = false := decide_eq_false h1
    have e2 : decide (s < 0) = false := decide_eq_false h2
    have hP : Blk (w.alloc (.cells #[.int .i64 0, .int .i64 0, .int .i64 0] 24)) w.heap.size 24 #[.int .i64 0, .int .i64 0, .int .i64 0] := Blk.new _ _ _ _ rfl
    have hb0 : Below w.heap.size w (w.alloc (.cells #[.int .i64 0, .int .i64 0, .int .i64 0] 24)) := by (repeat (first | with_reducible exact Below.refl _ _ | (with_reducible assumption) | (with_reducible refine below_alloc ?_ _) | (with_reducible refine below_ext (w1 := ?_) ?_ ?_; rotate_left 2; (with_reducible assumption)) | (with_reducible refine Below.setCell ?_ ?_ _; rotate_left; ((try simp) <;> omega)) | (with_reducible refine Below.drew ?_) | (with_reducible refine below_drewN ?_ _) | fail))
    have HO := Lib.hid (fun W => own_any ⟨p, d, s⟩ W)
    have HV := Lib.hid (fun W => vol_any ⟨p, d, s⟩ W)
    have HR := Lib.hid (fun W => rvol_any ⟨p, d, s⟩ W)
    have HD := Lib.hid (fun W => odds_any ⟨p, d, s⟩ W)
    have HE := Lib.hid (fun W => rodds_any ⟨p, d, s⟩ W)
    clear h
    go_enter Try.func3, Try.ntmps3
    go_wp2_with (first | ((with_reducible show wpList _ _ _ (⟨_, .build _ _, _, _, _, _⟩ :: _) _ _); refine wpList_build_is (by rfl) _ _ (by rfl) ?_ ?_ ?_; rotate_left; (next => simp only [List.map_toArray, List.map_cons, List.map_nil, go_sem]; exact built_rp ..)) | ((with_reducible show wpList _ _ _ (⟨_, .store 24 _ _, _, _, _, _⟩ :: _) _ _); refine wpList_store_blk (by rfl) 24 _ _ (by rfl) _ _ (by rfl) (by rfl) _ _ hP (by kernel_rfl) (by rfl) ?_ ?_; (next => exact pt_one ..); intro w1 hP1 hU1) | fail)
    have hb1 : Below w.heap.size w w1 := below_upd hb0 (Nat.le_refl _) hU1
    have lP := hP1.lt
    clear hU1 hP hb0 h1 h2
    refine wp_region_below_lit (by kernel_rfl) (by kernel_rfl) ?_
    repeat (first | go_big_quiet_skip | (go_big_quiet_want; go_big_quiet_op; go_big_quiet_on) | (refine q_load_blk (by rfl) 24 _ (by rfl) ?_ (.pointer (some ⟨_, 0, none⟩)) (by rfl) ?_ _ (fun _ h => h) Try.underlying24 rfl ?_ ?_; rotate_left; (next => (repeat (first | (with_reducible refine BlkAt.new _ _ _ _ ?_; ((try simp) <;> omega)) | (with_reducible assumption) | (with_reducible refine Blk.at (t := ?_) ?_; rotate_left; with_reducible assumption) | with_reducible refine BlkAt.alloc ?_ _ | with_reducible refine BlkAt.drew ?_ | (with_reducible refine BlkAt.setSame ?_ _ _) | (with_reducible refine BlkAt.setCell ?_ ?_ _; rotate_left; ((try simp) <;> omega)) | (with_reducible refine BlkAt.ext (w := ?_) ?_ ?_; rotate_left 2; (with_reducible assumption)) | fail))); (next => kernel_rfl); (try simp only [Act.put, List.setIfInBounds_toArray, List.set_cons_zero, List.set_cons_succ])) | (refine q_load_fld (by rfl) _ _ (by rfl) (fun _ h => h) _ _ (by rfl) ?_ ?_ ?_ ?_ ?_ ?_; rotate_left; (next => (repeat (first | (with_reducible refine BlkAt.new _ _ _ _ ?_; ((try simp) <;> omega)) | (with_reducible assumption) | (with_reducible refine Blk.at (t := ?_) ?_; rotate_left; with_reducible assumption) | with_reducible refine BlkAt.alloc ?_ _ | with_reducible refine BlkAt.drew ?_ | (with_reducible refine BlkAt.setSame ?_ _ _) | (with_reducible refine BlkAt.setCell ?_ ?_ _; rotate_left; ((try simp) <;> omega)) | (with_reducible refine BlkAt.ext (w := ?_) ?_ ?_; rotate_left 2; (with_reducible assumption)) | fail))); rotate_left; (next => first | (simp only [go_sem]; rfl) | rfl); (next => kernel_rfl); (try simp only [Act.put, List.setIfInBounds_toArray, List.set_cons_zero, List.set_cons_succ])) | (refine q_rem (by rfl) _ _ _ _ (by rfl) _ _ (by rfl) (by rfl) (by kernel_rfl) (by kernel_rfl) ?_ ?_; (next => omega); (try simp only [Act.put, List.setIfInBounds_toArray, List.set_cons_zero, List.set_cons_succ])) | (refine q_step_ex (by rfl) ?_; apply Exists.intro; refine ⟨fun W hW => ?_, ?_⟩; (next => (have hWc := fun (b o : Nat) (h : b < _) => (Ext.out hW).cell (p := ⟨b, o, none⟩) h); (try have hLK := HLK.out W (Ext.out hW)); go_simp; first | rfl | (go_at_call 8; refine (HO.out _).mono ?_; rintro e w'' ⟨rfl, hb2⟩; exact ⟨rfl, below_ext hW hb2⟩) | (go_at_call 7; refine (HV.out _).mono ?_; rintro e w'' ⟨rfl, hb2⟩; exact ⟨rfl, below_ext hW hb2⟩) | (go_at_call 9; refine (HR.out _).mono ?_; rintro e w'' ⟨rfl, hb2⟩; exact ⟨rfl, below_ext hW hb2⟩) | (go_at_call 10; refine (HD.out _).mono ?_; rintro e w'' ⟨rfl, hb2⟩; exact ⟨rfl, below_ext hW hb2⟩) | (go_at_call 11; refine (HE.out _).mono ?_; rintro e w'' ⟨rfl, hb2⟩; exact ⟨rfl, below_ext hW hb2⟩) | (go_at_call 6; refine (HAL.out _).mono ?_; rintro e w'' ⟨rfl, hb2⟩; exact ⟨rfl, below_ext hW hb2⟩) | fail); (try simp only [Act.put, List.setIfInBounds_toArray, List.set_cons_zero, List.set_cons_succ])) | fail)
    refine wpQuiet_nil ?_
    intro w2 hb2
    go_wp2_with fail
    go_ret
    exact ⟨by simp, below_ext hb1 hb2⟩
open Go.ChangeShapes Go.WideShapes Go.ChangeAt Go.Deep
set_option maxRecDepth 100000 in
theorem argsCurveNumbers (H : Type) (enc : TypeId × Value → H) (W : World) (args : Array Value) (hargs : Args Try.checked H enc [2, 2, 2] W args) :
    Calls Try.prog 3 args W fun e W' => e = .returned (.bool true) ∧ Below W.heap.size W W' := by
  obtain ⟨base, ds, p, hval, hA⟩ := hargs
  obtain ⟨v0, vs0, d0, ds0, p0, q0, hargs, rfl, rfl, h0, r0⟩ := trodAll_cons hA
  obtain ⟨v1, vs1, d1, ds1, p1, q1, rfl, rfl, rfl, h1, r1⟩ := trodAll_cons r0
  obtain ⟨v2, vs2, d2, ds2, p2, q2, rfl, rfl, rfl, h2, r2⟩ := trodAll_cons r1
  obtain ⟨rfl, rfl, rfl⟩ := trodAll_nil r2
  obtain rfl : args = #[v0, v1, v2] := by cases args; simp_all
  obtain ⟨p, rfl, _⟩ := open_int Try.underlying2 (hval 0 _ v0 rfl rfl) h0
  obtain ⟨d, rfl, _⟩ := open_int Try.underlying2 (hval 1 _ v1 rfl rfl) h1
  obtain ⟨s, rfl, _⟩ := open_int Try.underlying2 (hval 2 _ v2 rfl rfl) h2
  exact numbers_law p d s W
theorem ownCurveNumbers : ownKnob Try.prog.godebug = none := by kernel_rfl
theorem laidCurveNumbers : laidOutB Try.prog = true := by kernel_rfl
set_option maxRecDepth 100000 in
theorem liftedCurveNumbers (os : Os) (started : os.Started) (H : Type) (enc : TypeId × Value → H) :
    ReturnsInHanded {} Try.checked os 3 .any (Rows.curveNumbersSpec.pre6 enc Try.prog Try.f3 Rows.curveNumbersRow.domain false) (Rows.curveNumbersSpec.post enc Try.prog Try.f3 false true false false) :=
  law_lifted (C := Try.checked) (ts := [2, 2, 2]) (tb := 4) ownCurveNumbers laidCurveNumbers started (by kernel_rfl) Try.func3 (by kernel_rfl)
    (ChangeSpec.witness6 (enc := enc) (C := Try.checked) false ⟨#[], #[.int .i64 0, .int .i64 0, .int .i64 0], []⟩ 8 (by kernel_rfl) (by kernel_rfl) (by kernel_rfl) (by kernel_rfl))
    rfl (by kernel_rfl) Try.underlying4 (by kernel_rfl)
    (fun ds h => by
      match ds, h with
      | [d0, d1, d2], _ => rfl)
    (fun W args h => argsCurveNumbers H enc W args h)
theorem provedCurveNumbers : Rows.CurveNumbersSaid :=
  OpenClaim.holds_of_wide 3 Try.f3 rfl rfl rfl rfl rfl rfl rfl ⟨rfl, rfl, rfl, rfl, rfl⟩ rfl rfl rfl rfl rfl (by kernel_rfl) Try.func3 (by kernel_rfl)
    (of_decide_eq_true (by kernel_rfl)) (by unfold Func.isWrapper; first | (rw [if_pos (by decide +kernel)]; kernel_rfl) | (rw [if_neg (by decide +kernel)]; exact ⟨rfl, rfl⟩))
    (fun os started H enc _ => liftedCurveNumbers os started H enc)
#print axioms provedCurveNumbers
end Cu
end Go.Proofs.Ytacpjpkhmdcagaa
