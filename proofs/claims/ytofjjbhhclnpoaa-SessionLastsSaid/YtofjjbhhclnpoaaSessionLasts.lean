/- This text proves SessionLasts: whatever the input, the law returns true. It has no conditions. -/
import Derived.Test.YtofjjbhhclnpoaaSession
namespace Go.Proofs.Ytofjjbhhclnpoaa
open Go.RowKit
namespace Ses
set_option maxHeartbeats 1000000

theorem lastsLaw_any (xs : List Row) (A : Option Addr) (cap : Nat) (f t : Int) (w : World) (hml : xs.length ≤ cap) (hcm : cap ≤ maxLen) (hr : Rd w 2 A (xs.map Row.cells)) (hI : ∀ i, i < xs.length → I64 (tk xs i)) :
    Calls Try.prog 10 #[.slice A xs.length cap, .int .i64 f, .int .i64 t] w fun e w' => e = .returned (.bool true) ∧ Below w.heap.size w w' := by
  have HR := Lib.hid hr
  have HI := Lib.hid hI
  clear hr hI
  have hml2 : xs.length ≤ maxLen := by omega
  cases hl : lightF xs f with
  | false =>
    have HL := Lib.hid hl
    clear hl
    go_enter Try.func10, Try.ntmps10
    go_wp2_with (first | (go_at_call 36; refine (light_any xs A cap f _ hml2 HR.out).mono ?_; rintro e w1 ⟨rfl, hb1⟩; rw [HL.out]) | (go_at_call 37; refine (alive_any _).mono ?_; rintro e w2 ⟨rfl, hb2⟩) | fail)
    go_ret
    exact ⟨rfl, by (repeat (first | with_reducible exact Below.refl _ _ | (with_reducible assumption) | (with_reducible refine below_alloc ?_ _) | (with_reducible refine below_ext (w1 := ?_) ?_ ?_; rotate_left 2; (with_reducible assumption)) | (with_reducible refine Below.setCell ?_ ?_ _; rotate_left; ((try simp) <;> omega)) | (with_reducible refine Below.drew ?_) | (with_reducible refine below_drewN ?_ _) | fail))⟩
  | true =>
    obtain ⟨h60, hs, ht, _⟩ := lightF_yes hl
    by_cases hto : t < 0
    · have HL := Lib.hid hl
      clear hl hs
      go_enter Try.func10, Try.ntmps10
      go_wp2_with (first | (go_at_call 36; refine (light_any xs A cap f _ hml2 HR.out).mono ?_; rintro e w1 ⟨rfl, hb1⟩; rw [HL.out]) | (go_at_call 37; refine (alive_any _).mono ?_; rintro e w2 ⟨rfl, hb2⟩) | fail)
      go_ret
      exact ⟨rfl, by (repeat (first | with_reducible exact Below.refl _ _ | (with_reducible assumption) | (with_reducible refine below_alloc ?_ _) | (with_reducible refine below_ext (w1 := ?_) ?_ ?_; rotate_left 2; (with_reducible assumption)) | (with_reducible refine Below.setCell ?_ ?_ _; rotate_left; ((try simp) <;> omega)) | (with_reducible refine Below.drew ?_) | (with_reducible refine below_drewN ?_ _) | fail))⟩
    obtain ⟨k, hk⟩ := exB xs f hs
    obtain ⟨m, hm⟩ := exT xs k (atF xs k) hk.1
    have HL := Lib.hid hl
    have HS := Lib.hid hs
    have HK := Lib.hid hk
    have HM := Lib.hid hm
    clear hl hs hk hm
    go_enter Try.func10, Try.ntmps10
    go_wp2_with fail
    refine (light_any xs A cap f _ hml2 HR.out).mono ?_
    rintro e w1 ⟨rfl, hb1⟩
    rw [HL.out]
    go_wp2_with fail
    refine (lasts_any xs A cap f t k m _ (by omega) hml hcm (HR.out.below (by (repeat (first | with_reducible exact Below.refl _ _ | (with_reducible assumption) | (with_reducible refine below_alloc ?_ _) | (with_reducible refine below_ext (w1 := ?_) ?_ ?_; rotate_left 2; (with_reducible assumption)) | (with_reducible refine Below.setCell ?_ ?_ _; rotate_left; ((try simp) <;> omega)) | (with_reducible refine Below.drew ?_) | (with_reducible refine below_drewN ?_ _) | fail)))) HS.out HK.out HM.out).mono ?_
    rintro e w2 ⟨rfl, hb2⟩
    go_wp2_with fail
    refine (rlasts_any xs A cap f t k m _ (by omega) (HR.out.below (by (repeat (first | with_reducible exact Below.refl _ _ | (with_reducible assumption) | (with_reducible refine below_alloc ?_ _) | (with_reducible refine below_ext (w1 := ?_) ?_ ?_; rotate_left 2; (with_reducible assumption)) | (with_reducible refine Below.setCell ?_ ?_ _; rotate_left; ((try simp) <;> omega)) | (with_reducible refine Below.drew ?_) | (with_reducible refine below_drewN ?_ _) | fail)))) HS.out HK.out HM.out).mono ?_
    rintro e w3 ⟨rfl, hb3⟩
    go_wp2_with fail
    refine (rest_any xs A cap f k m _ (by omega) hml hcm (HR.out.below (by (repeat (first | with_reducible exact Below.refl _ _ | (with_reducible assumption) | (with_reducible refine below_alloc ?_ _) | (with_reducible refine below_ext (w1 := ?_) ?_ ?_; rotate_left 2; (with_reducible assumption)) | (with_reducible refine Below.setCell ?_ ?_ _; rotate_left; ((try simp) <;> omega)) | (with_reducible refine Below.drew ?_) | (with_reducible refine below_drewN ?_ _) | fail)))) HS.out HK.out HM.out ht HI.out).mono ?_
    rintro e w4 ⟨rfl, hb4⟩
    go_wp2_with fail
    refine (rrest_any xs A cap f k m _ (by omega) (HR.out.below (by (repeat (first | with_reducible exact Below.refl _ _ | (with_reducible assumption) | (with_reducible refine below_alloc ?_ _) | (with_reducible refine below_ext (w1 := ?_) ?_ ?_; rotate_left 2; (with_reducible assumption)) | (with_reducible refine Below.setCell ?_ ?_ _; rotate_left; ((try simp) <;> omega)) | (with_reducible refine Below.drew ?_) | (with_reducible refine below_drewN ?_ _) | fail)))) HK.out HM.out ht HI.out).mono ?_
    rintro e w5 ⟨rfl, hb5⟩
    go_wp2_with (first | (go_at_call 37; refine (alive_any _).mono ?_; rintro e w6 ⟨rfl, hb6⟩) | fail)
    go_ret
    exact ⟨rfl, by (repeat (first | with_reducible exact Below.refl _ _ | (with_reducible assumption) | (with_reducible refine below_alloc ?_ _) | (with_reducible refine below_ext (w1 := ?_) ?_ ?_; rotate_left 2; (with_reducible assumption)) | (with_reducible refine Below.setCell ?_ ?_ _; rotate_left; ((try simp) <;> omega)) | (with_reducible refine Below.drew ?_) | (with_reducible refine below_drewN ?_ _) | fail))⟩
open Go.ChangeShapes Go.WideShapes Go.ChangeAt Go.Deep
set_option maxRecDepth 100000 in
theorem argsSessionLasts (H : Type) (enc : TypeId × Value → H) (W : World) (args : Array Value) (hargs : Args Try.checked H enc [61, 2, 2] W args) :
    Calls Try.prog 10 args W fun e W' => e = .returned (.bool true) ∧ Below W.heap.size W W' := by
  obtain ⟨base, ds, p, hval, hA⟩ := hargs
  obtain ⟨v0, vs0, d0, ds0, p0, q0, hargs, rfl, rfl, h0, r0⟩ := trodAll_cons hA
  obtain ⟨v1, vs1, d1, ds1, p1, q1, rfl, rfl, rfl, h1, r1⟩ := trodAll_cons r0
  obtain ⟨v2, vs2, d2, ds2, p2, q2, rfl, rfl, rfl, h2, r2⟩ := trodAll_cons r1
  obtain ⟨rfl, rfl, rfl⟩ := trodAll_nil r2
  obtain rfl : args = #[v0, v1, v2] := by cases args; simp_all
  obtain ⟨A, la, ca, rows, rfl, hla, hlc, hca, hfa, ha⟩ := open_rows (ks := List.replicate 2 K) 5 Try.underlying61 (by kernel_rfl) (by kernel_rfl) (by decide) (hval 0 _ v0 rfl rfl) h0
  obtain ⟨f, rfl, _⟩ := open_int Try.underlying2 (hval 1 _ v1 rfl rfl) h1
  obtain ⟨t, rfl, _⟩ := open_int Try.underlying2 (hval 2 _ v2 rfl rfl) h2
  obtain ⟨xs, rfl, hx⟩ := rowsOf (fun vs h => fitRow h) rows hfa
  rw [List.length_map] at hla
  subst hla
  exact lastsLaw_any xs A ca f t W hlc hca ha (fun i hi => by rw [tk_eq hi]; exact (hx _ (List.getElem_mem hi)).1)
theorem ownSessionLasts : ownKnob Try.prog.godebug = none := by kernel_rfl
theorem laidSessionLasts : laidOutB Try.prog = true := by kernel_rfl
set_option maxRecDepth 100000 in
theorem liftedSessionLasts (os : Os) (started : os.Started) (H : Type) (enc : TypeId × Value → H) :
    ReturnsInHanded {} Try.checked os 10 .any (Rows.sessionLastsSpec.pre6 enc Try.prog Try.f10 Rows.sessionLastsRow.domain false) (Rows.sessionLastsSpec.post enc Try.prog Try.f10 false true false false) :=
  law_lifted (C := Try.checked) (ts := [61, 2, 2]) (tb := 4) ownSessionLasts laidSessionLasts started (by kernel_rfl) Try.func10 (by kernel_rfl)
    (ChangeSpec.witness6 (enc := enc) (C := Try.checked) false ⟨#[], #[.slice none 0 0, .int .i64 0, .int .i64 0], []⟩ 8 (by kernel_rfl) (by kernel_rfl) (by kernel_rfl) (by kernel_rfl))
    rfl (by kernel_rfl) Try.underlying4 (by kernel_rfl)
    (fun ds h => by
      match ds, h with
      | [d0, d1, d2], _ => rfl)
    (fun W args h => argsSessionLasts H enc W args h)
theorem provedSessionLasts : Rows.SessionLastsSaid :=
  OpenClaim.holds_of_wide 10 Try.f10 rfl rfl rfl rfl rfl rfl rfl ⟨rfl, rfl, rfl, rfl, rfl⟩ rfl rfl rfl rfl rfl (by kernel_rfl) Try.func10 (by kernel_rfl)
    (of_decide_eq_true (by kernel_rfl)) (by unfold Func.isWrapper; first | (rw [if_pos (by decide +kernel)]; kernel_rfl) | (rw [if_neg (by decide +kernel)]; exact ⟨rfl, rfl⟩))
    (fun os started H enc _ => liftedSessionLasts os started H enc)
#print axioms provedSessionLasts
end Ses
end Go.Proofs.Ytofjjbhhclnpoaa
