/- This text proves SessionStays: whatever the input, the law returns true. It has no conditions. -/
import Derived.Test.YtofjjbhhclnpoaaSession
namespace Go.Proofs.Ytofjjbhhclnpoaa
set_option linter.unusedVariables false
open Go.RowKit
namespace Ses
set_option maxHeartbeats 1000000


/-- As long as the phase stays, the answer is the same. -/
theorem at_same {xs : List Row} {k k' m : Nat} (hT : IsT xs k (atF xs k) m) (hkk : k ≤ k') (hkm : k' ≤ m) : atF xs k' = atF xs k := by
  rcases Nat.lt_or_ge k k' with h | h
  · have := hT.2.2.1 (k' - 1) (by omega) (by omega)
    rw [← this]
    unfold atF
    rw [if_neg (by omega)]
  · have : k' = k := by omega
    rw [this]
theorem IsB.mono {xs : List Row} {t t' : Int} {k k' : Nat} (h : IsB xs t k) (h' : IsB xs t' k') (htt : t ≤ t') : k ≤ k' := by
  rcases Nat.lt_or_ge k' k with h1 | h1
  · have h2 := h.2.1 k' h1
    have h3 := h'.2.2 k' (Nat.le_refl _) (by have := h.1; omega)
    omega
  · exact h1

theorem stays_any (xs : List Row) (A : Option Addr) (cap : Nat) (t n : Int) (w : World) (hml : xs.length ≤ cap) (hcm : cap ≤ maxLen) (hr : Rd w 2 A (xs.map Row.cells)) (hI : ∀ i, i < xs.length → I64 (tk xs i)) :
    Calls Try.prog 8 #[.slice A xs.length cap, .int .i64 t, .int .i64 n] w fun e w' => e = .returned (.bool true) ∧ Below w.heap.size w w' := by
  have HR := Lib.hid hr
  have HI := Lib.hid hI
  clear hr hI
  have hml2 : xs.length ≤ maxLen := by omega
  cases hl : lightF xs t with
  | false =>
    have HL := Lib.hid hl
    clear hl
    go_enter Try.func8, Try.ntmps8
    go_wp2_with (first | (go_at_call 36; refine (light_any xs A cap t _ hml2 HR.out).mono ?_; rintro e w1 ⟨rfl, hb1⟩; rw [HL.out]) | (go_at_call 37; refine (alive_any _).mono ?_; rintro e w2 ⟨rfl, hb2⟩) | fail)
    go_ret
    exact ⟨rfl, by (repeat (first | with_reducible exact Below.refl _ _ | (with_reducible assumption) | (with_reducible refine below_alloc ?_ _) | (with_reducible refine below_ext (w1 := ?_) ?_ ?_; rotate_left 2; (with_reducible assumption)) | (with_reducible refine Below.setCell ?_ ?_ _; rotate_left; ((try simp) <;> omega)) | (with_reducible refine Below.drew ?_) | (with_reducible refine below_drewN ?_ _) | fail))⟩
  | true =>
    obtain ⟨h60, hs, ht, _⟩ := lightF_yes hl
    by_cases hn : n < 0
    · have HL := Lib.hid hl
      clear hl hs
      go_enter Try.func8, Try.ntmps8
      go_wp2_with (first | (go_at_call 36; refine (light_any xs A cap t _ hml2 HR.out).mono ?_; rintro e w1 ⟨rfl, hb1⟩; rw [HL.out]) | (go_at_call 37; refine (alive_any _).mono ?_; rintro e w2 ⟨rfl, hb2⟩) | fail)
      go_ret
      exact ⟨rfl, by (repeat (first | with_reducible exact Below.refl _ _ | (with_reducible assumption) | (with_reducible refine below_alloc ?_ _) | (with_reducible refine below_ext (w1 := ?_) ?_ ?_; rotate_left 2; (with_reducible assumption)) | (with_reducible refine Below.setCell ?_ ?_ _; rotate_left; ((try simp) <;> omega)) | (with_reducible refine Below.drew ?_) | (with_reducible refine below_drewN ?_ _) | fail))⟩
    by_cases hn2 : 1152921504606846976 < n
    · have HL := Lib.hid hl
      clear hl hs
      go_enter Try.func8, Try.ntmps8
      go_wp2_with (first | (go_at_call 36; refine (light_any xs A cap t _ hml2 HR.out).mono ?_; rintro e w1 ⟨rfl, hb1⟩; rw [HL.out]) | (go_at_call 37; refine (alive_any _).mono ?_; rintro e w2 ⟨rfl, hb2⟩) | fail)
      go_ret
      exact ⟨rfl, by (repeat (first | with_reducible exact Below.refl _ _ | (with_reducible assumption) | (with_reducible refine below_alloc ?_ _) | (with_reducible refine below_ext (w1 := ?_) ?_ ?_; rotate_left 2; (with_reducible assumption)) | (with_reducible refine Below.setCell ?_ ?_ _; rotate_left; ((try simp) <;> omega)) | (with_reducible refine Below.drew ?_) | (with_reducible refine below_drewN ?_ _) | fail))⟩
    by_cases ht2 : 1152921504606846976 < t
    · have HL := Lib.hid hl
      clear hl hs
      go_enter Try.func8, Try.ntmps8
      go_wp2_with (first | (go_at_call 36; refine (light_any xs A cap t _ hml2 HR.out).mono ?_; rintro e w1 ⟨rfl, hb1⟩; rw [HL.out]) | (go_at_call 37; refine (alive_any _).mono ?_; rintro e w2 ⟨rfl, hb2⟩) | fail)
      go_ret
      exact ⟨rfl, by (repeat (first | with_reducible exact Below.refl _ _ | (with_reducible assumption) | (with_reducible refine below_alloc ?_ _) | (with_reducible refine below_ext (w1 := ?_) ?_ ?_; rotate_left 2; (with_reducible assumption)) | (with_reducible refine Below.setCell ?_ ?_ _; rotate_left; ((try simp) <;> omega)) | (with_reducible refine Below.drew ?_) | (with_reducible refine below_drewN ?_ _) | fail))⟩
    obtain ⟨k, hk⟩ := exB xs t hs
    obtain ⟨m, hm⟩ := exT xs k (atF xs k) hk.1
    obtain ⟨k2, hk2⟩ := exB xs (t + n) hs
    have hkk := hk.mono hk2 (by omega)
    by_cases hmn : m = xs.length
    · have hsame := at_same hm hkk (by have := hk2.1; omega)
      have HF : Hid (restF xs t m = -1) := by show restF xs t m = -1; unfold restF; rw [if_pos hmn]
      have HE := Lib.hid hsame
      have HL := Lib.hid hl
      have HS := Lib.hid hs
      have HK := Lib.hid hk
      have HK2 := Lib.hid hk2
      have HM := Lib.hid hm
      clear hl hs hk hm hk2 hsame hmn
      go_enter Try.func8, Try.ntmps8
      go_wp2_with fail
      refine (light_any xs A cap t _ hml2 HR.out).mono ?_
      rintro e w1 ⟨rfl, hb1⟩
      rw [HL.out]
      go_wp2_with fail
      refine (rest_any xs A cap t k m _ (by omega) hml hcm (HR.out.below (by (repeat (first | with_reducible exact Below.refl _ _ | (with_reducible assumption) | (with_reducible refine below_alloc ?_ _) | (with_reducible refine below_ext (w1 := ?_) ?_ ?_; rotate_left 2; (with_reducible assumption)) | (with_reducible refine Below.setCell ?_ ?_ _; rotate_left; ((try simp) <;> omega)) | (with_reducible refine Below.drew ?_) | (with_reducible refine below_drewN ?_ _) | fail)))) HS.out HK.out HM.out ht HI.out).mono ?_
      rintro e w2 ⟨rfl, hb2⟩
      rw [HF.out]
      go_wp2_with fail
      refine (at_any xs A cap (t + n) k2 _ (by omega) (HR.out.below (by (repeat (first | with_reducible exact Below.refl _ _ | (with_reducible assumption) | (with_reducible refine below_alloc ?_ _) | (with_reducible refine below_ext (w1 := ?_) ?_ ?_; rotate_left 2; (with_reducible assumption)) | (with_reducible refine Below.setCell ?_ ?_ _; rotate_left; ((try simp) <;> omega)) | (with_reducible refine Below.drew ?_) | (with_reducible refine below_drewN ?_ _) | fail)))) HS.out HK2.out).mono ?_
      rintro e w3 ⟨rfl, hb3⟩
      rw [HE.out]
      go_wp2_with fail
      refine (at_any xs A cap t k _ (by omega) (HR.out.below (by (repeat (first | with_reducible exact Below.refl _ _ | (with_reducible assumption) | (with_reducible refine below_alloc ?_ _) | (with_reducible refine below_ext (w1 := ?_) ?_ ?_; rotate_left 2; (with_reducible assumption)) | (with_reducible refine Below.setCell ?_ ?_ _; rotate_left; ((try simp) <;> omega)) | (with_reducible refine Below.drew ?_) | (with_reducible refine below_drewN ?_ _) | fail)))) HS.out HK.out).mono ?_
      rintro e w4 ⟨rfl, hb4⟩
      go_wp2_with (first | (go_at_call 37; refine (alive_any _).mono ?_; rintro e w6 ⟨rfl, hb6⟩) | fail)
      go_ret
      exact ⟨rfl, by (repeat (first | with_reducible exact Below.refl _ _ | (with_reducible assumption) | (with_reducible refine below_alloc ?_ _) | (with_reducible refine below_ext (w1 := ?_) ?_ ?_; rotate_left 2; (with_reducible assumption)) | (with_reducible refine Below.setCell ?_ ?_ _; rotate_left; ((try simp) <;> omega)) | (with_reducible refine Below.drew ?_) | (with_reducible refine below_drewN ?_ _) | fail))⟩
    · have hlt : m < xs.length := by have := hm.2.1; omega
      have hgt : t < tk xs m := hk.2.2 m hm.1 hlt
      have hIm := HI.out m hlt
      obtain ⟨k3, hk3⟩ := exB xs (t + (tk xs m - t)) hs
      have hk3' : k3 = m + 1 := by
        refine hk3.uniq ⟨by omega, fun x hx => ?_, fun x hx hx' => ?_⟩
        · rcases Nat.lt_or_ge x m with h1 | h1
          · have := hs x m h1 hlt
            omega
          · have : x = m := by omega
            subst this
            omega
        · have := hs m x (by omega) hx'
          omega
      subst hk3'
      have hdiff : (atF xs (m + 1) != atF xs k) = true := by
        have h1 := hm.2.2.2 hlt
        have h2 : atF xs (m + 1) = ph xs m := by simp [atF]
        rw [h2]
        simpa using h1
      have HF : Hid (restF xs t m = tk xs m - t) := by show restF xs t m = _; unfold restF; rw [if_neg hmn]
      obtain ⟨i1, i2⟩ := hIm
      generalize hT : tk xs m = T at *
      by_cases hnr : n < T - t
      · have hk2m : k2 ≤ m := by
          rcases Nat.lt_or_ge m k2 with h1 | h1
          · have := hk2.2.1 m h1
            omega
          · exact h1
        have hsame := at_same hm hkk hk2m
        have HE := Lib.hid hsame
        have HL := Lib.hid hl
        have HS := Lib.hid hs
        have HK := Lib.hid hk
        have HK2 := Lib.hid hk2
        have HK3 := Lib.hid hk3
        have HM := Lib.hid hm
        clear hl hs hk hm hk2 hk3 hsame hmn hT
        go_enter Try.func8, Try.ntmps8
        go_wp2_with fail
        refine (light_any xs A cap t _ hml2 HR.out).mono ?_
        rintro e w1 ⟨rfl, hb1⟩
        rw [HL.out]
        go_wp2_with fail
        refine (rest_any xs A cap t k m _ (by omega) hml hcm (HR.out.below (by (repeat (first | with_reducible exact Below.refl _ _ | (with_reducible assumption) | (with_reducible refine below_alloc ?_ _) | (with_reducible refine below_ext (w1 := ?_) ?_ ?_; rotate_left 2; (with_reducible assumption)) | (with_reducible refine Below.setCell ?_ ?_ _; rotate_left; ((try simp) <;> omega)) | (with_reducible refine Below.drew ?_) | (with_reducible refine below_drewN ?_ _) | fail)))) HS.out HK.out HM.out ht HI.out).mono ?_
        rintro e w2 ⟨rfl, hb2⟩
        rw [HF.out]
        go_wp2_with fail
        refine (at_any xs A cap (t + n) k2 _ (by omega) (HR.out.below (by (repeat (first | with_reducible exact Below.refl _ _ | (with_reducible assumption) | (with_reducible refine below_alloc ?_ _) | (with_reducible refine below_ext (w1 := ?_) ?_ ?_; rotate_left 2; (with_reducible assumption)) | (with_reducible refine Below.setCell ?_ ?_ _; rotate_left; ((try simp) <;> omega)) | (with_reducible refine Below.drew ?_) | (with_reducible refine below_drewN ?_ _) | fail)))) HS.out HK2.out).mono ?_
        rintro e w3 ⟨rfl, hb3⟩
        rw [HE.out]
        go_wp2_with fail
        refine (at_any xs A cap t k _ (by omega) (HR.out.below (by (repeat (first | with_reducible exact Below.refl _ _ | (with_reducible assumption) | (with_reducible refine below_alloc ?_ _) | (with_reducible refine below_ext (w1 := ?_) ?_ ?_; rotate_left 2; (with_reducible assumption)) | (with_reducible refine Below.setCell ?_ ?_ _; rotate_left; ((try simp) <;> omega)) | (with_reducible refine Below.drew ?_) | (with_reducible refine below_drewN ?_ _) | fail)))) HS.out HK.out).mono ?_
        rintro e w4 ⟨rfl, hb4⟩
        go_wp2_with fail
        refine (at_any xs A cap (t + (T - t)) (m + 1) _ (by omega) (HR.out.below (by (repeat (first | with_reducible exact Below.refl _ _ | (with_reducible assumption) | (with_reducible refine below_alloc ?_ _) | (with_reducible refine below_ext (w1 := ?_) ?_ ?_; rotate_left 2; (with_reducible assumption)) | (with_reducible refine Below.setCell ?_ ?_ _; rotate_left; ((try simp) <;> omega)) | (with_reducible refine Below.drew ?_) | (with_reducible refine below_drewN ?_ _) | fail)))) HS.out HK3.out).mono ?_
        rintro e w5 ⟨rfl, hb5⟩
        go_wp2_with fail
        refine (at_any xs A cap t k _ (by omega) (HR.out.below (by (repeat (first | with_reducible exact Below.refl _ _ | (with_reducible assumption) | (with_reducible refine below_alloc ?_ _) | (with_reducible refine below_ext (w1 := ?_) ?_ ?_; rotate_left 2; (with_reducible assumption)) | (with_reducible refine Below.setCell ?_ ?_ _; rotate_left; ((try simp) <;> omega)) | (with_reducible refine Below.drew ?_) | (with_reducible refine below_drewN ?_ _) | fail)))) HS.out HK.out).mono ?_
        rintro e w6 ⟨rfl, hb6⟩
        go_wp2_with (first | (go_at_call 37; refine (alive_any _).mono ?_; rintro e w7 ⟨rfl, hb7⟩) | fail)
        go_ret
        exact ⟨rfl, by (repeat (first | with_reducible exact Below.refl _ _ | (with_reducible assumption) | (with_reducible refine below_alloc ?_ _) | (with_reducible refine below_ext (w1 := ?_) ?_ ?_; rotate_left 2; (with_reducible assumption)) | (with_reducible refine Below.setCell ?_ ?_ _; rotate_left; ((try simp) <;> omega)) | (with_reducible refine Below.drew ?_) | (with_reducible refine below_drewN ?_ _) | fail))⟩
      · have HL := Lib.hid hl
        have HS := Lib.hid hs
        have HK := Lib.hid hk
        have HK3 := Lib.hid hk3
        have HM := Lib.hid hm
        clear hl hs hk hm hk2 hk3 hmn hT
        go_enter Try.func8, Try.ntmps8
        go_wp2_with fail
        refine (light_any xs A cap t _ hml2 HR.out).mono ?_
        rintro e w1 ⟨rfl, hb1⟩
        rw [HL.out]
        go_wp2_with fail
        refine (rest_any xs A cap t k m _ (by omega) hml hcm (HR.out.below (by (repeat (first | with_reducible exact Below.refl _ _ | (with_reducible assumption) | (with_reducible refine below_alloc ?_ _) | (with_reducible refine below_ext (w1 := ?_) ?_ ?_; rotate_left 2; (with_reducible assumption)) | (with_reducible refine Below.setCell ?_ ?_ _; rotate_left; ((try simp) <;> omega)) | (with_reducible refine Below.drew ?_) | (with_reducible refine below_drewN ?_ _) | fail)))) HS.out HK.out HM.out ht HI.out).mono ?_
        rintro e w2 ⟨rfl, hb2⟩
        rw [HF.out]
        go_wp2_with fail
        refine (at_any xs A cap (t + (T - t)) (m + 1) _ (by omega) (HR.out.below (by (repeat (first | with_reducible exact Below.refl _ _ | (with_reducible assumption) | (with_reducible refine below_alloc ?_ _) | (with_reducible refine below_ext (w1 := ?_) ?_ ?_; rotate_left 2; (with_reducible assumption)) | (with_reducible refine Below.setCell ?_ ?_ _; rotate_left; ((try simp) <;> omega)) | (with_reducible refine Below.drew ?_) | (with_reducible refine below_drewN ?_ _) | fail)))) HS.out HK3.out).mono ?_
        rintro e w5 ⟨rfl, hb5⟩
        go_wp2_with fail
        refine (at_any xs A cap t k _ (by omega) (HR.out.below (by (repeat (first | with_reducible exact Below.refl _ _ | (with_reducible assumption) | (with_reducible refine below_alloc ?_ _) | (with_reducible refine below_ext (w1 := ?_) ?_ ?_; rotate_left 2; (with_reducible assumption)) | (with_reducible refine Below.setCell ?_ ?_ _; rotate_left; ((try simp) <;> omega)) | (with_reducible refine Below.drew ?_) | (with_reducible refine below_drewN ?_ _) | fail)))) HS.out HK.out).mono ?_
        rintro e w6 ⟨rfl, hb6⟩
        go_wp2_with (first | (go_at_call 37; refine (alive_any _).mono ?_; rintro e w7 ⟨rfl, hb7⟩) | fail)
        go_ret
        exact ⟨rfl, by (repeat (first | with_reducible exact Below.refl _ _ | (with_reducible assumption) | (with_reducible refine below_alloc ?_ _) | (with_reducible refine below_ext (w1 := ?_) ?_ ?_; rotate_left 2; (with_reducible assumption)) | (with_reducible refine Below.setCell ?_ ?_ _; rotate_left; ((try simp) <;> omega)) | (with_reducible refine Below.drew ?_) | (with_reducible refine below_drewN ?_ _) | fail))⟩
open Go.ChangeShapes Go.WideShapes Go.ChangeAt Go.Deep
set_option maxRecDepth 100000 in
theorem argsSessionStays (H : Type) (enc : TypeId × Value → H) (W : World) (args : Array Value) (hargs : Args Try.checked H enc [61, 2, 2] W args) :
    Calls Try.prog 8 args W fun e W' => e = .returned (.bool true) ∧ Below W.heap.size W W' := by
  obtain ⟨base, ds, p, hval, hA⟩ := hargs
  obtain ⟨v0, vs0, d0, ds0, p0, q0, hargs, rfl, rfl, h0, r0⟩ := trodAll_cons hA
  obtain ⟨v1, vs1, d1, ds1, p1, q1, rfl, rfl, rfl, h1, r1⟩ := trodAll_cons r0
  obtain ⟨v2, vs2, d2, ds2, p2, q2, rfl, rfl, rfl, h2, r2⟩ := trodAll_cons r1
  obtain ⟨rfl, rfl, rfl⟩ := trodAll_nil r2
  obtain rfl : args = #[v0, v1, v2] := by cases args; simp_all
  obtain ⟨A, la, ca, rows, rfl, hla, hlc, hca, hfa, ha⟩ := open_rows (ks := List.replicate 2 K) 5 Try.underlying61 (by kernel_rfl) (by kernel_rfl) (by decide) (hval 0 _ v0 rfl rfl) h0
  obtain ⟨f, rfl, _⟩ := open_int Try.underlying2 (hval 1 _ v1 rfl rfl) h1
  obtain ⟨t, rfl, _⟩ := open_int Try.underlying2 (hval 2 _ v2 rfl rfl) h2
  obtain ⟨xs, rfl, hx⟩ := rowsOf (fun vs h => fitRow h) rows hfa
  rw [List.length_map] at hla
  subst hla
  exact stays_any xs A ca f t W hlc hca ha (fun i hi => by rw [tk_eq hi]; exact (hx _ (List.getElem_mem hi)).1)
theorem ownSessionStays : ownKnob Try.prog.godebug = none := by kernel_rfl
theorem laidSessionStays : laidOutB Try.prog = true := by kernel_rfl
set_option maxRecDepth 100000 in
theorem liftedSessionStays (os : Os) (started : os.Started) (H : Type) (enc : TypeId × Value → H) :
    ReturnsInHanded {} Try.checked os 8 .any (Rows.sessionStaysSpec.pre6 enc Try.prog Try.f8 Rows.sessionStaysRow.domain false) (Rows.sessionStaysSpec.post enc Try.prog Try.f8 false true false false) :=
  law_lifted (C := Try.checked) (ts := [61, 2, 2]) (tb := 4) ownSessionStays laidSessionStays started (by kernel_rfl) Try.func8 (by kernel_rfl)
    (ChangeSpec.witness6 (enc := enc) (C := Try.checked) false ⟨#[], #[.slice none 0 0, .int .i64 0, .int .i64 0], []⟩ 8 (by kernel_rfl) (by kernel_rfl) (by kernel_rfl) (by kernel_rfl))
    rfl (by kernel_rfl) Try.underlying4 (by kernel_rfl)
    (fun ds h => by
      match ds, h with
      | [d0, d1, d2], _ => rfl)
    (fun W args h => argsSessionStays H enc W args h)
theorem provedSessionStays : Rows.SessionStaysSaid :=
  OpenClaim.holds_of_wide 8 Try.f8 rfl rfl rfl rfl rfl rfl rfl ⟨rfl, rfl, rfl, rfl, rfl⟩ rfl rfl rfl rfl rfl (by kernel_rfl) Try.func8 (by kernel_rfl)
    (of_decide_eq_true (by kernel_rfl)) (by unfold Func.isWrapper; first | (rw [if_pos (by decide +kernel)]; kernel_rfl) | (rw [if_neg (by decide +kernel)]; exact ⟨rfl, rfl⟩))
    (fun os started H enc _ => liftedSessionStays os started H enc)
#print axioms provedSessionStays
end Ses
end Go.Proofs.Ytofjjbhhclnpoaa
