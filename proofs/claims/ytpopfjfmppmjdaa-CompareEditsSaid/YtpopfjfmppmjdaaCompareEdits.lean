/- This text proves CompareEdits: whatever the input, the law returns true. It has no conditions. -/
import Derived.Test.YtpopfjfmppmjdaaCmpREd
import Derived.Test.YtpopfjfmppmjdaaCmpLst
namespace Go.Proofs.Ytpopfjfmppmjdaa
set_option linter.unusedVariables false
open Go.RowKit
namespace Cmp
set_option maxHeartbeats 1000000
set_option maxRecDepth 10000
section
variable {w : World} {A : Option Addr} {ca : Nat} {B : Option Addr} {cb : Nat} {a b : List Msg}
/-- A list of edits comes. -/
def Gives (l : List Edt) (w : World) (e : Ending) (w' : World) : Prop := ∃ R cap, e = .returned (.slice R l.length cap) ∧ Rd w' 3 R (l.map Edt.cells) ∧ Below w.heap.size w w'
theorem law_core (n : Int) (l : List Edt) (hl : l.length ≤ 1000) (ha : (a.length : Int) ≤ 310) (hb : (b.length : Int) ≤ 310)
    (k1 : Hid (∀ W, Below w.heap.size w W → Calls Try.prog 7 #[.slice A a.length ca, .slice B b.length cb] W fun e W' => e = .returned (.int .i64 n) ∧ Below W.heap.size W W'))
    (k2 : Hid (∀ W, Below w.heap.size w W → Calls Try.prog 8 #[.slice A a.length ca, .slice B b.length cb] W fun e W' => e = .returned (.int .i64 n) ∧ Below W.heap.size W W'))
    (k3 : Hid (∀ W, Below w.heap.size w W → Calls Try.prog 11 #[.slice A a.length ca, .slice B b.length cb] W (Gives l W)))
    (k4 : Hid (∀ W, Below w.heap.size w W → Calls Try.prog 12 #[.slice A a.length ca, .slice B b.length cb] W (Gives l W))) :
    Calls Try.prog 3 #[.slice A a.length ca, .slice B b.length cb] w fun e w' => e = .returned (.bool true) ∧ Below w.heap.size w w' := by
  go_enter Try.func3, Try.ntmps3
  go_wp2_with (first
    | (go_at_call 7; refine (k1.out w (Below.refl _ _)).mono ?_; rintro e w1 ⟨rfl, hb1⟩)
    | (go_at_call 8; refine (k2.out w1 hb1).mono ?_; rintro e w2 ⟨rfl, hb2⟩; have h02 := below_ext hb1 hb2)
    | (go_at_call 11; refine (k3.out w2 h02).mono ?_; rintro e w3 ⟨R, cr, rfl, hR, hb3⟩; have h03 := below_ext h02 hb3)
    | (go_at_call 10; refine (back_any hl hR).mono ?_; rintro e w4 ⟨v, rfl, hown, hb4⟩; obtain ⟨S, cs, rfl, hS, hcs⟩ := owns_edt hown; have h04 := below_ext h03 hb4)
    | (go_at_call 12; refine (k4.out w4 h04).mono ?_; rintro e w5 ⟨T', ct, rfl, hT, hb5⟩; have h05 := below_ext h04 hb5; have hS5 := hS.below hb5)
    | (go_at_call 9; refine (same_any hl hS5 hT).mono ?_; rintro e w6 ⟨rfl, hb6⟩; have h06 := below_ext h05 hb6)
    | (go_at_call 6; refine (alive_any w6).mono ?_; rintro e w7 ⟨rfl, hb7⟩; have h07 := below_ext h06 hb7)
    | fail)
  go_ret
  exact ⟨rfl, h07⟩
theorem law_far (h : (310 : Int) < (a.length : Int) ∨ (310 : Int) < (b.length : Int)) :
    Calls Try.prog 3 #[.slice A a.length ca, .slice B b.length cb] w fun e w' => e = .returned (.bool true) ∧ Below w.heap.size w w' := by
  by_cases h1 : (310 : Int) < (a.length : Int)
  · clear h
    go_enter Try.func3, Try.ntmps3
    go_wp2_with (go_at_call 6; refine (alive_any w).mono ?_; rintro e w7 ⟨rfl, hb7⟩)
    go_ret
    exact ⟨rfl, hb7⟩
  · have h2 : (310 : Int) < (b.length : Int) := by omega
    clear h
    go_enter Try.func3, Try.ntmps3
    go_wp2_with (go_at_call 6; refine (alive_any w).mono ?_; rintro e w7 ⟨rfl, hb7⟩)
    go_ret
    exact ⟨rfl, hb7⟩
theorem law_any (hA : Rd w 9 A (a.map Msg.cells)) (hB : Rd w 9 B (b.map Msg.cells)) (ha : (a.length : Int) ≤ 9223372036854775807) (hb : (b.length : Int) ≤ 9223372036854775807) :
    Calls Try.prog 3 #[.slice A a.length ca, .slice B b.length cb] w fun e w' => e = .returned (.bool true) ∧ Below w.heap.size w w' := by
  by_cases h : (310 : Int) < (a.length : Int) ∨ (310 : Int) < (b.length : Int)
  · exact law_far h
  · by_cases hl : 300 < a.length ∨ 300 < b.length
    · refine law_core (-1) [] (by simp) (by omega) (by omega) (Lib.hid fun W hW => ?_) (Lib.hid fun W hW => ?_) (Lib.hid fun W hW => ?_) (Lib.hid fun W hW => ?_)
      · refine (common_long ha hb hl).mono ?_
        rintro e w' ⟨rfl, rfl⟩
        exact ⟨rfl, Below.refl _ _⟩
      · refine (rcommon_long ha hb hl).mono ?_
        rintro e w' ⟨rfl, rfl⟩
        exact ⟨rfl, Below.refl _ _⟩
      · refine (edits_long ha hb hl).mono ?_
        rintro e w' ⟨rfl, rfl⟩
        exact ⟨none, 0, rfl, fun h => absurd rfl h, Below.refl _ _⟩
      · refine (redits_long ha hb hl).mono ?_
        rintro e w' ⟨rfl, rfl⟩
        exact ⟨none, 0, rfl, fun h => absurd rfl h, Below.refl _ _⟩
    · have hla : a.length ≤ 300 := by omega
      have hlb : b.length ≤ 300 := by omega
      have hln := ed_len a b (a.length + b.length) 0 0
      refine law_core (lcs a b : Nat) (edits a b) (by unfold edits; omega) (by omega) (by omega) (Lib.hid fun W hW => ?_) (Lib.hid fun W hW => ?_) (Lib.hid fun W hW => ?_) (Lib.hid fun W hW => ?_)
      · exact common_any hla hlb (hA.below hW) (hB.below hW)
      · exact rcommon_any hla hlb (hA.below hW) (hB.below hW)
      · refine (edits_any hla hlb (hA.below hW) (hB.below hW)).mono ?_
        rintro e w' ⟨v, rfl, hown, hb'⟩
        obtain ⟨R, cap, rfl, hR, _⟩ := owns_edt hown
        exact ⟨R, cap, rfl, hR, hb'⟩
      · refine (redits_any hla hlb (hA.below hW) (hB.below hW)).mono ?_
        rintro e w' ⟨v, rfl, hown, hb'⟩
        obtain ⟨R, cap, rfl, hR, _⟩ := owns_edt hown
        exact ⟨R, cap, rfl, hR, hb'⟩
end
open Go.ChangeShapes Go.WideShapes Go.ChangeAt Go.Deep
set_option maxRecDepth 100000 in
theorem argsCompareEdits (H : Type) (enc : TypeId × Value → H) (W : World) (args : Array Value) (hargs : Args Try.checked H enc [22, 22] W args) :
    Calls Try.prog 3 args W fun e W' => e = .returned (.bool true) ∧ Below W.heap.size W W' := by
  obtain ⟨base, ds, p, hval, hA⟩ := hargs
  obtain ⟨v0, vs0, d0, ds0, p0, q0, hargs, rfl, rfl, h0, r0⟩ := trodAll_cons hA
  obtain ⟨v1, vs1, d1, ds1, p1, q1, rfl, rfl, rfl, h1, r1⟩ := trodAll_cons r0
  obtain ⟨rfl, rfl, rfl⟩ := trodAll_nil r1
  obtain rfl : args = #[v0, v1] := by cases args; simp_all
  obtain ⟨A, la, ca, rowa, rfl, hla, hlac, hca, hfa, ha⟩ := open_rows (ks := List.replicate 9 K) 5 Try.underlying22 (by kernel_rfl) (by kernel_rfl) (by decide) (hval 0 _ v0 rfl rfl) h0
  obtain ⟨B, lb, cb, rowb, rfl, hlb, hlbc, hcb, hfb, hb⟩ := open_rows (ks := List.replicate 9 K) 5 Try.underlying22 (by kernel_rfl) (by kernel_rfl) (by decide) (hval 1 _ v1 rfl rfl) h1
  obtain ⟨a, rfl, _⟩ := rowsOf (c := Msg.cells) (Q := fun _ => True) (fun vs h => by obtain ⟨x, hx⟩ := fitMsg h; exact ⟨x, hx, trivial⟩) rowa hfa
  obtain ⟨b, rfl, _⟩ := rowsOf (c := Msg.cells) (Q := fun _ => True) (fun vs h => by obtain ⟨x, hx⟩ := fitMsg h; exact ⟨x, hx, trivial⟩) rowb hfb
  simp only [List.length_map] at hla hlb
  subst hla hlb
  have h3 : (a.length : Int) ≤ 9223372036854775807 := by unfold maxLen at hca; omega
  have h4 : (b.length : Int) ≤ 9223372036854775807 := by unfold maxLen at hcb; omega
  exact law_any (by simpa using ha) (by simpa using hb) h3 h4
theorem ownCompareEdits : ownKnob Try.prog.godebug = none := by kernel_rfl
theorem laidCompareEdits : laidOutB Try.prog = true := by kernel_rfl
set_option maxRecDepth 100000 in
theorem liftedCompareEdits (os : Os) (started : os.Started) (H : Type) (enc : TypeId × Value → H) :
    ReturnsInHanded {} Try.checked os 3 .any (Rows.compareEditsSpec.pre6 enc Try.prog Try.f3 Rows.compareEditsRow.domain false) (Rows.compareEditsSpec.post enc Try.prog Try.f3 false true false false) :=
  law_lifted (C := Try.checked) (ts := [22, 22]) (tb := 4) ownCompareEdits laidCompareEdits started (by kernel_rfl) Try.func3 (by kernel_rfl)
    (ChangeSpec.witness6 (enc := enc) (C := Try.checked) false ⟨#[], #[.slice none 0 0, .slice none 0 0], []⟩ 8 (by kernel_rfl) (by kernel_rfl) (by kernel_rfl) (by kernel_rfl))
    rfl (by kernel_rfl) Try.underlying4 (by kernel_rfl)
    (fun ds h => by
      match ds, h with
      | [d0, d1], _ => rfl)
    (fun W args h => argsCompareEdits H enc W args h)
theorem provedCompareEdits : Rows.CompareEditsSaid :=
  OpenClaim.holds_of_wide 3 Try.f3 rfl rfl rfl rfl rfl rfl rfl ⟨rfl, rfl, rfl, rfl, rfl⟩ rfl rfl rfl rfl rfl (by kernel_rfl) Try.func3 (by kernel_rfl)
    (of_decide_eq_true (by kernel_rfl)) (by unfold Func.isWrapper; first | (rw [if_pos (by decide +kernel)]; kernel_rfl) | (rw [if_neg (by decide +kernel)]; exact ⟨rfl, rfl⟩))
    (fun os started H enc _ => liftedCompareEdits os started H enc)
#print axioms provedCompareEdits
end Cmp
end Go.Proofs.Ytpopfjfmppmjdaa
