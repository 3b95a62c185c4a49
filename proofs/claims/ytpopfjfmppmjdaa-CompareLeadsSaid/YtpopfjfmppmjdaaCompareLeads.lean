/- This text proves CompareLeads: whatever the input, the law returns true. It has no conditions. -/
import Derived.Test.YtpopfjfmppmjdaaCmpLeadL
import Derived.Test.YtpopfjfmppmjdaaCmpLists
namespace Go.Proofs.Ytpopfjfmppmjdaa
set_option linter.unusedVariables false
open Go.RowKit
namespace Cmp
set_option maxHeartbeats 1000000
set_option maxRecDepth 10000
section
variable {w : World} {A : Option Addr} {ca : Nat} {B : Option Addr} {cb : Nat} {a b : List Msg}
theorem leads_core (n : Nat) (l : List Edt) (ha : (a.length : Int) ≤ 100) (hb : (b.length : Int) ≤ 100) (hl : l.length ≤ 1000) (hk : Hid (kept l = n)) (hn1 : (n : Int) ≤ (a.length : Int)) (hn2 : (n : Int) ≤ (b.length : Int))
    (hA : Rd w 9 A (a.map Msg.cells)) (hB : Rd w 9 B (b.map Msg.cells)) (hlen : Hid ((l.length : Int) = (a.length : Int) + (b.length : Int) - (n : Int)))
    (hed : Hid (edits a b = l)) (hap : Hid (ap a b l 0 0 = true)) (hc1 : Hid (lcs a b = n)) (hc2 : Hid (lcs b a = n)) (hc3 : Hid (lcs a a = a.length)) :
    Calls Try.prog 5 #[.slice A a.length ca, .slice B b.length cb] w fun e w' => e = .returned (.bool true) ∧ Below w.heap.size w w' := by
  have k1 : Hid (Calls Try.prog 11 #[.slice A a.length ca, .slice B b.length cb] w (EditsPost a b w)) := Lib.hid (edits_any (by omega) (by omega) hA hB)
  have k3 : Hid (∀ W, Below w.heap.size w W → Calls Try.prog 7 #[.slice A a.length ca, .slice B b.length cb] W fun e W' => e = .returned (.int .i64 n) ∧ Below W.heap.size W W') := Lib.hid (fun W hW => by
    have := common_any (w := W) (ca := ca) (cb := cb) (by omega) (by omega) (hA.below hW) (hB.below hW)
    rw [hc1.out] at this
    exact this)
  have k4 : Hid (∀ W, Below w.heap.size w W → Calls Try.prog 7 #[.slice B b.length cb, .slice A a.length ca] W fun e W' => e = .returned (.int .i64 n) ∧ Below W.heap.size W W') := Lib.hid (fun W hW => by
    have := common_any (w := W) (ca := cb) (cb := ca) (by omega) (by omega) (hB.below hW) (hA.below hW)
    rw [hc2.out] at this
    exact this)
  have k5 : Hid (∀ W, Below w.heap.size w W → Calls Try.prog 7 #[.slice A a.length ca, .slice A a.length ca] W fun e W' => e = .returned (.int .i64 a.length) ∧ Below W.heap.size W W') := Lib.hid (fun W hW => by
    have := common_any (w := W) (ca := ca) (cb := ca) (by omega) (by omega) (hA.below hW) (hA.below hW)
    rw [hc3.out] at this
    exact this)
  have k2 : Hid (∀ W S cs, Below w.heap.size w W → Rd W 3 S (l.map Edt.cells) → Calls Try.prog 13 #[.slice A a.length ca, .slice B b.length cb, .slice S l.length cs] W (ApPost true b W)) := Lib.hid (fun W S cs hW hS => by
    have := apply_any (w := W) (ca := ca) (cb := cb) (cl := cs) (L := S) (l := l) (by omega) (by omega) hl (hA.below hW) (hB.below hW) hS
    rw [hap.out] at this
    exact this)
  replace hB := Lib.hid hB
  clear hA hap hc1 hc2 hc3
  go_enter Try.func5, Try.ntmps5
  go_wp2_with (first
    | (go_at_call 11; refine k1.out.mono ?_; rintro e w1 ⟨v1, rfl, hown1, hb1⟩; rw [hed.out] at hown1; obtain ⟨S, cs, rfl, hS, _⟩ := owns_edt hown1)
    | (go_at_call 13; refine (k2.out w1 S cs hb1 hS).mono ?_; rintro e w2 ⟨v2, rfl, hown2, hb2⟩; have h02 := below_ext hb1 hb2)
    | fail)
  have hSl := Lib.hid (hS.below hb2)
  replace hown2 := Lib.hid hown2
  clear hown1 hS
  go_loopw [8, 9] (fun q i wr => ∃ k : Nat, i = .int .i64 k ∧ q = .int .i64 (kept (l.take k)) ∧ k ≤ l.length ∧ Below w2.heap.size w2 wr) (fun _ i _ => l.length - (intOf i).toNat)
  case atStart => exact ⟨0, rfl, rfl, Nat.zero_le _, Below.refl _ _⟩
  case round =>
    obtain ⟨k, rfl, rfl, hkl, hbr⟩ := hrel
    by_cases hlt : k < l.length
    · have e1 : (k : Int) < (l.length : Int) := by omega
      obtain ⟨b1, o1, rfl, r1, m1⟩ := rd_edt (hSl.out.below hbr) hlt
      have htk : Hid (kept (l.take (k + 1)) = kept (l.take k) + (if l[k].op = 0 then 1 else 0)) := Lib.hid (by rw [List.take_succ_eq_append_getElem hlt, kept_snoc])
      have hq := kept_le (l.take k)
      have hq2 : (l.take k).length ≤ 1000 := by simp; omega
      generalize kept (l.take k) = q at *
      have c0 : wr.cell? ⟨b1, o1 + k * 3, none⟩ = some (.int .i64 l[k].op) := r1 0 _ rfl
      clear r1
      generalize l[k] = x at *
      by_cases h0 : x.op = 0
      · rw [h0] at c0
        rw [if_pos h0] at htk
        replace h0 := Lib.hid h0
        go_wp2_with fail
        go_roundw
        case rel => exact ⟨k + 1, by go_num, by rw [htk.out]; go_num, by omega, hbr⟩
        case measure => simp [intOf]; omega
      · rw [if_neg h0] at htk
        have h1 : (x.op == (0 : Int)) = false := by simpa using h0
        go_wp2_with fail
        go_roundw
        case rel => exact ⟨k + 1, by go_num, by rw [htk.out]; go_num, by omega, hbr⟩
        case measure => simp [intOf]; omega
    · have ht : k = l.length := by omega
      subst ht
      rw [List.take_of_length_le (Nat.le_refl _), hk.out]
      have h0r := below_ext h02 hbr
      replace hlen := Lib.hid hlen
      go_wp2_with (first
        | ((go_at_call 7); (with_reducible refine (k3.out wr h0r).mono ?_); rintro e w3 ⟨rfl, hb3⟩; have h03 := below_ext h0r hb3)
        | ((go_at_call 7); (with_reducible refine (k4.out w4 h04).mono ?_); rintro e w5 ⟨rfl, hb5⟩; have h05 := below_ext h04 hb5)
        | ((go_at_call 7); (with_reducible refine (k5.out w5 h05).mono ?_); rintro e w6 ⟨rfl, hb6⟩; have h06 := below_ext h05 hb6)
        | (go_at_call 15; obtain ⟨R1, c1, rfl, hR1, _⟩ := owns_msg hown2.out; refine (lists_any (l := apRes true b) (by simp [apRes]; omega) (hR1.below (below_ext hbr hb3)) (hB.out.below h03)).mono ?_; rintro e w4 ⟨rfl, hb4⟩; have h04 := below_ext h03 hb4)
        | (go_at_call 6; refine (alive_any w6).mono ?_; rintro e w7 ⟨rfl, hb7⟩; have h07 := below_ext h06 hb7)
        | fail)
      go_ret
      exact ⟨rfl, h07⟩
theorem leads_far (h : (100 : Int) < (a.length : Int) ∨ (100 : Int) < (b.length : Int)) :
    Calls Try.prog 5 #[.slice A a.length ca, .slice B b.length cb] w fun e w' => e = .returned (.bool true) ∧ Below w.heap.size w w' := by
  by_cases h1 : (100 : Int) < (a.length : Int)
  · clear h
    go_enter Try.func5, Try.ntmps5
    go_wp2_with (go_at_call 6; refine (alive_any w).mono ?_; rintro e w7 ⟨rfl, hb7⟩)
    go_ret
    exact ⟨rfl, hb7⟩
  · have h2 : (100 : Int) < (b.length : Int) := by omega
    clear h
    go_enter Try.func5, Try.ntmps5
    go_wp2_with (go_at_call 6; refine (alive_any w).mono ?_; rintro e w7 ⟨rfl, hb7⟩)
    go_ret
    exact ⟨rfl, hb7⟩
theorem leads_any (hA : Rd w 9 A (a.map Msg.cells)) (hB : Rd w 9 B (b.map Msg.cells)) :
    Calls Try.prog 5 #[.slice A a.length ca, .slice B b.length cb] w fun e w' => e = .returned (.bool true) ∧ Below w.heap.size w w' := by
  by_cases h : (100 : Int) < (a.length : Int) ∨ (100 : Int) < (b.length : Int)
  · exact leads_far h
  · obtain ⟨h1, h2, h3⟩ := edits_leads a b
    have h4 := lcs_le1 a b
    have h5 := lcs_le2 a b
    exact leads_core (lcs a b) (edits a b) (by omega) (by omega) (by omega) (Lib.hid h2) (by omega) (by omega) hA hB (Lib.hid (by omega)) (Lib.hid rfl) (Lib.hid h1) (Lib.hid rfl) (Lib.hid (lcs_comm _ b a (Nat.le_refl _))) (Lib.hid (lcs_self a))
end
open Go.ChangeShapes Go.WideShapes Go.ChangeAt Go.Deep
set_option maxRecDepth 100000 in
theorem argsCompareLeads (H : Type) (enc : TypeId × Value → H) (W : World) (args : Array Value) (hargs : Args Try.checked H enc [22, 22] W args) :
    Calls Try.prog 5 args W fun e W' => e = .returned (.bool true) ∧ Below W.heap.size W W' := by
  obtain ⟨base, ds, p, hval, hA⟩ := hargs
  obtain ⟨v0, vs0, d0, ds0, p0, q0, hargs, rfl, rfl, h0, r0⟩ := trodAll_cons hA
  obtain ⟨v1, vs1, d1, ds1, p1, q1, rfl, rfl, rfl, h1, r1⟩ := trodAll_cons r0
  obtain ⟨rfl, rfl, rfl⟩ := trodAll_nil r1
  obtain rfl : args = #[v0, v1] := by cases args; simp_all
  obtain ⟨A, la, ca, rowa, rfl, hla, hlac, hca, hfa, ha⟩ := open_rows (ks := List.replicate 9 K) 5 Try.underlying22 (by kernel_rfl) (by kernel_rfl) (by decide) (hval 0 _ v0 rfl rfl) h0
  obtain ⟨B, lb, cb, rowb, rfl, hlb, hlbc, hcb, hfb, hb⟩ := open_rows (ks := List.replicate 9 K) 5 Try.underlying22 (by kernel_rfl) (by kernel_rfl) (by decide) (hval 1 _ v1 rfl rfl) h1
  obtain ⟨a, rfl, _⟩ := rowsOf (c := Msg.cells) (Q := fun _ => True) (fun vs h => by obtain ⟨x, hx⟩ := fitMsg h; exact ⟨x, hx, trivial⟩) rowa hfa
  obtain ⟨b, rfl, _⟩ := rowsOf (c := Msg.cells) (Q := fun _ => True) (fun vs h => by obtain ⟨x, hx⟩ := fitMsg h; exact ⟨x, hx, trivial⟩) rowb hfb
  simp only [List.length_map] at hla hlb
  subst hla hlb
  exact leads_any (by simpa using ha) (by simpa using hb)
theorem ownCompareLeads : ownKnob Try.prog.godebug = none := by kernel_rfl
theorem laidCompareLeads : laidOutB Try.prog = true := by kernel_rfl
set_option maxRecDepth 100000 in
theorem liftedCompareLeads (os : Os) (started : os.Started) (H : Type) (enc : TypeId × Value → H) :
    ReturnsInHanded {} Try.checked os 5 .any (Rows.compareLeadsSpec.pre6 enc Try.prog Try.f5 Rows.compareLeadsRow.domain false) (Rows.compareLeadsSpec.post enc Try.prog Try.f5 false true false false) :=
  law_lifted (C := Try.checked) (ts := [22, 22]) (tb := 4) ownCompareLeads laidCompareLeads started (by kernel_rfl) Try.func5 (by kernel_rfl)
    (ChangeSpec.witness6 (enc := enc) (C := Try.checked) false ⟨#[], #[.slice none 0 0, .slice none 0 0], []⟩ 8 (by kernel_rfl) (by kernel_rfl) (by kernel_rfl) (by kernel_rfl))
    rfl (by kernel_rfl) Try.underlying4 (by kernel_rfl)
    (fun ds h => by
      match ds, h with
      | [d0, d1], _ => rfl)
    (fun W args h => argsCompareLeads H enc W args h)
theorem provedCompareLeads : Rows.CompareLeadsSaid :=
  OpenClaim.holds_of_wide 5 Try.f5 rfl rfl rfl rfl rfl rfl rfl ⟨rfl, rfl, rfl, rfl, rfl⟩ rfl rfl rfl rfl rfl (by kernel_rfl) Try.func5 (by kernel_rfl)
    (of_decide_eq_true (by kernel_rfl)) (by unfold Func.isWrapper; first | (rw [if_pos (by decide +kernel)]; kernel_rfl) | (rw [if_neg (by decide +kernel)]; exact ⟨rfl, rfl⟩))
    (fun os started H enc _ => liftedCompareLeads os started H enc)
#print axioms provedCompareLeads
end Cmp
end Go.Proofs.Ytpopfjfmppmjdaa
