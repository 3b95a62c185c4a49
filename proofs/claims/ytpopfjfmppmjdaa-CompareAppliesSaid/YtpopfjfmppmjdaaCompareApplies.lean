/- This text proves CompareApplies: whatever the input, the law returns true. It has no conditions. -/
import Derived.Test.YtpopfjfmppmjdaaCmpRAp
import Derived.Test.YtpopfjfmppmjdaaCmpLists
namespace Go.Proofs.Ytpopfjfmppmjdaa
set_option linter.unusedVariables false
open Go.RowKit
namespace Cmp
set_option maxHeartbeats 1000000
set_option maxRecDepth 10000
section
variable {w : World} {A : Option Addr} {ca : Nat} {B : Option Addr} {cb : Nat} {L : Option Addr} {cl : Nat} {a b : List Msg} {l : List Edt}
theorem apres_le (c : Bool) (hb : b.length ≤ 300) : (apRes c b).length ≤ 1000 := by
  cases c
  · simp [apRes]
  · simp [apRes]; omega
theorem app_core (ha : (a.length : Int) ≤ 100) (hb : (b.length : Int) ≤ 100) (hl : (l.length : Int) ≤ 200) (hA : Rd w 9 A (a.map Msg.cells)) (hB : Rd w 9 B (b.map Msg.cells)) (hL : Rd w 3 L (l.map Edt.cells)) :
    Calls Try.prog 4 #[.slice A a.length ca, .slice B b.length cb, .slice L l.length cl] w fun e w' => e = .returned (.bool true) ∧ Below w.heap.size w w' := by
  replace hA := Lib.hid hA
  replace hB := Lib.hid hB
  replace hL := Lib.hid hL
  go_enter Try.func4, Try.ntmps4
  go_wp2_with fail
  go_loopw [7, 8] (fun v i wr => ∃ (k : Nat) (vv : Value), vv = v ∧ i = .int .i64 k ∧ k ≤ l.length ∧ wr.ownsRow w.heap.size 34 3 vv (l.take k).length (flatE (l.take k)) ∧ Below w.heap.size w wr) (fun _ i _ => l.length - (intOf i).toNat)
  case atStart => exact ⟨0, _, rfl, rfl, Nat.zero_le _, World.ownsRow_nil _ _ _ _, Below.refl _ _⟩
  case round =>
    obtain ⟨k, vv, rfl, rfl, hk, hown, hb'⟩ := hrel
    by_cases hlt : k < l.length
    · have e1 : (k : Int) < (l.length : Int) := by omega
      obtain ⟨b1, o1, rfl, r1, m1⟩ := rd_edt (hL.out.below hb') hlt
      obtain ⟨b2, o2, e2, r2, m2⟩ := rd_edt hL.out hlt
      cases e2
      have htk : Hid (l.take (k + 1) = l.take k ++ [l[k]]) := Lib.hid (by rw [List.take_succ_eq_append_getElem hlt])
      have hln : (l.take k).length ≤ 1000 := by simp; omega
      have HS : Hid (∀ W, Below w.heap.size w W → SB b1 (o1 + k * 3) l[k] W) := Lib.hid (fun W hW => SB.of (rng_ext r2 hW))
      generalize l[k] = x at *
      generalize l.take k = acc at *
      go_wp2_with fail
      refine wp_region_T (S := SB b1 (o1 + k * 3) x) 20 (by kernel_rfl) ?_
      have hb1 : Below w.heap.size w wr.drew := hb'.drew
      have hown1 : wr.drew.ownsRow w.heap.size 34 3 vv acc.length (flatE acc) := hown
      generalize wr.drew = w1 at hb1 hown1 ⊢
      have hS := HS.out _ hb1
      (refine T_take (i := 0) rfl (by kernel_rfl) (fun _ _ _ _ h => h) hS ?_; apply Exists.intro; refine ⟨.inl ⟨by rfl, fun W hW => ?_⟩, ?_⟩; (next => (obtain ⟨hs1, hs2⟩ := hW; go_simp; first | done | rfl)); simp only [Act.put, List.setIfInBounds_toArray, List.set_cons_zero, List.set_cons_succ])
      (refine T_take (i := 1) rfl (by kernel_rfl) (fun _ _ _ _ h => h) hS ?_; apply Exists.intro; refine ⟨.inl ⟨by rfl, fun W hW => ?_⟩, ?_⟩; (next => (obtain ⟨hs1, hs2⟩ := hW; go_simp; first | done | rfl)); simp only [Act.put, List.setIfInBounds_toArray, List.set_cons_zero, List.set_cons_succ])
      (refine T_take (i := 2) rfl (by kernel_rfl) (fun _ _ _ _ h => h) hS ?_; apply Exists.intro; refine ⟨.inl ⟨by rfl, fun W hW => ?_⟩, ?_⟩; (next => (obtain ⟨hs1, hs2⟩ := hW; go_simp; first | done | rfl)); simp only [Act.put, List.setIfInBounds_toArray, List.set_cons_zero, List.set_cons_succ])
      (refine T_take (i := 3) rfl (by kernel_rfl) (fun _ _ _ _ h => h) hS ?_; apply Exists.intro; refine ⟨.inl ⟨by rfl, fun W hW => ?_⟩, ?_⟩; (next => (obtain ⟨hs1, hs2⟩ := hW; go_simp; first | done | rfl)); simp only [Act.put, List.setIfInBounds_toArray, List.set_cons_zero, List.set_cons_succ])
      (refine T_take (i := 4) rfl (by kernel_rfl) (fun _ _ _ _ h => h) hS ?_; apply Exists.intro; refine ⟨.inl ⟨by rfl, fun W hW => ?_⟩, ?_⟩; (next => (obtain ⟨hs1, hs2⟩ := hW; go_simp; first | done | rfl)); simp only [Act.put, List.setIfInBounds_toArray, List.set_cons_zero, List.set_cons_succ])
      (refine T_take (i := 5) rfl (by kernel_rfl) (fun _ _ _ _ h => h) hS ?_; apply Exists.intro; refine ⟨.inl ⟨by rfl, fun W hW => ?_⟩, ?_⟩; (next => (obtain ⟨hs1, hs2⟩ := hW; go_simp; first | done | rfl)); simp only [Act.put, List.setIfInBounds_toArray, List.set_cons_zero, List.set_cons_succ])
      (refine T_take (i := 6) rfl (by kernel_rfl) (fun _ _ _ _ h => h) hS ?_; apply Exists.intro; refine ⟨.inl ⟨by rfl, fun W hW => ?_⟩, ?_⟩; (next => (obtain ⟨hs1, hs2⟩ := hW; go_simp; first | done | rfl)); simp only [Act.put, List.setIfInBounds_toArray, List.set_cons_zero, List.set_cons_succ])
      (refine T_take (i := 7) rfl (by kernel_rfl) (fun _ _ _ _ h => h) hS ?_; apply Exists.intro; refine ⟨.inl ⟨by rfl, fun W hW => ?_⟩, ?_⟩; (next => (obtain ⟨hs1, hs2⟩ := hW; go_simp; first | done | rfl)); simp only [Act.put, List.setIfInBounds_toArray, List.set_cons_zero, List.set_cons_succ])
      (refine T_take (i := 8) rfl (by kernel_rfl) (fun _ _ _ _ h => h) hS ?_; apply Exists.intro; refine ⟨.inl ⟨by rfl, fun W hW => ?_⟩, ?_⟩; (next => (obtain ⟨hs1, hs2⟩ := hW; go_simp; first | done | rfl)); simp only [Act.put, List.setIfInBounds_toArray, List.set_cons_zero, List.set_cons_succ])
      (refine T_take (i := 9) rfl (by kernel_rfl) (fun _ _ _ _ h => h) hS ?_; apply Exists.intro; refine ⟨.inl ⟨by rfl, fun W hW => ?_⟩, ?_⟩; (next => (obtain ⟨hs1, hs2⟩ := hW; go_simp; first | done | rfl)); simp only [Act.put, List.setIfInBounds_toArray, List.set_cons_zero, List.set_cons_succ])
      (refine T_take (i := 10) rfl (by kernel_rfl) (fun _ _ _ _ h => h) hS ?_; apply Exists.intro; refine ⟨.inl ⟨by rfl, fun W hW => ?_⟩, ?_⟩; (next => (obtain ⟨hs1, hs2⟩ := hW; go_simp; first | done | rfl)); simp only [Act.put, List.setIfInBounds_toArray, List.set_cons_zero, List.set_cons_succ])
      (refine T_take (i := 11) rfl (by kernel_rfl) (fun _ _ _ _ h => h) hS ?_; apply Exists.intro; refine ⟨.inl ⟨by rfl, fun W hW => ?_⟩, ?_⟩; (next => (obtain ⟨hs1, hs2⟩ := hW; go_simp; first | done | rfl)); simp only [Act.put, List.setIfInBounds_toArray, List.set_cons_zero, List.set_cons_succ])
      (refine T_take (i := 12) rfl (by kernel_rfl) (fun _ _ _ _ h => h) hS ?_; apply Exists.intro; refine ⟨.inl ⟨by rfl, fun W hW => ?_⟩, ?_⟩; (next => (obtain ⟨hs1, hs2⟩ := hW; go_simp; first | done | rfl)); simp only [Act.put, List.setIfInBounds_toArray, List.set_cons_zero, List.set_cons_succ])
      (refine T_take (i := 13) rfl (by kernel_rfl) (fun _ _ _ _ h => h) hS ?_; apply Exists.intro; refine ⟨.inl ⟨by rfl, fun W hW => ?_⟩, ?_⟩; (next => (obtain ⟨hs1, hs2⟩ := hW; go_simp; first | done | rfl)); simp only [Act.put, List.setIfInBounds_toArray, List.set_cons_zero, List.set_cons_succ])
      (refine T_take (i := 14) rfl (by kernel_rfl) (fun _ _ _ _ h => h) hS ?_; apply Exists.intro; refine ⟨.inl ⟨by rfl, fun W hW => ?_⟩, ?_⟩; (next => (obtain ⟨hs1, hs2⟩ := hW; go_simp; first | done | rfl)); simp only [Act.put, List.setIfInBounds_toArray, List.set_cons_zero, List.set_cons_succ])
      (refine T_take (i := 15) rfl (by kernel_rfl) (fun _ _ _ _ h => h) hS ?_; apply Exists.intro; refine ⟨.inl ⟨by rfl, fun W hW => ?_⟩, ?_⟩; (next => (obtain ⟨hs1, hs2⟩ := hW; go_simp; first | done | rfl)); simp only [Act.put, List.setIfInBounds_toArray, List.set_cons_zero, List.set_cons_succ])
      (refine T_take (i := 16) rfl (by kernel_rfl) (fun _ _ _ _ h => h) hS ?_; apply Exists.intro; refine ⟨.inl ⟨by rfl, fun W hW => ?_⟩, ?_⟩; (next => (obtain ⟨hs1, hs2⟩ := hW; go_simp; first | done | rfl)); simp only [Act.put, List.setIfInBounds_toArray, List.set_cons_zero, List.set_cons_succ])
      refine T_all [17] (by kernel_rfl) (by decide) ?_
      intro j hj
      simp only [List.mem_cons, List.mem_nil_iff, or_false, List.not_mem_nil] at hj
      subst hj
      refine T_op rfl (by rfl) ?_
      refine wp_build1 28 34 _ (by rfl) (.agg #[.int .i64 0, .int .i64 0, .int .i64 0]) 3 Try.underlying28 (by kernel_rfl) ⟨by decide, by decide⟩ (.agg #[.int .i64 x.op, .int .i64 x.a, .int .i64 x.b]) (by rfl) #[.int .i64 x.op, .int .i64 x.a, .int .i64 x.b] (by kernel_rfl) ?_
      intro w4 hB4 hb4' hz4
      have hb4 : Below w.heap.size w w4 := hb1.trans (hb4'.mono hb1.size)
      refine ⟨.inr (HS.out _ hb4), ?_⟩
      simp only [Act.put, List.setIfInBounds_toArray, List.set_cons_zero, List.set_cons_succ]
      refine T_all [18] (by kernel_rfl) (by decide) ?_
      intro j hj
      simp only [List.mem_cons, List.mem_nil_iff, or_false, List.not_mem_nil] at hj
      subst hj
      refine T_op rfl (by rfl) ?_
      refine wp_append_rd _ _ _ (by rfl) w.heap.size 34 (.agg #[.int .i64 0, .int .i64 0, .int .i64 0]) 3 24 Try.underlying28 (by kernel_rfl) ⟨rfl, by decide⟩ vv acc.length _ (by rfl) (owns_ext hown1 hb4') (some ⟨w1.heap.size, 0, none⟩) 1 1 [x.cells] (by rfl) (rd_own hB4 (by simp [Edt.cells]) (n := 1) (by simp [Edt.cells])) ⟨rfl, by simp [Edt.cells, Value.oneCell']⟩ (by simp) ⟨by unfold maxLen; omega, by omega⟩ (by have := hb1.size; omega) ?_
      intro v5 w5 hown5 hb5' hz5 hk5
      have hb5 : Below w.heap.size w w5 := hb4.trans hb5'
      refine ⟨.inr (HS.out _ hb5), ?_⟩
      simp only [Act.put, List.setIfInBounds_toArray, List.set_cons_zero, List.set_cons_succ]
      have hS := HS.out _ hb5
      (refine T_take (i := 19) rfl (by kernel_rfl) (fun _ _ _ _ h => h) hS ?_; apply Exists.intro; refine ⟨.inl ⟨by rfl, fun W hW => ?_⟩, ?_⟩; (next => (obtain ⟨hs1, hs2⟩ := hW; go_simp; first | done | rfl)); simp only [Act.put, List.setIfInBounds_toArray, List.set_cons_zero, List.set_cons_succ])
      refine T_done (by kernel_rfl) ?_
      go_wp2_with fail
      go_roundw
      case rel => exact ⟨k + 1, _, rfl, by go_num, by omega, by rw [htk.out, List.length_append, flatE_app]; simpa [flatE] using hown5, hb5⟩
      case measure => simp [intOf]; omega
    · have ht : k = l.length := by omega
      subst ht
      rw [List.take_of_length_le (Nat.le_refl _)] at hown
      obtain ⟨S, cs, rfl, hS, hcs⟩ := owns_edt hown
      have K1 : Hid (∀ W, Below w.heap.size w W → Below wr.heap.size wr W → Calls Try.prog 13 #[.slice A a.length ca, .slice B b.length cb, .slice S l.length cs] W (ApPost (ap a b l 0 0) b W)) := Lib.hid (fun W h1 h2 => apply_any (by omega) (by omega) (by omega) (hA.out.below h1) (hB.out.below h1) (hS.below h2))
      have K2 : Hid (∀ W, Below w.heap.size w W → Calls Try.prog 14 #[.slice A a.length ca, .slice B b.length cb, .slice L l.length cl] W (ApPost (ap a b l 0 0) b W)) := Lib.hid (fun W h1 => rapply_any (by omega) (by omega) (by omega) (hA.out.below h1) (hB.out.below h1) (hL.out.below h1))
      have hle := Lib.hid (apres_le (ap a b l 0 0) (b := b) (by omega))
      clear hown hS hA hB hL
      go_wp2_with (first
        | (go_at_call 13; refine (K1.out wr hb' (Below.refl _ _)).mono ?_; rintro e w1 ⟨v1, rfl, hown1, hb1⟩; have h01 := below_ext hb' hb1)
        | (go_at_call 14; refine (K2.out w1 h01).mono ?_; rintro e w2 ⟨v2, rfl, hown2, hb2⟩; have h02 := below_ext h01 hb2)
        | (go_at_call 15; obtain ⟨R1, c1, rfl, hR1, _⟩ := owns_msg hown1; obtain ⟨R2, c2, rfl, hR2, _⟩ := owns_msg hown2; refine (lists_any (l := apRes (ap a b l 0 0) b) hle.out (hR1.below hb2) hR2).mono ?_; rintro e w3 ⟨rfl, hb3⟩; have h03 := below_ext h02 hb3)
        | (go_at_call 6; refine (alive_any w3).mono ?_; rintro e w4 ⟨rfl, hb4⟩; have h04 := below_ext h03 hb4)
        | fail)
      go_ret
      exact ⟨rfl, h04⟩
theorem app_far (h : (100 : Int) < (a.length : Int) ∨ (100 : Int) < (b.length : Int) ∨ (200 : Int) < (l.length : Int)) :
    Calls Try.prog 4 #[.slice A a.length ca, .slice B b.length cb, .slice L l.length cl] w fun e w' => e = .returned (.bool true) ∧ Below w.heap.size w w' := by
  by_cases h1 : (100 : Int) < (a.length : Int)
  · clear h
    go_enter Try.func4, Try.ntmps4
    go_wp2_with (go_at_call 6; refine (alive_any w).mono ?_; rintro e w7 ⟨rfl, hb7⟩)
    go_ret
    exact ⟨rfl, hb7⟩
  · by_cases h2 : (100 : Int) < (b.length : Int)
    · clear h
      go_enter Try.func4, Try.ntmps4
      go_wp2_with (go_at_call 6; refine (alive_any w).mono ?_; rintro e w7 ⟨rfl, hb7⟩)
      go_ret
      exact ⟨rfl, hb7⟩
    · have h3 : (200 : Int) < (l.length : Int) := by omega
      clear h
      go_enter Try.func4, Try.ntmps4
      go_wp2_with (go_at_call 6; refine (alive_any w).mono ?_; rintro e w7 ⟨rfl, hb7⟩)
      go_ret
      exact ⟨rfl, hb7⟩
theorem app_any (hA : Rd w 9 A (a.map Msg.cells)) (hB : Rd w 9 B (b.map Msg.cells)) (hL : Rd w 3 L (l.map Edt.cells)) :
    Calls Try.prog 4 #[.slice A a.length ca, .slice B b.length cb, .slice L l.length cl] w fun e w' => e = .returned (.bool true) ∧ Below w.heap.size w w' := by
  by_cases h : (100 : Int) < (a.length : Int) ∨ (100 : Int) < (b.length : Int) ∨ (200 : Int) < (l.length : Int)
  · exact app_far h
  · exact app_core (by omega) (by omega) (by omega) hA hB hL
end
open Go.ChangeShapes Go.WideShapes Go.ChangeAt Go.Deep
set_option maxRecDepth 100000 in
theorem argsCompareApplies (H : Type) (enc : TypeId × Value → H) (W : World) (args : Array Value) (hargs : Args Try.checked H enc [22, 22, 26] W args) :
    Calls Try.prog 4 args W fun e W' => e = .returned (.bool true) ∧ Below W.heap.size W W' := by
  obtain ⟨base, ds, p, hval, hA⟩ := hargs
  obtain ⟨v0, vs0, d0, ds0, p0, q0, hargs, rfl, rfl, h0, r0⟩ := trodAll_cons hA
  obtain ⟨v1, vs1, d1, ds1, p1, q1, rfl, rfl, rfl, h1, r1⟩ := trodAll_cons r0
  obtain ⟨v2, vs2, d2, ds2, p2, q2, rfl, rfl, rfl, h2, r2⟩ := trodAll_cons r1
  obtain ⟨rfl, rfl, rfl⟩ := trodAll_nil r2
  obtain rfl : args = #[v0, v1, v2] := by cases args; simp_all
  obtain ⟨A, la, ca, rowa, rfl, hla, hlac, hca, hfa, ha⟩ := open_rows (ks := List.replicate 9 K) 5 Try.underlying22 (by kernel_rfl) (by kernel_rfl) (by decide) (hval 0 _ v0 rfl rfl) h0
  obtain ⟨B, lb, cb, rowb, rfl, hlb, hlbc, hcb, hfb, hb⟩ := open_rows (ks := List.replicate 9 K) 5 Try.underlying22 (by kernel_rfl) (by kernel_rfl) (by decide) (hval 1 _ v1 rfl rfl) h1
  obtain ⟨L, ll, cl, rowl, rfl, hll, hllc, hcl, hfl, hl⟩ := open_rows (ks := List.replicate 3 K) 5 Try.underlying26 (by kernel_rfl) (by kernel_rfl) (by decide) (hval 2 _ v2 rfl rfl) h2
  obtain ⟨a, rfl, _⟩ := rowsOf (c := Msg.cells) (Q := fun _ => True) (fun vs h => by obtain ⟨x, hx⟩ := fitMsg h; exact ⟨x, hx, trivial⟩) rowa hfa
  obtain ⟨b, rfl, _⟩ := rowsOf (c := Msg.cells) (Q := fun _ => True) (fun vs h => by obtain ⟨x, hx⟩ := fitMsg h; exact ⟨x, hx, trivial⟩) rowb hfb
  obtain ⟨l, rfl, _⟩ := rowsOf (c := Edt.cells) (Q := fun _ => True) (fun vs h => by obtain ⟨x, hx, _⟩ := fitEdt h; exact ⟨x, hx, trivial⟩) rowl hfl
  simp only [List.length_map] at hla hlb hll
  subst hla hlb hll
  exact app_any (by simpa using ha) (by simpa using hb) (by simpa using hl)
theorem ownCompareApplies : ownKnob Try.prog.godebug = none := by kernel_rfl
theorem laidCompareApplies : laidOutB Try.prog = true := by kernel_rfl
set_option maxRecDepth 100000 in
theorem liftedCompareApplies (os : Os) (started : os.Started) (H : Type) (enc : TypeId × Value → H) :
    ReturnsInHanded {} Try.checked os 4 .any (Rows.compareAppliesSpec.pre6 enc Try.prog Try.f4 Rows.compareAppliesRow.domain false) (Rows.compareAppliesSpec.post enc Try.prog Try.f4 false true false false) :=
  law_lifted (C := Try.checked) (ts := [22, 22, 26]) (tb := 4) ownCompareApplies laidCompareApplies started (by kernel_rfl) Try.func4 (by kernel_rfl)
    (ChangeSpec.witness6 (enc := enc) (C := Try.checked) false ⟨#[], #[.slice none 0 0, .slice none 0 0, .slice none 0 0], []⟩ 8 (by kernel_rfl) (by kernel_rfl) (by kernel_rfl) (by kernel_rfl))
    rfl (by kernel_rfl) Try.underlying4 (by kernel_rfl)
    (fun ds h => by
      match ds, h with
      | [d0, d1, d2], _ => rfl)
    (fun W args h => argsCompareApplies H enc W args h)
theorem provedCompareApplies : Rows.CompareAppliesSaid :=
  OpenClaim.holds_of_wide 4 Try.f4 rfl rfl rfl rfl rfl rfl rfl ⟨rfl, rfl, rfl, rfl, rfl⟩ rfl rfl rfl rfl rfl (by kernel_rfl) Try.func4 (by kernel_rfl)
    (of_decide_eq_true (by kernel_rfl)) (by unfold Func.isWrapper; first | (rw [if_pos (by decide +kernel)]; kernel_rfl) | (rw [if_neg (by decide +kernel)]; exact ⟨rfl, rfl⟩))
    (fun os started H enc _ => liftedCompareApplies os started H enc)
#print axioms provedCompareApplies
end Cmp
end Go.Proofs.Ytpopfjfmppmjdaa
