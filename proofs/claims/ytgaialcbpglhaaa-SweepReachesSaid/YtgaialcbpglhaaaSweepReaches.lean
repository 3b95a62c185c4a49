/- This text proves SweepReaches: whatever the input, the law returns true. It has no conditions. -/
import Derived.Test.YtgaialcbpglhaaaSwV
namespace Go.Proofs.Ytgaialcbpglhaaa
set_option linter.unusedVariables false
open Go.RowKit
namespace Sw
set_option maxHeartbeats 4000000
set_option maxRecDepth 10000
open Bk (bet Bs osOf srt Sl bkO)
theorem reaches_law (l : List Ord) (s lim : Int) (hwf : ∀ o ∈ l, Idx.Wf o.id) (A : Option Addr) (cap : Nat) (w : World) (hr : Rd w 7 A (l.map Ord.cells)) (hml : l.length ≤ maxLen) :
    Calls Try.prog 3 #[.slice A l.length cap, .int .i64 s, .int .i64 lim] w fun e w' => e = .returned (.bool true) ∧ Below w.heap.size w w' := by
  unfold maxLen at hml
  by_cases h60 : 60 < l.length
  · clear hr hwf
    go_enter Try.func3, Try.ntmps3
    go_wp2_with (first | (go_at_call 9; refine (alive_any _).mono ?_; rintro e w2 ⟨rfl, hb2⟩) | fail)
    go_ret
    exact ⟨rfl, hb2⟩
  · have HB := Lib.hid (Bk.books_any l hwf A cap w hr (by omega))
    have h61 : ¬ (60 : Int) < l.length := by omega
    clear hr hwf
    go_enter Try.func3, Try.ntmps3
    go_wp2_with fail
    refine HB.out.mono ?_
    rintro e w1 ⟨b, rb, c, ss, A1, cap1, rfl, W1⟩
    have H1 := Lib.hid (reaches_any W1.two.bs s lim)
    have H2 := Lib.hid (fun W (hW : Below w1.heap.size w1 W) => rreaches_any (W1.two.ext hW).rf s lim)
    have H3 := Lib.hid (fun W => reaches_nil s lim W)
    have hb1 := W1.below
    generalize rchO s lim (osOf ss) = z at *
    clear W1 HB
    go_wp2_with fail
    refine H1.out.mono ?_
    rintro e w2 ⟨rfl, hb2⟩
    go_wp2_with fail
    refine (H2.out _ hb2).mono ?_
    rintro e w3 ⟨rfl, hb3⟩
    go_wp2_with (first | (go_at_call 11; refine (H3.out _).mono ?_; rintro e w4 ⟨rfl, hb4⟩) | (go_at_call 9; refine (alive_any _).mono ?_; rintro e w5 ⟨rfl, hb5⟩) | fail)
    go_ret
    exact ⟨by simp, below_ext hb1 (below_ext hb2 (below_ext hb3 (below_ext hb4 hb5)))⟩
theorem fitOrdW {vs : List Value} (h : fits (List.replicate 7 K) vs) : ∃ s : Ord, vs = s.cells ∧ Idx.Wf s.id := by
  obtain ⟨a0, _, rfl, b0, h⟩ := fitInt h
  obtain ⟨a1, _, rfl, b1, h⟩ := fitInt h
  obtain ⟨a2, _, rfl, b2, h⟩ := fitInt h
  obtain ⟨a3, _, rfl, b3, h⟩ := fitInt h
  obtain ⟨a4, _, rfl, b4, h⟩ := fitInt h
  obtain ⟨a5, _, rfl, b5, h⟩ := fitInt h
  obtain ⟨a6, _, rfl, b6, h⟩ := fitInt h
  obtain rfl := fitNil h
  exact ⟨⟨a0, a1, a2, a3, a4, a5, a6⟩, rfl, WalkArith.wf_i64 b0⟩
open Go.ChangeShapes Go.WideShapes Go.ChangeAt Go.Deep
set_option maxRecDepth 100000 in
theorem argsSweepReaches (H : Type) (enc : TypeId × Value → H) (W : World) (args : Array Value) (hargs : Args Try.checked H enc [22, 3, 2] W args) :
    Calls Try.prog 3 args W fun e W' => e = .returned (.bool true) ∧ Below W.heap.size W W' := by
  obtain ⟨base, ds, p, hval, hA⟩ := hargs
  obtain ⟨v0, vs0, d0, ds0, p0, q0, hargs, rfl, rfl, h0, r0⟩ := trodAll_cons hA
  obtain ⟨v1, vs1, d1, ds1, p1, q1, rfl, rfl, rfl, h1, r1⟩ := trodAll_cons r0
  obtain ⟨v2, vs2, d2, ds2, p2, q2, rfl, rfl, rfl, h2, r2⟩ := trodAll_cons r1
  obtain ⟨rfl, rfl, rfl⟩ := trodAll_nil r2
  obtain rfl : args = #[v0, v1, v2] := by cases args; simp_all
  obtain ⟨A, la, ca, rows, rfl, hla, hlc, hca, hfa, ha⟩ := open_rows (ks := List.replicate 7 K) 5 Try.underlying22 (by kernel_rfl) (by kernel_rfl) (by decide) (hval 0 _ v0 rfl rfl) h0
  obtain ⟨xs, rfl, hwf⟩ := rowsOf (fun vs h => fitOrdW h) rows hfa
  obtain ⟨s, rfl, _⟩ := open_int Try.underlying3 (hval 1 _ v1 rfl rfl) h1
  obtain ⟨lim, rfl, _⟩ := open_int Try.underlying2 (hval 2 _ v2 rfl rfl) h2
  rw [List.length_map] at hla
  subst hla
  exact reaches_law xs s lim hwf A ca W ha (by omega)
theorem ownSweepReaches : ownKnob Try.prog.godebug = none := by kernel_rfl
theorem laidSweepReaches : laidOutB Try.prog = true := by kernel_rfl
set_option maxRecDepth 100000 in
theorem liftedSweepReaches (os : Os) (started : os.Started) (H : Type) (enc : TypeId × Value → H) :
    ReturnsInHanded {} Try.checked os 3 .any (Rows.sweepReachesSpec.pre6 enc Try.prog Try.f3 Rows.sweepReachesRow.domain false) (Rows.sweepReachesSpec.post enc Try.prog Try.f3 false true false false) :=
  law_lifted (C := Try.checked) (ts := [22, 3, 2]) (tb := 4) ownSweepReaches laidSweepReaches started (by kernel_rfl) Try.func3 (by kernel_rfl)
    (ChangeSpec.witness6 (enc := enc) (C := Try.checked) false ⟨#[], #[.slice none 0 0, .int .i64 0, .int .i64 0], []⟩ 8 (by kernel_rfl) (by kernel_rfl) (by kernel_rfl) (by kernel_rfl))
    rfl (by kernel_rfl) Try.underlying4 (by kernel_rfl)
    (fun ds h => by
      match ds, h with
      | [d0, d1, d2], _ => rfl)
    (fun W args h => argsSweepReaches H enc W args h)
theorem provedSweepReaches : Rows.SweepReachesSaid :=
  OpenClaim.holds_of_wide 3 Try.f3 rfl rfl rfl rfl rfl rfl rfl ⟨rfl, rfl, rfl, rfl, rfl⟩ rfl rfl rfl rfl rfl (by kernel_rfl) Try.func3 (by kernel_rfl)
    (of_decide_eq_true (by kernel_rfl)) (by unfold Func.isWrapper; first | (rw [if_pos (by decide +kernel)]; kernel_rfl) | (rw [if_neg (by decide +kernel)]; exact ⟨rfl, rfl⟩))
    (fun os started H enc _ => liftedSweepReaches os started H enc)
#print axioms provedSweepReaches
end Sw
end Go.Proofs.Ytgaialcbpglhaaa
