/- This text proves contracts of a held book's functions that only read: Worth, Fits, Room, Len, Crossed. It has no conditions but those that it states. -/
import Derived.Test.YtacpjpkhmdcagaaBkG
namespace Go.Proofs.Ytacpjpkhmdcagaa
set_option linter.unusedVariables false
open Go.RowKit
namespace Bk
set_option maxHeartbeats 1000000
set_option maxRecDepth 10000
open Are (St Ar ord0 ordArr_one)
open Lad (La LStep Fresh lvlZ)
open Fif (Fq up up_same up_ne)
open Idx (R3 Xq Wf)
section
variable {w : World} {c : Nat → Nat} {b N most k : Nat} {ss : List Sl}
/-! ### what a side has up to a limit -/
/-! ### room -/
theorem fits_off (p : Option Addr) (i q : Int) (h : p = none ∨ (i ≠ 0 ∧ i ≠ 1)) (w : World) : Calls Try.prog 56 #[.pointer p, .int .i64 i, .int .i64 q] w fun e w' => e = .returned (.bool false) ∧ Below w.heap.size w w' := by
  have HO := Lib.hid (fun W => of_no (w := W) i h)
  clear h
  go_enter Try.func56, Try.ntmps56
  go_wp2_with (first | (go_at_call 35; refine (HO.out _).mono ?_; rintro e w1 ⟨rfl, rfl⟩) | fail)
  go_ret
  exact ⟨rfl, by (repeat (first | with_reducible exact Below.refl _ _ | (with_reducible assumption) | (with_reducible refine below_alloc ?_ _) | (with_reducible refine below_ext (w1 := ?_) ?_ ?_; rotate_left 2; (with_reducible assumption)) | (with_reducible refine Below.setCell ?_ ?_ _; rotate_left; ((try simp) <;> omega)) | (with_reducible refine Below.drew ?_) | (with_reducible refine below_drewN ?_ _) | fail))⟩
theorem fits_any (B : Bs w c b N most k ss) (i q : Int) (hq : I64 q) : Calls Try.prog 56 #[.pointer (some ⟨b, 0, none⟩), .int .i64 i, .int .i64 q] w fun e w' => e = .returned (.bool (fitsO most i q (osOf ss))) ∧ Below w.heap.size w w' := by
  unfold fitsO
  by_cases h : i = 0 ∨ i = 1
  · obtain ⟨n, rfl, hn⟩ : ∃ n : Nat, i = (n : Int) ∧ n < 2 := ⟨i.toNat, by omega, by omega⟩
    rw [decide_eq_true h, Bool.true_and]
    obtain ⟨d, B, I⟩ := B
    obtain ⟨c0, c1, c2, c3, c4, c5⟩ := B.cells
    have hbl := B.lt
    have S := I.si n hn
    have HB := Lib.hid (Lad.fits_any (B.la n hn) S.up q hq)
    rw [ls_any S, ls_count hn S] at HB
    have hcast : decide (((dst (prices (n : Int) (osOf ss))).length : Int) < (most : Int)) = decide ((dst (prices (n : Int) (osOf ss))).length < most) := decide_eq_decide.2 (by omega)
    rw [hcast] at HB
    have HO := Lib.hid (fun W => of_yes (w := W) (b := b) (m := n) (n : Int) rfl hn)
    have hn2 : n = 0 ∨ n = 1 := by omega
    generalize (((osOf ss).any fun o => decide (o.side = (n : Int) ∧ o.price = q)) || decide ((dst (prices (n : Int) (osOf ss))).length < most)) = z at *
    clear B I S h hcast
    rcases hn2 with rfl | rfl
    all_goals
      go_enter Try.func56, Try.ntmps56
      go_wp2_with (first | (go_at_call 35; refine (HO.out _).mono ?_; rintro e w1 ⟨rfl, rfl⟩) | (go_at_call 71; refine HB.out.mono ?_; rintro e w1 ⟨rfl, hb1⟩) | fail)
      go_ret
      exact ⟨rfl, hb1⟩
  · rw [decide_eq_false h, Bool.false_and]
    exact fits_off _ i q (.inr (by omega)) w
def roomO (N most : Nat) (n p : Int) (os : List Ord) : Bool := fitsO most n p os && decide (os.length < N)
theorem room_any (B : Bs w c b N most k ss) (i q : Int) (hq : I64 q) : Calls Try.prog 38 #[.pointer (some ⟨b, 0, none⟩), .int .i64 i, .int .i64 q] w fun e w' => e = .returned (.bool (roomO N most i q (osOf ss))) ∧ Below w.heap.size w w' := by
  have HF := Lib.hid (fits_any B i q hq)
  obtain ⟨d, B, I⟩ := B
  obtain ⟨c0, c1, c2, c3, c4, c5⟩ := B.cells
  have hbl := B.lt
  have hlim := I.lim
  have hle := ai_len I.ai
  have hsz := I.ai.size
  have hus := I.ai.used
  have hlen : (osOf ss).length = ss.length := List.length_map _
  have HR := Lib.hid (fun W (hW : Below w.heap.size w W) => Are.room_any d.a d.st W (B.ar.ext hW) (by omega) (by omega))
  unfold roomO
  rw [hlen]
  have hlt : decide ((0 : Int) < (d.st.size : Int) - d.st.used) = decide (ss.length < N) := decide_eq_decide.2 (by omega)
  have HLT := Lib.hid hlt
  generalize fitsO most i q (osOf ss) = f at *
  clear B I hlt
  have hsm : (d.st.size : Int) = N := by omega
  rw [hsm, hus] at HR HLT
  have hlt2 : decide ((0 : Int) < (N : Int) - (ss.length : Int)) = decide (ss.length < N) := HLT.out
  cases f with
  | false =>
    go_enter Try.func38, Try.ntmps38
    go_wp2_with (first | (go_at_call 56; refine HF.out.mono ?_; rintro e w1 ⟨rfl, hb1⟩) | fail)
    go_ret
    exact ⟨rfl, hb1⟩
  | true =>
    go_enter Try.func38, Try.ntmps38
    go_wp2_with (first | (go_at_call 56; refine HF.out.mono ?_; rintro e w1 ⟨rfl, hb1⟩; have k0 : w1.cell? ⟨b, 0, none⟩ = some (.pointer (some ⟨d.a, 0, none⟩)) := (hb1.cell (p := ⟨b, 0, none⟩) hbl).trans c0) | (go_at_call 57; refine (HR.out _ hb1).mono ?_; rintro e w2 ⟨rfl, hb2⟩) | fail)
    all_goals go_ret
    all_goals first
      | exact ⟨by simp_all, below_ext hb1 hb2⟩
      | (refine ⟨?_, below_ext hb1 hb2⟩; congr 2; simp_all)
/-! ### how many -/
/-! ### crossed -/
end
end Bk
end Go.Proofs.Ytacpjpkhmdcagaa
