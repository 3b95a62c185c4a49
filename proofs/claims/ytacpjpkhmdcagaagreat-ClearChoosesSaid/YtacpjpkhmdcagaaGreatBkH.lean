/- This text proves contracts of a held book's functions that only read: Worth, Fits, Room, Len, Crossed. It has no conditions but those that it states. -/
import Derived.Test.YtacpjpkhmdcagaaGreatBkG
namespace Go.Proofs.YtacpjpkhmdcagaaGreat
set_option linter.unusedVariables false
open Go.RowKit
namespace Bk
set_option maxHeartbeats 1000000
set_option maxRecDepth 10000
open Are (St Ar ord0 ordArr_one)
open Lad (La LStep Fresh lvlZ)
open Fif (Fq up up_same up_ne)
open Idx (R3 Xq Wf)
section
variable {w : World} {c : Nat → Nat} {b N most k : Nat} {ss : List Sl}
/-! ### what a side has up to a limit -/
theorem lev_sum {n most : Nat} {ss : List Sl} {ls : List Lvl} {u : Nat → Nat} {L : Nat → List Nat} (hn : n < 2) (S : SI (n : Int) most (sid n ss) ls u L) (hok : ∀ x ∈ ss, okO x.2) (hl : ss.length ≤ 500) : (∀ l ∈ ls, 0 ≤ l.qty) ∧ Lad.sumQ ls.attach ≤ 4611686018427387903 := by
  have h1 : ∀ l ∈ ls, 0 ≤ l.qty := fun l hl => by
    rw [(S.lv l hl).qty]
    refine sumq_nonneg _ (fun x hx => ?_)
    have h3 := (List.mem_filter.1 ((List.mem_filter.1 hx).1)).1
    have := (hok x h3).2.2.1
    omega
  refine ⟨h1, ?_⟩
  have h2 : Lad.sumQ ls.attach = qsum (srt (n : Int) (osOf ss)) := by
    rw [Lad.sumQ_L, List.attach_map_subtype_val, ls_srt hn S]
    have := sum_flat (ls := ls) (c := fun _ => true) (F := fun l => atO (n : Int) l.price (osOf ss)) (fun l hl => lv_at S hl)
    rwa [List.filter_eq_self.2 (fun _ _ => rfl)] at this
  rw [h2, qsum_perm (srt_perm _ _)]
  have h3 : ∀ os : List Ord, (∀ o ∈ os, o.qty ≤ 4294967296) → qsum os ≤ 4294967296 * (os.length : Int) := by
    intro os
    induction os with
    | nil => intro _; simp [qsum]
    | cons o l ih =>
      intro h
      have h4 := ih (fun x hx => h x (by simp [hx]))
      have h5 := h o (by simp)
      simp only [qsum, List.length_cons]
      omega
  have h4 := h3 (sdO (n : Int) (osOf ss)) (fun o ho => by
    obtain ⟨x, hx, rfl⟩ := List.mem_map.1 (List.mem_filter.1 ho).1
    have := (hok x hx).2.2.1
    omega)
  have h5 : (sdO (n : Int) (osOf ss)).length ≤ ss.length := by
    have := List.length_filter_le (fun o : Ord => decide (o.side = (n : Int))) (osOf ss)
    unfold osOf at this ⊢
    rw [List.length_map] at this
    exact this
  omega
def worthB (n p : Int) (os : List Ord) : Int := if n = 0 ∨ n = 1 then worthO n p os else 0
/-! ### room -/
theorem fits_off (p : Option Addr) (i q : Int) (h : p = none ∨ (i ≠ 0 ∧ i ≠ 1)) (w : World) : Calls Tryz.prog 70 #[.pointer p, .int .i64 i, .int .i64 q] w fun e w' => e = .returned (.bool false) ∧ Below w.heap.size w w' := by
  have HO := Lib.hid (fun W => of_no (w := W) i h)
  clear h
  go_enter Tryz.func70, Tryz.ntmps70
  go_wp2_with (first | (go_at_call 45; refine (HO.out _).mono ?_; rintro e w1 ⟨rfl, rfl⟩) | fail)
  go_ret
  exact ⟨rfl, by (repeat (first | with_reducible exact Below.refl _ _ | (with_reducible assumption) | (with_reducible refine below_alloc ?_ _) | (with_reducible refine below_ext (w1 := ?_) ?_ ?_; rotate_left 2; (with_reducible assumption)) | (with_reducible refine Below.setCell ?_ ?_ _; rotate_left; ((try simp) <;> omega)) | (with_reducible refine Below.drew ?_) | (with_reducible refine below_drewN ?_ _) | fail))⟩
theorem fits_any (B : Bs w c b N most k ss) (i q : Int) (hq : I64 q) : Calls Tryz.prog 70 #[.pointer (some ⟨b, 0, none⟩), .int .i64 i, .int .i64 q] w fun e w' => e = .returned (.bool (fitsO most i q (osOf ss))) ∧ Below w.heap.size w w' := by
  unfold fitsO
  by_cases h : i = 0 ∨ i = 1
  · obtain ⟨n, rfl, hn⟩ : ∃ n : Nat, i = (n : Int) ∧ n < 2 := ⟨i.toNat, by omega, by omega⟩
    rw [decide_eq_true h, Bool.true_and]
    obtain ⟨d, B, I⟩ := B
    obtain ⟨c0, c1, c2, c3, c4, c5⟩ := B.cells
    have hbl := B.lt
    have S := I.si n hn
    have HB := Lib.hid (Lad.fits_any (B.la n hn) S.up q hq)
    rw [ls_any S, ls_count hn S] at HB
    have hcast : decide (((dst (prices (n : Int) (osOf ss))).length : Int) < (most : Int)) = decide ((dst (prices (n : Int) (osOf ss))).length < most) := decide_eq_decide.2 (by omega)
    rw [hcast] at HB
    have HO := Lib.hid (fun W => of_yes (w := W) (b := b) (m := n) (n : Int) rfl hn)
    have hn2 : n = 0 ∨ n = 1 := by omega
    generalize (((osOf ss).any fun o => decide (o.side = (n : Int) ∧ o.price = q)) || decide ((dst (prices (n : Int) (osOf ss))).length < most)) = z at *
    clear B I S h hcast
    rcases hn2 with rfl | rfl
    all_goals
      go_enter Tryz.func70, Tryz.ntmps70
      go_wp2_with (first | (go_at_call 45; refine (HO.out _).mono ?_; rintro e w1 ⟨rfl, rfl⟩) | (go_at_call 89; refine HB.out.mono ?_; rintro e w1 ⟨rfl, hb1⟩) | fail)
      go_ret
      exact ⟨rfl, hb1⟩
  · rw [decide_eq_false h, Bool.false_and]
    exact fits_off _ i q (.inr (by omega)) w
theorem room_off (p : Option Addr) (i q : Int) (h : p = none ∨ (i ≠ 0 ∧ i ≠ 1)) (w : World) : Calls Tryz.prog 48 #[.pointer p, .int .i64 i, .int .i64 q] w fun e w' => e = .returned (.bool false) ∧ Below w.heap.size w w' := by
  have HO := Lib.hid (fits_off p i q h w)
  clear h
  go_enter Tryz.func48, Tryz.ntmps48
  go_wp2_with (first | (go_at_call 70; refine HO.out.mono ?_; rintro e w1 ⟨rfl, hb1⟩) | fail)
  go_ret
  exact ⟨rfl, hb1⟩
def roomO (N most : Nat) (n p : Int) (os : List Ord) : Bool := fitsO most n p os && decide (os.length < N)
theorem room_any (B : Bs w c b N most k ss) (i q : Int) (hq : I64 q) : Calls Tryz.prog 48 #[.pointer (some ⟨b, 0, none⟩), .int .i64 i, .int .i64 q] w fun e w' => e = .returned (.bool (roomO N most i q (osOf ss))) ∧ Below w.heap.size w w' := by
  have HF := Lib.hid (fits_any B i q hq)
  obtain ⟨d, B, I⟩ := B
  obtain ⟨c0, c1, c2, c3, c4, c5⟩ := B.cells
  have hbl := B.lt
  have hlim := I.lim
  have hle := ai_len I.ai
  have hsz := I.ai.size
  have hus := I.ai.used
  have hlen : (osOf ss).length = ss.length := List.length_map _
  have HR := Lib.hid (fun W (hW : Below w.heap.size w W) => Are.room_any d.a d.st W (B.ar.ext hW) (by omega) (by omega))
  unfold roomO
  rw [hlen]
  have hlt : decide ((0 : Int) < (d.st.size : Int) - d.st.used) = decide (ss.length < N) := decide_eq_decide.2 (by omega)
  have HLT := Lib.hid hlt
  generalize fitsO most i q (osOf ss) = f at *
  clear B I hlt
  have hsm : (d.st.size : Int) = N := by omega
  rw [hsm, hus] at HR HLT
  have hlt2 : decide ((0 : Int) < (N : Int) - (ss.length : Int)) = decide (ss.length < N) := HLT.out
  cases f with
  | false =>
    go_enter Tryz.func48, Tryz.ntmps48
    go_wp2_with (first | (go_at_call 70; refine HF.out.mono ?_; rintro e w1 ⟨rfl, hb1⟩) | fail)
    go_ret
    exact ⟨rfl, hb1⟩
  | true =>
    go_enter Tryz.func48, Tryz.ntmps48
    go_wp2_with (first | (go_at_call 70; refine HF.out.mono ?_; rintro e w1 ⟨rfl, hb1⟩; have k0 : w1.cell? ⟨b, 0, none⟩ = some (.pointer (some ⟨d.a, 0, none⟩)) := (hb1.cell (p := ⟨b, 0, none⟩) hbl).trans c0) | (go_at_call 71; refine (HR.out _ hb1).mono ?_; rintro e w2 ⟨rfl, hb2⟩) | fail)
    all_goals go_ret
    all_goals first
      | exact ⟨by simp_all, below_ext hb1 hb2⟩
      | (refine ⟨?_, below_ext hb1 hb2⟩; congr 2; simp_all)
/-! ### how many -/
/-! ### crossed -/
def crossO (os : List Ord) : Bool := match frontO 0 os, frontO 1 os with
  | some x, some y => decide (y.price ≤ x.price)
  | _, _ => false
end
end Bk
end Go.Proofs.YtacpjpkhmdcagaaGreat
