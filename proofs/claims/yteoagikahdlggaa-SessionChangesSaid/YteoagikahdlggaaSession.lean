/- This text proves contracts of the packages session and damperref08, and of the library functions that they call. They have no conditions but those that they state. -/
import Derived.Test.YteoagikahdlggaaQuiet
import Derived.WalkSpells
import Derived.WalkLawsBesides
namespace Go.Proofs.Yteoagikahdlggaa
set_option linter.unusedVariables false
open Go.RowKit
namespace Ses
set_option maxHeartbeats 400000

/-- A closure's two captured variables: the table, and the tick. -/
theorem behind1_any (i : Nat) (xs : List Row) (A : Option Addr) (cap : Nat) (tick : Int) (g1 g2 : Nat) (w : World) (hi : i < xs.length) (hml : xs.length ≤ maxLen) (hr : Rd w 2 A (xs.map Row.cells))
    (h1 : Blk w g1 22 #[.slice A xs.length cap]) (h2 : Blk w g2 2 #[.int .i64 tick]) :
    Calls Try.prog 24 #[.int .i64 i, .pointer (some ⟨g1, 0, none⟩), .pointer (some ⟨g2, 0, none⟩)] w fun e w' => e = .returned (.bool (decide (tick < xs[i].tick))) ∧ Below w.heap.size w w' := by
  unfold maxLen at hml
  obtain ⟨b, off, rfl, hc⟩ := hr.at hi
  have hc0 := hc 0 _ rfl
  simp only [Nat.add_zero] at hc0
  have hc1 := h1.cell 0
  have hc2 := h2.cell 0
  simp at hc1 hc2
  have hlt : (i : Int) < xs.length := by omega
  clear hc h1 h2 hr
  go_enter Try.func24, Try.ntmps24
  go_wp2
  go_quiet (fail)
  go_wp2
  go_ret
  exact ⟨rfl, by (repeat (first | with_reducible exact Below.refl _ _ | (with_reducible assumption) | (with_reducible refine below_alloc ?_ _) | (with_reducible refine below_ext (w1 := ?_) ?_ ?_; rotate_left 2; (with_reducible assumption)) | (with_reducible refine Below.setCell ?_ ?_ _; rotate_left; ((try simp) <;> omega)) | (with_reducible refine Below.drew ?_) | (with_reducible refine below_drewN ?_ _) | fail))⟩

theorem search_any (n : Nat) (f : Nat → Bool) (fv : Array Value) (w : World) (hn : n ≤ 4611686018427387903) (hmono : ∀ i j, i ≤ j → j < n → f i = true → f j = true)
    (hf : ∀ (W : World) (i : Nat), Below w.heap.size w W → i < n → Calls Try.prog 24 (#[.int .i64 i] ++ fv) W fun e w' => e = .returned (.bool (f i)) ∧ Below W.heap.size W w') :
    Calls Try.prog 23 #[.int .i64 n, .func (.func 24) #[] fv] w fun e w' => ∃ k : Nat, e = .returned (.int .i64 k) ∧ k ≤ n ∧ (∀ x, x < k → f x = false) ∧ (∀ x, k ≤ x → x < n → f x = true) ∧ Below w.heap.size w w' := by
  have HM := Lib.hid hmono
  have HF := Lib.hid hf
  clear hmono hf
  go_enter Try.func23, Try.ntmps23
  go_wp2
  go_loopw [5, 6] (fun a b wr => ∃ i j : Nat, a = .int .i64 i ∧ b = .int .i64 j ∧ i ≤ j ∧ j ≤ n ∧ Hid (∀ x, x < i → f x = false) ∧ Hid (∀ x, j ≤ x → x < n → f x = true) ∧ Below w.heap.size w wr) (fun a b _ => (intOf b - intOf a).toNat)
  case atStart => exact ⟨0, n, rfl, rfl, Nat.zero_le _, Nat.le_refl _, fun x hx => by omega, fun x hx hx' => by omega, Below.refl _ _⟩
  case round =>
    obtain ⟨i, j, rfl, rfl, hij, hjn, hlo, hhi, hb⟩ := hrel
    by_cases hlt : i < j
    · have hm : ((i : Int) + j) / 2 = (((i + j) / 2 : Nat) : Int) := by omega
      have hm1 : i ≤ (i + j) / 2 := by omega
      have hm2 : (i + j) / 2 < j := by omega
      have HH := Lib.hid hm
      clear hm
      go_wp2_with fail
      rw [HH.out]
      generalize hm : (i + j) / 2 = m at *
      clear hm HH
      cases hfm : f m
      · have HFM := Lib.hid hfm
        refine (HF.out wr m hb (by omega)).mono ?_
        rintro e w1 ⟨he, hb1⟩
        rw [hfm] at he
        subst he
        clear hfm
        go_wp2_with fail
        go_roundw
        case rel =>
          refine ⟨m + 1, j, by go_num, rfl, by omega, hjn, ?_, hhi, by (repeat (first | with_reducible exact Below.refl _ _ | (with_reducible assumption) | (with_reducible refine below_alloc ?_ _) | (with_reducible refine below_ext (w1 := ?_) ?_ ?_; rotate_left 2; (with_reducible assumption)) | (with_reducible refine Below.setCell ?_ ?_ _; rotate_left; ((try simp) <;> omega)) | (with_reducible refine Below.drew ?_) | (with_reducible refine below_drewN ?_ _) | fail))⟩
          intro x hx
          cases hfx : f x with
          | false => rfl
          | true => exact absurd (HM.out x m (by omega) (by omega) hfx) (by rw [HFM.out]; simp)
        case measure => simp [intOf]; omega
      · have HFM := Lib.hid hfm
        refine (HF.out wr m hb (by omega)).mono ?_
        rintro e w1 ⟨he, hb1⟩
        rw [hfm] at he
        subst he
        clear hfm
        go_wp2_with fail
        go_roundw
        case rel =>
          refine ⟨i, m, rfl, rfl, by omega, by omega, hlo, ?_, by (repeat (first | with_reducible exact Below.refl _ _ | (with_reducible assumption) | (with_reducible refine below_alloc ?_ _) | (with_reducible refine below_ext (w1 := ?_) ?_ ?_; rotate_left 2; (with_reducible assumption)) | (with_reducible refine Below.setCell ?_ ?_ _; rotate_left; ((try simp) <;> omega)) | (with_reducible refine Below.drew ?_) | (with_reducible refine below_drewN ?_ _) | fail))⟩
          intro x hx hxn
          exact HM.out m x hx hxn HFM.out
        case measure => simp [intOf]; omega
    · have hij' : i = j := by omega
      subst hij'
      go_wp2_with fail
      go_ret
      exact ⟨i, rfl, hjn, hlo, hhi, hb⟩

/-! ### the plain answers -/
def tk (xs : List Row) (i : Nat) : Int := (xs.getD i ⟨0, 0⟩).tick
def ph (xs : List Row) (i : Nat) : Int := (xs.getD i ⟨0, 0⟩).phase
theorem tk_eq {xs : List Row} {i : Nat} (h : i < xs.length) : tk xs i = xs[i].tick := by simp [tk, List.getD_eq_getElem?_getD, List.getElem?_eq_getElem h]
theorem ph_eq {xs : List Row} {i : Nat} (h : i < xs.length) : ph xs i = xs[i].phase := by simp [ph, List.getD_eq_getElem?_getD, List.getElem?_eq_getElem h]
def Sorted (xs : List Row) : Prop := ∀ i j, i < j → j < xs.length → tk xs i < tk xs j
/-- So many rows stand at or ahead of the tick. -/
def IsB (xs : List Row) (t : Int) (k : Nat) : Prop := k ≤ xs.length ∧ (∀ x, x < k → tk xs x ≤ t) ∧ ∀ x, k ≤ x → x < xs.length → t < tk xs x
theorem IsB.uniq {xs : List Row} {t : Int} {k m : Nat} (h : IsB xs t k) (h' : IsB xs t m) : k = m := by
  obtain ⟨a1, a2, a3⟩ := h
  obtain ⟨b1, b2, b3⟩ := h'
  rcases Nat.lt_trichotomy k m with h1 | h1 | h1
  · have := a3 k (Nat.le_refl _) (by omega)
    have := b2 k h1
    omega
  · exact h1
  · have := b3 m (Nat.le_refl _) (by omega)
    have := a2 m h1
    omega
/-- The row at or behind 'k' whose phase is another one; the length: none. -/
def IsT (xs : List Row) (k : Nat) (p : Int) (m : Nat) : Prop := k ≤ m ∧ m ≤ xs.length ∧ (∀ x, k ≤ x → x < m → ph xs x = p) ∧ (m < xs.length → ph xs m ≠ p)

theorem behind_any (xs : List Row) (A : Option Addr) (cap : Nat) (tick : Int) (k : Nat) (w : World) (hml : xs.length ≤ 1000) (hr : Rd w 2 A (xs.map Row.cells)) (hs : Sorted xs) (hk : IsB xs tick k) :
    Calls Try.prog 20 #[.slice A xs.length cap, .int .i64 tick] w fun e w' => e = .returned (.int .i64 k) ∧ Below w.heap.size w w' := by
  have HK := Lib.hid hk
  have HS := Lib.hid hs
  have HR := Lib.hid hr
  clear hk hs hr
  go_enter Try.func20, Try.ntmps20
  go_wp2_with fail
  have hB1 : Blk ((w.alloc (.cells #[.slice A xs.length cap] 22)).alloc (.cells #[.int .i64 tick] 2)) w.heap.size 22 #[.slice A xs.length cap] := (Blk.new _ _ _ _ rfl).alloc _
  have hB2 : Blk ((w.alloc (.cells #[.slice A xs.length cap] 22)).alloc (.cells #[.int .i64 tick] 2)) (w.heap.size + 1) 2 #[.int .i64 tick] := Blk.new _ _ _ _ (sz_alloc _ _)
  have hR2 : Rd ((w.alloc (.cells #[.slice A xs.length cap] 22)).alloc (.cells #[.int .i64 tick] 2)) 2 A (xs.map Row.cells) := HR.out.below (by (repeat (first | with_reducible exact Below.refl _ _ | (with_reducible assumption) | (with_reducible refine below_alloc ?_ _) | (with_reducible refine below_ext (w1 := ?_) ?_ ?_; rotate_left 2; (with_reducible assumption)) | (with_reducible refine Below.setCell ?_ ?_ _; rotate_left; ((try simp) <;> omega)) | (with_reducible refine Below.drew ?_) | (with_reducible refine below_drewN ?_ _) | fail)))
  refine (search_any xs.length (fun i => decide (tick < tk xs i)) #[.pointer (some ⟨w.heap.size, 0, none⟩), .pointer (some ⟨w.heap.size + 1, 0, none⟩)] _ (by omega) ?_ ?_).mono ?_
  · intro i j hij hj h
    simp only [decide_eq_true_eq] at h ⊢
    rcases Nat.lt_or_ge i j with h1 | h1
    · have := HS.out i j h1 hj
      omega
    · have : i = j := by omega
      subst this
      exact h
  · intro W i hW hi
    have := behind1_any i xs A cap tick w.heap.size (w.heap.size + 1) W hi (by unfold maxLen; omega) (hR2.below hW) (hB1.ext hW) (hB2.ext hW)
    rw [← tk_eq hi] at this
    exact this
  · rintro e w' ⟨m, rfl, hm, hlo, hhi, hb⟩
    have hkm : k = m := HK.out.uniq ⟨hm, fun x hx => by have := hlo x hx; simp at this; exact this, fun x hx hx' => by have := hhi x hx hx'; simpa using this⟩
    subst hkm
    go_wp2_with fail
    go_ret
    exact ⟨rfl, by (repeat (first | with_reducible exact Below.refl _ _ | (with_reducible assumption) | (with_reducible refine below_alloc ?_ _) | (with_reducible refine below_ext (w1 := ?_) ?_ ?_; rotate_left 2; (with_reducible assumption)) | (with_reducible refine Below.setCell ?_ ?_ _; rotate_left; ((try simp) <;> omega)) | (with_reducible refine Below.drew ?_) | (with_reducible refine below_drewN ?_ _) | fail))⟩

def atF (xs : List Row) (k : Nat) : Int := if k = 0 then 0 else ph xs (k - 1)
theorem at_any (xs : List Row) (A : Option Addr) (cap : Nat) (tick : Int) (k : Nat) (w : World) (hml : xs.length ≤ 1000) (hr : Rd w 2 A (xs.map Row.cells)) (hs : Sorted xs) (hk : IsB xs tick k) :
    Calls Try.prog 11 #[.slice A xs.length cap, .int .i64 tick] w fun e w' => e = .returned (.int .i64 (atF xs k)) ∧ Below w.heap.size w w' := by
  have HK := Lib.hid hk
  have HS := Lib.hid hs
  have HR := Lib.hid hr
  clear hk hs hr
  by_cases h0 : k = 0
  · subst h0
    go_enter Try.func11, Try.ntmps11
    go_wp2_with (first | (go_at_call 20; refine (behind_any xs A cap tick 0 _ hml HR.out HS.out HK.out).mono ?_; rintro e w1 ⟨rfl, hb1⟩) | fail)
    go_ret
    exact ⟨rfl, by (repeat (first | with_reducible exact Below.refl _ _ | (with_reducible assumption) | (with_reducible refine below_alloc ?_ _) | (with_reducible refine below_ext (w1 := ?_) ?_ ?_; rotate_left 2; (with_reducible assumption)) | (with_reducible refine Below.setCell ?_ ?_ _; rotate_left; ((try simp) <;> omega)) | (with_reducible refine Below.drew ?_) | (with_reducible refine below_drewN ?_ _) | fail))⟩
  · obtain ⟨m, rfl⟩ : ∃ m, k = m + 1 := ⟨k - 1, by omega⟩
    have hlt : m < xs.length := by have := HK.out.1; omega
    have HF : Hid (atF xs (m + 1) = xs[m].phase) := by show atF xs (m + 1) = xs[m].phase; rw [← ph_eq hlt]; simp [atF]
    have hmi : (m : Int) < xs.length := by omega
    have hne : (((m + 1 : Nat) : Int) == 0) = false := by rw [beq_eq_false_iff_ne]; omega
    have hcast : ((m + 1 : Nat) : Int) - 1 = m := by omega
    have HC := Lib.hid hcast
    clear hcast
    go_enter Try.func11, Try.ntmps11
    go_wp2_with fail
    refine (behind_any xs A cap tick (m + 1) _ hml HR.out HS.out HK.out).mono ?_
    rintro e w1 ⟨rfl, hb1⟩
    obtain ⟨b, off, rfl, hc⟩ := (HR.out.below hb1).at hlt
    have hc1 : w1.cell? ⟨b, off + m * 2 + 1, none⟩ = some (.int .i64 xs[m].phase) := by have := hc 1 _ rfl; rwa [← Nat.add_assoc] at this
    clear hc
    go_wp2_with fail
    go_ret
    exact ⟨by rw [HF.out]; rfl, by (repeat (first | with_reducible exact Below.refl _ _ | (with_reducible assumption) | (with_reducible refine below_alloc ?_ _) | (with_reducible refine below_ext (w1 := ?_) ?_ ?_; rotate_left 2; (with_reducible assumption)) | (with_reducible refine Below.setCell ?_ ?_ _; rotate_left; ((try simp) <;> omega)) | (with_reducible refine Below.drew ?_) | (with_reducible refine below_drewN ?_ _) | fail))⟩

def nextF (xs : List Row) (k : Nat) : Int × Bool := if k = xs.length then (0, false) else (tk xs k, true)
theorem next_any (xs : List Row) (A : Option Addr) (cap : Nat) (tick : Int) (k : Nat) (w : World) (hml : xs.length ≤ 1000) (hr : Rd w 2 A (xs.map Row.cells)) (hs : Sorted xs) (hk : IsB xs tick k) :
    Calls Try.prog 9 #[.slice A xs.length cap, .int .i64 tick] w fun e w' => e = .returned (.tuple #[.int .i64 (nextF xs k).1, .bool (nextF xs k).2]) ∧ Below w.heap.size w w' := by
  have HK := Lib.hid hk
  have HS := Lib.hid hs
  have HR := Lib.hid hr
  have hle := hk.1
  clear hk hs hr
  by_cases h0 : k = xs.length
  · have HF : Hid (nextF xs k = (0, false)) := by show nextF xs k = (0, false); simp [nextF, h0]
    have hne : ((k : Int) == xs.length) = true := by rw [h0]; simp
    clear h0
    go_enter Try.func9, Try.ntmps9
    go_wp2_with (first | (go_at_call 20; refine (behind_any xs A cap tick k _ hml HR.out HS.out HK.out).mono ?_; rintro e w1 ⟨rfl, hb1⟩) | fail)
    go_ret2
    exact ⟨by rw [HF.out]; rfl, by (repeat (first | with_reducible exact Below.refl _ _ | (with_reducible assumption) | (with_reducible refine below_alloc ?_ _) | (with_reducible refine below_ext (w1 := ?_) ?_ ?_; rotate_left 2; (with_reducible assumption)) | (with_reducible refine Below.setCell ?_ ?_ _; rotate_left; ((try simp) <;> omega)) | (with_reducible refine Below.drew ?_) | (with_reducible refine below_drewN ?_ _) | fail))⟩
  · have hlt : k < xs.length := by omega
    have HF : Hid (nextF xs k = (xs[k].tick, true)) := by show nextF xs k = (xs[k].tick, true); simp [nextF, h0, tk_eq hlt]
    have hne : ((k : Int) == xs.length) = false := by rw [beq_eq_false_iff_ne]; omega
    have hmi : (k : Int) < xs.length := by omega
    clear h0
    go_enter Try.func9, Try.ntmps9
    go_wp2_with fail
    refine (behind_any xs A cap tick k _ hml HR.out HS.out HK.out).mono ?_
    rintro e w1 ⟨rfl, hb1⟩
    obtain ⟨b, off, rfl, hc⟩ := (HR.out.below hb1).at hlt
    have hc0 : w1.cell? ⟨b, off + k * 2, none⟩ = some (.int .i64 xs[k].tick) := hc 0 _ rfl
    clear hc
    go_wp2_with fail
    go_ret2
    exact ⟨by rw [HF.out]; rfl, by (repeat (first | with_reducible exact Below.refl _ _ | (with_reducible assumption) | (with_reducible refine below_alloc ?_ _) | (with_reducible refine below_ext (w1 := ?_) ?_ ?_; rotate_left 2; (with_reducible assumption)) | (with_reducible refine Below.setCell ?_ ?_ _; rotate_left; ((try simp) <;> omega)) | (with_reducible refine Below.drew ?_) | (with_reducible refine below_drewN ?_ _) | fail))⟩

/-! ### the document's functions -/
theorem rat_any (xs : List Row) (A : Option Addr) (cap : Nat) (tick : Int) (k : Nat) (w : World) (hml : xs.length ≤ 1000) (hr : Rd w 2 A (xs.map Row.cells)) (hk : IsB xs tick k) :
    Calls Try.prog 12 #[.slice A xs.length cap, .int .i64 tick] w fun e w' => e = .returned (.int .i64 (atF xs k)) ∧ Below w.heap.size w w' := by
  have HK := Lib.hid hk
  have HR := Lib.hid hr
  clear hk hr
  go_enter Try.func12, Try.ntmps12
  go_wp2
  go_loop [5, 6] (fun p i => ∃ n : Nat, n ≤ xs.length ∧ i = .int .i64 n ∧ p = .int .i64 (atF xs (min n k))) (fun _ i => xs.length - (intOf i).toNat)
  case atStart => exact ⟨0, Nat.zero_le _, rfl, by simp [atF]⟩
  case round =>
    obtain ⟨n, hn, rfl, rfl⟩ := hrel
    by_cases hlt : n < xs.length
    · obtain ⟨b, off, rfl, hc⟩ := HR.out.at hlt
      have hc0 : w.cell? ⟨b, off + n * 2, none⟩ = some (.int .i64 xs[n].tick) := hc 0 _ rfl
      have hc1 : w.cell? ⟨b, off + n * 2 + 1, none⟩ = some (.int .i64 xs[n].phase) := by have := hc 1 _ rfl; rwa [← Nat.add_assoc] at this
      clear hc
      have hkle := HK.out.1
      by_cases hnk : n < k
      · have hle : xs[n].tick ≤ tick := by have := HK.out.2.1 n hnk; rwa [tk_eq hlt] at this
        have HA : Hid (atF xs (min (n + 1) k) = xs[n].phase) := by
          show atF xs (min (n + 1) k) = xs[n].phase
          rw [show min (n + 1) k = n + 1 by omega, ← ph_eq hlt]
          simp [atF]
        go_wp2_with fail
        go_round
        case rel => exact ⟨n + 1, by omega, by go_num, by rw [HA.out]⟩
        case measure => simp [intOf]; omega
      · have hgt : tick < xs[n].tick := by have := HK.out.2.2 n (by omega) hlt; rwa [tk_eq hlt] at this
        have HA : Hid (min (n + 1) k = min n k) := by show min (n + 1) k = min n k; omega
        go_wp2_with fail
        go_round
        case rel => exact ⟨n + 1, by omega, by go_num, by rw [HA.out]⟩
        case measure => simp [intOf]; omega
    · have hkle := HK.out.1
      have HA : Hid (min n k = k) := by show min n k = k; omega
      go_wp2_with fail
      go_ret
      exact ⟨by rw [HA.out]; rfl, by (repeat (first | with_reducible exact Below.refl _ _ | (with_reducible assumption) | (with_reducible refine below_alloc ?_ _) | (with_reducible refine below_ext (w1 := ?_) ?_ ?_; rotate_left 2; (with_reducible assumption)) | (with_reducible refine Below.setCell ?_ ?_ _; rotate_left; ((try simp) <;> omega)) | (with_reducible refine Below.drew ?_) | (with_reducible refine below_drewN ?_ _) | fail))⟩

theorem rnext_any (xs : List Row) (A : Option Addr) (cap : Nat) (tick : Int) (k : Nat) (w : World) (hml : xs.length ≤ 1000) (hr : Rd w 2 A (xs.map Row.cells)) (hk : IsB xs tick k) :
    Calls Try.prog 10 #[.slice A xs.length cap, .int .i64 tick] w fun e w' => e = .returned (.tuple #[.int .i64 (nextF xs k).1, .bool (nextF xs k).2]) ∧ Below w.heap.size w w' := by
  have HK := Lib.hid hk
  have HR := Lib.hid hr
  clear hk hr
  go_enter Try.func10, Try.ntmps10
  go_wp2
  go_loop [6] (fun i => ∃ n : Nat, n ≤ k ∧ i = .int .i64 n) (fun i => xs.length - (intOf i).toNat)
  case atStart => exact ⟨0, Nat.zero_le _, rfl⟩
  case round =>
    obtain ⟨n, hn, rfl⟩ := hrel
    have hkle := HK.out.1
    by_cases hlt : n < xs.length
    · obtain ⟨b, off, rfl, hc⟩ := HR.out.at hlt
      have hc0 : w.cell? ⟨b, off + n * 2, none⟩ = some (.int .i64 xs[n].tick) := hc 0 _ rfl
      clear hc
      by_cases hnk : n < k
      · have hle : xs[n].tick ≤ tick := by have := HK.out.2.1 n hnk; rwa [tk_eq hlt] at this
        go_wp2_with fail
        go_round
        case rel => exact ⟨n + 1, by omega, by go_num⟩
        case measure => simp [intOf]; omega
      · have hgt : tick < xs[n].tick := by have := HK.out.2.2 n (by omega) hlt; rwa [tk_eq hlt] at this
        have HF : Hid (nextF xs k = (xs[n].tick, true)) := by
          have hkn : k = n := by omega
          subst hkn
          show nextF xs k = _
          simp [nextF, tk_eq hlt]
          omega
        go_wp2_with fail
        go_ret2
        exact ⟨by rw [HF.out]; rfl, by (repeat (first | with_reducible exact Below.refl _ _ | (with_reducible assumption) | (with_reducible refine below_alloc ?_ _) | (with_reducible refine below_ext (w1 := ?_) ?_ ?_; rotate_left 2; (with_reducible assumption)) | (with_reducible refine Below.setCell ?_ ?_ _; rotate_left; ((try simp) <;> omega)) | (with_reducible refine Below.drew ?_) | (with_reducible refine below_drewN ?_ _) | fail))⟩
    · have HF : Hid (nextF xs k = (0, false)) := by
        have hkn : k = xs.length := by omega
        show nextF xs k = _
        simp [nextF, hkn]
      go_wp2_with fail
      go_ret2
      exact ⟨by rw [HF.out]; rfl, by (repeat (first | with_reducible exact Below.refl _ _ | (with_reducible assumption) | (with_reducible refine below_alloc ?_ _) | (with_reducible refine below_ext (w1 := ?_) ?_ ?_; rotate_left 2; (with_reducible assumption)) | (with_reducible refine Below.setCell ?_ ?_ _; rotate_left; ((try simp) <;> omega)) | (with_reducible refine Below.drew ?_) | (with_reducible refine below_drewN ?_ _) | fail))⟩

/-! ### the first row of another phase -/
theorem turn1_any (r : Row) (g : Nat) (p : Int) (w : World) (h : Blk w g 3 #[.int .i64 p]) :
    Calls Try.prog 26 #[.agg r.arr, .pointer (some ⟨g, 0, none⟩)] w fun e w' => e = .returned (.bool (r.phase != p)) ∧ Below w.heap.size w w' := by
  have hc := h.cell 0
  have hlt := h.lt
  simp at hc
  clear h
  go_enter Try.func26, Try.ntmps26
  go_wp2
  go_ret
  exact ⟨rfl, by (repeat (first | with_reducible exact Below.refl _ _ | (with_reducible assumption) | (with_reducible refine below_alloc ?_ _) | (with_reducible refine below_ext (w1 := ?_) ?_ ?_; rotate_left 2; (with_reducible assumption)) | (with_reducible refine Below.setCell ?_ ?_ _; rotate_left; ((try simp) <;> omega)) | (with_reducible refine Below.drew ?_) | (with_reducible refine below_drewN ?_ _) | fail))⟩

def idxF (n m : Nat) : Int := if m = n then -1 else m
theorem indexF_any (ys : List Row) (A : Option Addr) (cap : Nat) (g : Nat) (p : Int) (w : World) (hml : ys.length ≤ 1000) (hr : Rd w 2 A (ys.map Row.cells)) (hg : Blk w g 3 #[.int .i64 p]) :
    Calls Try.prog 25 #[.slice A ys.length cap, .func (.func 26) #[] #[.pointer (some ⟨g, 0, none⟩)]] w fun e w' => ∃ m : Nat, e = .returned (.int .i64 (idxF ys.length m)) ∧ m ≤ ys.length ∧ (∀ x, x < m → ph ys x = p) ∧ (m < ys.length → ph ys m ≠ p) ∧ Below w.heap.size w w' := by
  have HR := Lib.hid hr
  have HG := Lib.hid hg
  clear hr hg
  go_enter Try.func25, Try.ntmps25
  go_wp2
  go_loopw [8] (fun i wr => ∃ n : Nat, n ≤ ys.length ∧ i = .int .i64 n ∧ Hid (∀ x, x < n → ph ys x = p) ∧ Below w.heap.size w wr) (fun i _ => ys.length - (intOf i).toNat)
  case atStart => exact ⟨0, Nat.zero_le _, rfl, fun x hx => by omega, Below.refl _ _⟩
  case round =>
    obtain ⟨n, hn, rfl, hall, hb⟩ := hrel
    by_cases hlt : n < ys.length
    · obtain ⟨b, off, rfl, hc⟩ := (HR.out.below hb).at hlt
      have hc0 : wr.cell? ⟨b, off + n * 2, none⟩ = some (.int .i64 ys[n].tick) := hc 0 _ rfl
      have hc1 : wr.cell? ⟨b, off + n * 2 + 1, none⟩ = some (.int .i64 ys[n].phase) := by have := hc 1 _ rfl; rwa [← Nat.add_assoc] at this
      clear hc
      cases hp : (ys[n].phase != p)
      · have HP := Lib.hid hp
        have hph : ph ys n = p := by rw [ph_eq hlt]; simpa using hp
        have HPH := Lib.hid hph
        clear hp hph
        go_wp2_with (first | (go_at_call 26; refine (turn1_any ys[n] g p _ (HG.out.ext hb)).mono ?_; rintro e w1 ⟨he, hb1⟩; rw [HP.out] at he; subst he) | fail)
        go_roundw
        case rel =>
          refine ⟨n + 1, by omega, by go_num, ?_, by (repeat (first | with_reducible exact Below.refl _ _ | (with_reducible assumption) | (with_reducible refine below_alloc ?_ _) | (with_reducible refine below_ext (w1 := ?_) ?_ ?_; rotate_left 2; (with_reducible assumption)) | (with_reducible refine Below.setCell ?_ ?_ _; rotate_left; ((try simp) <;> omega)) | (with_reducible refine Below.drew ?_) | (with_reducible refine below_drewN ?_ _) | fail))⟩
          intro x hx
          rcases Nat.lt_or_ge x n with h1 | h1
          · exact hall.out x h1
          · have : x = n := by omega
            subst this
            exact HPH.out
        case measure => simp [intOf]; omega
      · have HP := Lib.hid hp
        have hph : ph ys n ≠ p := by rw [ph_eq hlt]; simpa using hp
        have HPH := Lib.hid hph
        clear hp hph
        go_wp2_with (first | (go_at_call 26; refine (turn1_any ys[n] g p _ (HG.out.ext hb)).mono ?_; rintro e w1 ⟨he, hb1⟩; rw [HP.out] at he; subst he) | fail)
        go_ret
        refine ⟨n, ret_int ?_, hn, hall, fun _ => HPH.out, by (repeat (first | with_reducible exact Below.refl _ _ | (with_reducible assumption) | (with_reducible refine below_alloc ?_ _) | (with_reducible refine below_ext (w1 := ?_) ?_ ?_; rotate_left 2; (with_reducible assumption)) | (with_reducible refine Below.setCell ?_ ?_ _; rotate_left; ((try simp) <;> omega)) | (with_reducible refine Below.drew ?_) | (with_reducible refine below_drewN ?_ _) | fail))⟩
        unfold idxF
        rw [if_neg (by omega)]
    · have hnn : n = ys.length := by omega
      go_wp2_with fail
      go_ret
      refine ⟨n, ret_int ?_, hn, hall, fun h => absurd h hlt, by (repeat (first | with_reducible exact Below.refl _ _ | (with_reducible assumption) | (with_reducible refine below_alloc ?_ _) | (with_reducible refine below_ext (w1 := ?_) ?_ ?_; rotate_left 2; (with_reducible assumption)) | (with_reducible refine Below.setCell ?_ ?_ _; rotate_left; ((try simp) <;> omega)) | (with_reducible refine Below.drew ?_) | (with_reducible refine below_drewN ?_ _) | fail))⟩
      unfold idxF
      rw [if_pos hnn]

theorem indexF_n (ys : List Row) (A : Option Addr) (cap : Nat) (g : Nat) (p : Int) (w : World) (n : Nat) (hn : ys.length = n) (hml : n ≤ 1000) (hr : Rd w 2 A (ys.map Row.cells)) (hg : Blk w g 3 #[.int .i64 p]) :
    Calls Try.prog 25 #[.slice A n cap, .func (.func 26) #[] #[.pointer (some ⟨g, 0, none⟩)]] w fun e w' => ∃ m : Nat, e = .returned (.int .i64 (idxF n m)) ∧ m ≤ n ∧ (∀ x, x < m → ph ys x = p) ∧ (m < n → ph ys m ≠ p) ∧ Below w.heap.size w w' := by
  subst hn
  exact indexF_any ys A cap g p w hml hr hg

theorem ph_drop (xs : List Row) (k x : Nat) : ph (xs.drop k) x = ph xs (k + x) := by simp [ph, List.getD_eq_getElem?_getD, List.getElem?_drop]

/-- Where a pointer to row 'm' leads; nil behind the last one. -/
def rowPtr (A : Option Addr) (n m : Nat) : Value := if m = n then .pointer none else match A with
  | some a => .pointer (some ⟨a.block, a.off + m * 2, none⟩)
  | none => .pointer none

theorem turn_any (xs : List Row) (A : Option Addr) (cap : Nat) (tick : Int) (k : Nat) (w : World) (hml : xs.length ≤ 1000) (hcap : xs.length ≤ cap) (hcm : cap ≤ maxLen) (hr : Rd w 2 A (xs.map Row.cells)) (hs : Sorted xs) (hk : IsB xs tick k) :
    Calls Try.prog 21 #[.slice A xs.length cap, .int .i64 tick] w fun e w' => ∃ m : Nat, e = .returned (rowPtr A xs.length m) ∧ IsT xs k (atF xs k) m ∧ Below w.heap.size w w' := by
  unfold maxLen at hcm
  have HK := Lib.hid hk
  have HS := Lib.hid hs
  have HR := Lib.hid hr
  have hle := hk.1
  clear hk hs hr
  go_enter Try.func21, Try.ntmps21
  go_wp2_with (first | (go_at_call 11; refine (at_any xs A cap tick k _ hml HR.out HS.out HK.out).mono ?_; rintro e w1 ⟨rfl, hb1⟩) | fail)
  refine (behind_any xs A cap tick k _ hml (HR.out.below (by (repeat (first | with_reducible exact Below.refl _ _ | (with_reducible assumption) | (with_reducible refine below_alloc ?_ _) | (with_reducible refine below_ext (w1 := ?_) ?_ ?_; rotate_left 2; (with_reducible assumption)) | (with_reducible refine Below.setCell ?_ ?_ _; rotate_left; ((try simp) <;> omega)) | (with_reducible refine Below.drew ?_) | (with_reducible refine below_drewN ?_ _) | fail)))) HS.out HK.out).mono ?_
  rintro e w2 ⟨rfl, hb2⟩
  by_cases hlt : k < xs.length
  · obtain ⟨b, off, rfl, hc⟩ := HR.out.at hlt
    have hR2 : Rd w2 2 (some ⟨b, off + k * 2, none⟩) ((xs.drop k).map Row.cells) := by
      intro _
      refine ⟨b, off + k * 2, rfl, fun i j u hu => ?_⟩
      have hRw := HR.out.below (show Below w.heap.size w w2 by (repeat (first | with_reducible exact Below.refl _ _ | (with_reducible assumption) | (with_reducible refine below_alloc ?_ _) | (with_reducible refine below_ext (w1 := ?_) ?_ ?_; rotate_left 2; (with_reducible assumption)) | (with_reducible refine Below.setCell ?_ ?_ _; rotate_left; ((try simp) <;> omega)) | (with_reducible refine Below.drew ?_) | (with_reducible refine below_drewN ?_ _) | fail)))
      obtain ⟨b', off', e, hc'⟩ := hRw (by intro h0; have h1 := congrArg List.length h0; rw [List.length_map, List.length_nil] at h1; omega)
      injection e with e
      injection e with e1 e2
      subst e1 e2
      have := hc' (k + i) j u (by simpa [List.getD_eq_getElem?_getD, List.getElem?_drop] using hu)
      rw [show off + k * 2 + (i * 2 + j) = off + ((k + i) * 2 + j) by omega]
      exact this
    have hG2 : Blk w2 w1.heap.size 3 #[.int .i64 (atF xs k)] := (Blk.new w1 3 #[.int .i64 (atF xs k)] _ rfl).ext hb2
    clear hc
    go_wp2_with fail
    refine (indexF_n (xs.drop k) _ _ w1.heap.size (atF xs k) _ (xs.length - k) (by simp) (by omega) hR2 hG2).mono ?_
    rintro e w3 ⟨m, rfl, hm, hall, hnot, hb3⟩
    have hT : Hid (IsT xs k (atF xs k) (k + m)) := by
      refine ⟨by omega, by omega, fun x hx hx' => ?_, fun h => ?_⟩
      · have := hall (x - k) (by omega)
        rwa [ph_drop, show k + (x - k) = x by omega] at this
      · have := hnot (by omega)
        rwa [ph_drop] at this
    clear hall hnot
    by_cases hmn : m = xs.length - k
    · have HI : Hid (idxF (xs.length - k) m = -1) := by show idxF (xs.length - k) m = -1; unfold idxF; rw [if_pos hmn]
      rw [HI.out]
      go_wp2_with fail
      go_ret
      refine ⟨k + m, ?_, hT.out, by (repeat (first | with_reducible exact Below.refl _ _ | (with_reducible assumption) | (with_reducible refine below_alloc ?_ _) | (with_reducible refine below_ext (w1 := ?_) ?_ ?_; rotate_left 2; (with_reducible assumption)) | (with_reducible refine Below.setCell ?_ ?_ _; rotate_left; ((try simp) <;> omega)) | (with_reducible refine Below.drew ?_) | (with_reducible refine below_drewN ?_ _) | fail))⟩
      unfold rowPtr
      rw [if_pos (by omega)]
      rfl
    · have HI : Hid (idxF (xs.length - k) m = (m : Int)) := by show idxF (xs.length - k) m = (m : Int); unfold idxF; rw [if_neg hmn]
      have hml1 : (m : Int) < ((xs.length - k : Nat) : Int) := by omega
      rw [HI.out]
      go_wp2_with fail
      go_ret
      refine ⟨k + m, ?_, hT.out, by (repeat (first | with_reducible exact Below.refl _ _ | (with_reducible assumption) | (with_reducible refine below_alloc ?_ _) | (with_reducible refine below_ext (w1 := ?_) ?_ ?_; rotate_left 2; (with_reducible assumption)) | (with_reducible refine Below.setCell ?_ ?_ _; rotate_left; ((try simp) <;> omega)) | (with_reducible refine Below.drew ?_) | (with_reducible refine below_drewN ?_ _) | fail))⟩
      unfold rowPtr
      rw [if_neg (by omega)]
      show Ending.returned _ = Ending.returned (.pointer (some ⟨b, off + (k + m) * 2, none⟩))
      rw [show off + (k + m) * 2 = off + k * 2 + m * 2 by omega]
      rfl
  · have hkn : k = xs.length := by omega
    have hG2 : Blk w2 w1.heap.size 3 #[.int .i64 (atF xs k)] := (Blk.new w1 3 #[.int .i64 (atF xs k)] _ rfl).ext hb2
    have hT : Hid (IsT xs k (atF xs k) k) := by
      refine ⟨Nat.le_refl _, hle, fun x hx hx' => by omega, fun h => by omega⟩
    have HI : Hid (idxF (xs.length - k) 0 = -1) := by show idxF (xs.length - k) 0 = -1; unfold idxF; rw [if_pos (by omega)]
    have HP : Hid (Value.pointer none = rowPtr A xs.length k) := by show Value.pointer none = rowPtr A xs.length k; unfold rowPtr; rw [if_pos hkn]
    clear hkn
    by_cases hcc : cap = k
    all_goals
      go_wp2_with fail
      refine (indexF_n [] _ _ w1.heap.size (atF xs k) _ (xs.length - k) (by simp; omega) (by omega) (fun h => absurd rfl h) hG2).mono ?_
      rintro e w3 ⟨m, rfl, hm, hall, hnot, hb3⟩
      have hm0 : m = 0 := by omega
      subst hm0
      rw [HI.out]
      go_wp2_with fail
      go_ret
      exact ⟨k, by rw [← HP.out]; rfl, hT.out, by (repeat (first | with_reducible exact Below.refl _ _ | (with_reducible assumption) | (with_reducible refine below_alloc ?_ _) | (with_reducible refine below_ext (w1 := ?_) ?_ ?_; rotate_left 2; (with_reducible assumption)) | (with_reducible refine Below.setCell ?_ ?_ _; rotate_left; ((try simp) <;> omega)) | (with_reducible refine Below.drew ?_) | (with_reducible refine below_drewN ?_ _) | fail))⟩

theorem firstEx (P : Nat → Prop) : ∀ n, ∃ k, k ≤ n ∧ (∀ x, x < k → ¬ P x) ∧ (k < n → P k)
  | 0 => ⟨0, Nat.le_refl _, fun x hx => by omega, fun h => by omega⟩
  | n + 1 => by
    obtain ⟨k, hk, h1, h2⟩ := firstEx P n
    by_cases hkn : k < n
    · exact ⟨k, by omega, h1, fun _ => h2 hkn⟩
    · have hkn' : k = n := by omega
      subst hkn'
      by_cases hp : P k
      · exact ⟨k, by omega, h1, fun _ => hp⟩
      · refine ⟨k + 1, Nat.le_refl _, fun x hx => ?_, fun h => by omega⟩
        rcases Nat.lt_or_ge x k with h3 | h3
        · exact h1 x h3
        · have : x = k := by omega
          subst this
          exact hp

theorem exB (xs : List Row) (t : Int) (hs : Sorted xs) : ∃ k, IsB xs t k := by
  obtain ⟨k, hk, h1, h2⟩ := firstEx (fun x => t < tk xs x) xs.length
  refine ⟨k, hk, fun x hx => by have := h1 x hx; omega, fun x hx hx' => ?_⟩
  have h3 : t < tk xs k := h2 (by omega)
  rcases Nat.lt_or_ge k x with h4 | h4
  · have := hs k x h4 hx'
    omega
  · have : x = k := by omega
    subst this
    exact h3

theorem exT (xs : List Row) (k : Nat) (p : Int) (hk : k ≤ xs.length) : ∃ m, IsT xs k p m := by
  obtain ⟨m, hm, h1, h2⟩ := firstEx (fun x => ph xs (k + x) ≠ p) (xs.length - k)
  refine ⟨k + m, by omega, by omega, fun x hx hx' => ?_, fun h => h2 (by omega)⟩
  have := h1 (x - k) (by omega)
  rw [show k + (x - k) = x by omega] at this
  simpa using this

theorem IsT.uniq {xs : List Row} {k m m' : Nat} {p : Int} (h : IsT xs k p m) (h' : IsT xs k p m') : m = m' := by
  obtain ⟨a1, a2, a3, a4⟩ := h
  obtain ⟨b1, b2, b3, b4⟩ := h'
  rcases Nat.lt_trichotomy m m' with h1 | h1 | h1
  · exact absurd (b3 m a1 h1) (a4 (by omega))
  · exact h1
  · exact absurd (a3 m' b1 h1) (b4 (by omega))

/-! ### Rest, Lasts -/
def restF (xs : List Row) (t : Int) (m : Nat) : Int := if m = xs.length then -1 else tk xs m - t
def lastsF (xs : List Row) (f t : Int) (k m : Nat) : Bool := decide (f ≤ t) && decide (atF xs k = 2) && (decide (m = xs.length) || decide (t < tk xs m))

theorem rest_any (xs : List Row) (A : Option Addr) (cap : Nat) (tick : Int) (k m : Nat) (w : World) (hml : xs.length ≤ 1000) (hcap : xs.length ≤ cap) (hcm : cap ≤ maxLen) (hr : Rd w 2 A (xs.map Row.cells)) (hs : Sorted xs) (hk : IsB xs tick k) (hm : IsT xs k (atF xs k) m)
    (ht : 0 ≤ tick) (hb : ∀ i, i < xs.length → I64 (tk xs i)) :
    Calls Try.prog 13 #[.slice A xs.length cap, .int .i64 tick] w fun e w' => e = .returned (.int .i64 (restF xs tick m)) ∧ Below w.heap.size w w' := by
  have HK := Lib.hid hk
  have HS := Lib.hid hs
  have HR := Lib.hid hr
  have HM := Lib.hid hm
  clear hk hs hr hm
  by_cases hmn : m = xs.length
  · have HF : Hid (restF xs tick m = -1) := by show restF xs tick m = -1; unfold restF; rw [if_pos hmn]
    have HP : Hid (rowPtr A xs.length m = .pointer none) := by show rowPtr A xs.length m = .pointer none; unfold rowPtr; rw [if_pos hmn]
    clear hmn hb
    go_enter Try.func13, Try.ntmps13
    go_wp2_with fail
    refine (turn_any xs A cap tick k _ hml hcap hcm HR.out HS.out HK.out).mono ?_
    rintro e w1 ⟨m', rfl, hT, hb1⟩
    have hmm : m = m' := HM.out.uniq hT
    subst hmm
    rw [HP.out]
    go_wp2_with fail
    go_ret
    exact ⟨by rw [HF.out]; rfl, by (repeat (first | with_reducible exact Below.refl _ _ | (with_reducible assumption) | (with_reducible refine below_alloc ?_ _) | (with_reducible refine below_ext (w1 := ?_) ?_ ?_; rotate_left 2; (with_reducible assumption)) | (with_reducible refine Below.setCell ?_ ?_ _; rotate_left; ((try simp) <;> omega)) | (with_reducible refine Below.drew ?_) | (with_reducible refine below_drewN ?_ _) | fail))⟩
  · have hlt : m < xs.length := by have := HM.out.2.1; omega
    obtain ⟨b, off, rfl, hc⟩ := HR.out.at hlt
    have HF : Hid (restF xs tick m = xs[m].tick - tick) := by show restF xs tick m = _; unfold restF; rw [if_neg hmn, tk_eq hlt]
    have HP : Hid (rowPtr (some ⟨b, off, none⟩) xs.length m = .pointer (some ⟨b, off + m * 2, none⟩)) := by show rowPtr _ _ _ = _; unfold rowPtr; rw [if_neg hmn]
    have hbm := hb m hlt
    rw [tk_eq hlt] at hbm
    obtain ⟨hbm1, hbm2⟩ := hbm
    have hgt : tick < xs[m].tick := by have := HK.out.2.2 m HM.out.1 hlt; rwa [tk_eq hlt] at this
    clear hmn hb hc
    go_enter Try.func13, Try.ntmps13
    go_wp2_with fail
    refine (turn_any xs _ cap tick k _ hml hcap hcm HR.out HS.out HK.out).mono ?_
    rintro e w1 ⟨m', rfl, hT, hb1⟩
    have hmm : m = m' := HM.out.uniq hT
    subst hmm
    rw [HP.out]
    obtain ⟨b', off', e', hc⟩ := (HR.out.below hb1).at hlt
    injection e' with e'
    injection e' with e1 e2
    subst e1 e2
    have hc0 : w1.cell? ⟨b, off + m * 2, none⟩ = some (.int .i64 xs[m].tick) := hc 0 _ rfl
    clear hc
    go_wp2_with fail
    go_ret
    exact ⟨by rw [HF.out]; rfl, by (repeat (first | with_reducible exact Below.refl _ _ | (with_reducible assumption) | (with_reducible refine below_alloc ?_ _) | (with_reducible refine below_ext (w1 := ?_) ?_ ?_; rotate_left 2; (with_reducible assumption)) | (with_reducible refine Below.setCell ?_ ?_ _; rotate_left; ((try simp) <;> omega)) | (with_reducible refine Below.drew ?_) | (with_reducible refine below_drewN ?_ _) | fail))⟩

theorem rrest_any (xs : List Row) (A : Option Addr) (cap : Nat) (tick : Int) (k m : Nat) (w : World) (hml : xs.length ≤ 1000) (hr : Rd w 2 A (xs.map Row.cells)) (hk : IsB xs tick k) (hm : IsT xs k (atF xs k) m)
    (ht : 0 ≤ tick) (hb : ∀ i, i < xs.length → I64 (tk xs i)) :
    Calls Try.prog 16 #[.slice A xs.length cap, .int .i64 tick] w fun e w' => e = .returned (.int .i64 (restF xs tick m)) ∧ Below w.heap.size w w' := by
  have HK := Lib.hid hk
  have HR := Lib.hid hr
  have HM := Lib.hid hm
  have HB := Lib.hid hb
  clear hk hr hm hb
  go_enter Try.func16, Try.ntmps16
  go_wp2_with fail
  refine (rat_any xs A cap tick k _ hml HR.out HK.out).mono ?_
  rintro e w1 ⟨rfl, hb1⟩
  generalize hp : atF xs k = p at *
  clear hp
  go_wp2_with fail
  go_loop [6] (fun i => ∃ n : Nat, n ≤ m ∧ i = .int .i64 n) (fun i => xs.length - (intOf i).toNat)
  case atStart => exact ⟨0, Nat.zero_le _, rfl⟩
  case round =>
    obtain ⟨n, hn, rfl⟩ := hrel
    obtain ⟨hm1, hm2, hm3, hm4⟩ := HM.out
    by_cases hlt : n < xs.length
    · obtain ⟨b, off, rfl, hc⟩ := (HR.out.below hb1).at hlt
      have hc0 : w1.cell? ⟨b, off + n * 2, none⟩ = some (.int .i64 xs[n].tick) := hc 0 _ rfl
      have hc1 : w1.cell? ⟨b, off + n * 2 + 1, none⟩ = some (.int .i64 xs[n].phase) := by have := hc 1 _ rfl; rwa [← Nat.add_assoc] at this
      clear hc
      by_cases hnk : n < k
      · have hle : xs[n].tick ≤ tick := by have := HK.out.2.1 n hnk; rwa [tk_eq hlt] at this
        clear hm3 hm4
        go_wp2_with fail
        go_round
        case rel => exact ⟨n + 1, by omega, by go_num⟩
        case measure => simp [intOf]; omega
      · have hgt : tick < xs[n].tick := by have := HK.out.2.2 n (by omega) hlt; rwa [tk_eq hlt] at this
        by_cases hnm : n < m
        · have hph := hm3 n (by omega) hnm
          rw [ph_eq hlt] at hph
          have hne : (xs[n].phase != p) = false := by simp [hph]
          clear hm3 hm4 hph
          go_wp2_with fail
          go_round
          case rel => exact ⟨n + 1, by omega, by go_num⟩
          case measure => simp [intOf]; omega
        · have hnm' : n = m := by omega
          subst hnm'
          have hph := hm4 hlt
          rw [ph_eq hlt] at hph
          have hne : (xs[n].phase != p) = true := by simpa using hph
          have HF : Hid (restF xs tick n = xs[n].tick - tick) := by show restF xs tick n = _; unfold restF; rw [if_neg (by omega), tk_eq hlt]
          have hbm := HB.out n hlt
          rw [tk_eq hlt] at hbm
          obtain ⟨hbm1, hbm2⟩ := hbm
          clear hm3 hm4 hph
          go_wp2_with fail
          go_ret
          exact ⟨by rw [HF.out]; rfl, by (repeat (first | with_reducible exact Below.refl _ _ | (with_reducible assumption) | (with_reducible refine below_alloc ?_ _) | (with_reducible refine below_ext (w1 := ?_) ?_ ?_; rotate_left 2; (with_reducible assumption)) | (with_reducible refine Below.setCell ?_ ?_ _; rotate_left; ((try simp) <;> omega)) | (with_reducible refine Below.drew ?_) | (with_reducible refine below_drewN ?_ _) | fail))⟩
    · have HF : Hid (restF xs tick m = -1) := by show restF xs tick m = -1; unfold restF; rw [if_pos (by omega)]
      clear hm3 hm4
      go_wp2_with fail
      go_ret
      exact ⟨by rw [HF.out]; rfl, by (repeat (first | with_reducible exact Below.refl _ _ | (with_reducible assumption) | (with_reducible refine below_alloc ?_ _) | (with_reducible refine below_ext (w1 := ?_) ?_ ?_; rotate_left 2; (with_reducible assumption)) | (with_reducible refine Below.setCell ?_ ?_ _; rotate_left; ((try simp) <;> omega)) | (with_reducible refine Below.drew ?_) | (with_reducible refine below_drewN ?_ _) | fail))⟩

theorem lasts_any (xs : List Row) (A : Option Addr) (cap : Nat) (f t : Int) (k m : Nat) (w : World) (hml : xs.length ≤ 1000) (hcap : xs.length ≤ cap) (hcm : cap ≤ maxLen) (hr : Rd w 2 A (xs.map Row.cells)) (hs : Sorted xs) (hk : IsB xs f k) (hm : IsT xs k (atF xs k) m) :
    Calls Try.prog 14 #[.slice A xs.length cap, .int .i64 f, .int .i64 t] w fun e w' => e = .returned (.bool (lastsF xs f t k m)) ∧ Below w.heap.size w w' := by
  have HK := Lib.hid hk
  have HS := Lib.hid hs
  have HR := Lib.hid hr
  have HM := Lib.hid hm
  clear hk hs hr hm
  by_cases hft : t < f
  · have HF : Hid (lastsF xs f t k m = false) := by show lastsF xs f t k m = false; simp [lastsF]; omega
    go_enter Try.func14, Try.ntmps14
    go_wp2_with fail
    go_ret
    exact ⟨by rw [HF.out]; rfl, by (repeat (first | with_reducible exact Below.refl _ _ | (with_reducible assumption) | (with_reducible refine below_alloc ?_ _) | (with_reducible refine below_ext (w1 := ?_) ?_ ?_; rotate_left 2; (with_reducible assumption)) | (with_reducible refine Below.setCell ?_ ?_ _; rotate_left; ((try simp) <;> omega)) | (with_reducible refine Below.drew ?_) | (with_reducible refine below_drewN ?_ _) | fail))⟩
  by_cases ha : atF xs k = 2
  · have HA : Hid (atF xs k = 2) := ha
    have hle : decide (f ≤ t) = true := by simp; omega
    by_cases hmn : m = xs.length
    · have HF : Hid (lastsF xs f t k m = true) := by show lastsF xs f t k m = true; simp [lastsF, ha, hmn]; omega
      have HP : Hid (rowPtr A xs.length m = .pointer none) := by show rowPtr A xs.length m = .pointer none; unfold rowPtr; rw [if_pos hmn]
      clear hmn ha
      go_enter Try.func14, Try.ntmps14
      go_wp2_with fail
      refine (at_any xs A cap f k _ hml HR.out HS.out HK.out).mono ?_
      rintro e w1 ⟨rfl, hb1⟩
      rw [HA.out]
      go_wp2_with fail
      refine (turn_any xs A cap f k _ hml hcap hcm (HR.out.below hb1) HS.out HK.out).mono ?_
      rintro e w2 ⟨m', rfl, hT, hb2⟩
      have hmm : m = m' := HM.out.uniq hT
      subst hmm
      rw [HP.out]
      go_wp2_with fail
      go_ret
      exact ⟨by rw [HF.out]; rfl, by (repeat (first | with_reducible exact Below.refl _ _ | (with_reducible assumption) | (with_reducible refine below_alloc ?_ _) | (with_reducible refine below_ext (w1 := ?_) ?_ ?_; rotate_left 2; (with_reducible assumption)) | (with_reducible refine Below.setCell ?_ ?_ _; rotate_left; ((try simp) <;> omega)) | (with_reducible refine Below.drew ?_) | (with_reducible refine below_drewN ?_ _) | fail))⟩
    · have hlt : m < xs.length := by have := HM.out.2.1; omega
      obtain ⟨b, off, rfl, hc⟩ := HR.out.at hlt
      have HF : Hid (lastsF xs f t k m = decide (t < xs[m].tick)) := by show lastsF xs f t k m = _; simp [lastsF, ha, hmn, tk_eq hlt]; omega
      have HP : Hid (rowPtr (some ⟨b, off, none⟩) xs.length m = .pointer (some ⟨b, off + m * 2, none⟩)) := by show rowPtr _ _ _ = _; unfold rowPtr; rw [if_neg hmn]
      clear hmn ha hc
      go_enter Try.func14, Try.ntmps14
      go_wp2_with fail
      refine (at_any xs _ cap f k _ hml HR.out HS.out HK.out).mono ?_
      rintro e w1 ⟨rfl, hb1⟩
      rw [HA.out]
      go_wp2_with fail
      refine (turn_any xs _ cap f k _ hml hcap hcm (HR.out.below hb1) HS.out HK.out).mono ?_
      rintro e w2 ⟨m', rfl, hT, hb2⟩
      have hmm : m = m' := HM.out.uniq hT
      subst hmm
      rw [HP.out]
      obtain ⟨b', off', e', hc⟩ := (HR.out.below (show Below w.heap.size w w2 by (repeat (first | with_reducible exact Below.refl _ _ | (with_reducible assumption) | (with_reducible refine below_alloc ?_ _) | (with_reducible refine below_ext (w1 := ?_) ?_ ?_; rotate_left 2; (with_reducible assumption)) | (with_reducible refine Below.setCell ?_ ?_ _; rotate_left; ((try simp) <;> omega)) | (with_reducible refine Below.drew ?_) | (with_reducible refine below_drewN ?_ _) | fail)))).at hlt
      injection e' with e'
      injection e' with e1 e2
      subst e1 e2
      have hc0 : w2.cell? ⟨b, off + m * 2, none⟩ = some (.int .i64 xs[m].tick) := hc 0 _ rfl
      clear hc
      go_wp2_with fail
      go_ret
      exact ⟨by rw [HF.out]; rfl, by (repeat (first | with_reducible exact Below.refl _ _ | (with_reducible assumption) | (with_reducible refine below_alloc ?_ _) | (with_reducible refine below_ext (w1 := ?_) ?_ ?_; rotate_left 2; (with_reducible assumption)) | (with_reducible refine Below.setCell ?_ ?_ _; rotate_left; ((try simp) <;> omega)) | (with_reducible refine Below.drew ?_) | (with_reducible refine below_drewN ?_ _) | fail))⟩
  · have HF : Hid (lastsF xs f t k m = false) := by show lastsF xs f t k m = false; simp [lastsF, ha]
    have hne : (atF xs k != 2) = true := by simpa using ha
    clear ha
    go_enter Try.func14, Try.ntmps14
    go_wp2_with (first | (go_at_call 11; refine (at_any xs A cap f k _ hml HR.out HS.out HK.out).mono ?_; rintro e w1 ⟨rfl, hb1⟩) | fail)
    go_ret
    exact ⟨by rw [HF.out]; rfl, by (repeat (first | with_reducible exact Below.refl _ _ | (with_reducible assumption) | (with_reducible refine below_alloc ?_ _) | (with_reducible refine below_ext (w1 := ?_) ?_ ?_; rotate_left 2; (with_reducible assumption)) | (with_reducible refine Below.setCell ?_ ?_ _; rotate_left; ((try simp) <;> omega)) | (with_reducible refine Below.drew ?_) | (with_reducible refine below_drewN ?_ _) | fail))⟩

theorem rlasts_any (xs : List Row) (A : Option Addr) (cap : Nat) (f t : Int) (k m : Nat) (w : World) (hml : xs.length ≤ 1000) (hr : Rd w 2 A (xs.map Row.cells)) (hs : Sorted xs) (hk : IsB xs f k) (hm : IsT xs k (atF xs k) m) :
    Calls Try.prog 15 #[.slice A xs.length cap, .int .i64 f, .int .i64 t] w fun e w' => e = .returned (.bool (lastsF xs f t k m)) ∧ Below w.heap.size w w' := by
  have HK := Lib.hid hk
  have HR := Lib.hid hr
  have HM := Lib.hid hm
  have HS := Lib.hid hs
  clear hk hr hm hs
  by_cases hft : t < f
  · have HF : Hid (lastsF xs f t k m = false) := by show lastsF xs f t k m = false; simp [lastsF]; omega
    go_enter Try.func15, Try.ntmps15
    go_wp2_with fail
    go_ret
    exact ⟨by rw [HF.out]; rfl, by (repeat (first | with_reducible exact Below.refl _ _ | (with_reducible assumption) | (with_reducible refine below_alloc ?_ _) | (with_reducible refine below_ext (w1 := ?_) ?_ ?_; rotate_left 2; (with_reducible assumption)) | (with_reducible refine Below.setCell ?_ ?_ _; rotate_left; ((try simp) <;> omega)) | (with_reducible refine Below.drew ?_) | (with_reducible refine below_drewN ?_ _) | fail))⟩
  by_cases ha : atF xs k = 2
  · have HA : Hid (atF xs k = 2) := ha
    clear ha
    go_enter Try.func15, Try.ntmps15
    go_wp2_with fail
    refine (rat_any xs A cap f k _ hml HR.out HK.out).mono ?_
    rintro e w1 ⟨rfl, hb1⟩
    rw [HA.out]
    go_wp2_with fail
    go_loop [7] (fun i => ∃ n : Nat, n ≤ xs.length ∧ i = .int .i64 n ∧ Hid (m < n → t < tk xs m)) (fun i => xs.length - (intOf i).toNat)
    case atStart => exact ⟨0, Nat.zero_le _, rfl, fun h => by omega⟩
    case round =>
      obtain ⟨n, hn, rfl, hq⟩ := hrel
      obtain ⟨hm1, hm2, hm3, hm4⟩ := HM.out
      by_cases hlt : n < xs.length
      · obtain ⟨b, off, rfl, hc⟩ := (HR.out.below hb1).at hlt
        have hc0 : w1.cell? ⟨b, off + n * 2, none⟩ = some (.int .i64 xs[n].tick) := hc 0 _ rfl
        have hc1 : w1.cell? ⟨b, off + n * 2 + 1, none⟩ = some (.int .i64 xs[n].phase) := by have := hc 1 _ rfl; rwa [← Nat.add_assoc] at this
        clear hc
        by_cases hnk : n < k
        · have hle : xs[n].tick ≤ f := by have := HK.out.2.1 n hnk; rwa [tk_eq hlt] at this
          clear hm3 hm4
          go_wp2_with fail
          go_round
          case rel => exact ⟨n + 1, by omega, by go_num, fun h => by omega⟩
          case measure => simp [intOf]; omega
        · have hgt : f < xs[n].tick := by have := HK.out.2.2 n (by omega) hlt; rwa [tk_eq hlt] at this
          by_cases hto : t < xs[n].tick
          · have HT : Hid (t < tk xs n) := by show t < tk xs n; rw [tk_eq hlt]; exact hto
            clear hm3 hm4
            go_wp2_with fail
            go_round
            case rel =>
              refine ⟨n + 1, by omega, by go_num, fun h => ?_⟩
              rcases Nat.lt_or_ge m n with h1 | h1
              · exact hq.out h1
              · have : m = n := by omega
                subst this
                exact HT.out
            case measure => simp [intOf]; omega
          · by_cases hnm : n < m
            · have hph := hm3 n (by omega) hnm
              rw [ph_eq hlt, HA.out] at hph
              have hne : (xs[n].phase != 2) = false := by simp [hph]
              clear hm3 hm4 hph
              go_wp2_with fail
              go_round
              case rel => exact ⟨n + 1, by omega, by go_num, fun h => by omega⟩
              case measure => simp [intOf]; omega
            · by_cases hnm2 : m < n
              · have h1 := hq.out hnm2
                have h2 := HS.out m n hnm2 hlt
                rw [tk_eq hlt] at h2
                omega
              · have hnm' : n = m := by omega
                subst hnm'
                have hph := hm4 hlt
                rw [ph_eq hlt, HA.out] at hph
                have hne : (xs[n].phase != 2) = true := by simpa using hph
                have HF : Hid (lastsF xs f t k n = false) := by
                  show lastsF xs f t k n = false
                  have h1 : ¬ n = xs.length := by omega
                  simp [lastsF, h1, tk_eq hlt]
                  omega
                clear hm3 hm4 hph
                go_wp2_with fail
                go_ret
                exact ⟨by rw [HF.out]; rfl, by (repeat (first | with_reducible exact Below.refl _ _ | (with_reducible assumption) | (with_reducible refine below_alloc ?_ _) | (with_reducible refine below_ext (w1 := ?_) ?_ ?_; rotate_left 2; (with_reducible assumption)) | (with_reducible refine Below.setCell ?_ ?_ _; rotate_left; ((try simp) <;> omega)) | (with_reducible refine Below.drew ?_) | (with_reducible refine below_drewN ?_ _) | fail))⟩
      · have HF : Hid (lastsF xs f t k m = true) := by
          show lastsF xs f t k m = true
          have h1 : f ≤ t := by omega
          by_cases h2 : m = xs.length
          · simp [lastsF, h1, HA.out, h2]
          · have := hq.out (by omega)
            simp [lastsF, h1, HA.out, this]
        clear hm3 hm4
        go_wp2_with fail
        go_ret
        exact ⟨by rw [HF.out]; rfl, by (repeat (first | with_reducible exact Below.refl _ _ | (with_reducible assumption) | (with_reducible refine below_alloc ?_ _) | (with_reducible refine below_ext (w1 := ?_) ?_ ?_; rotate_left 2; (with_reducible assumption)) | (with_reducible refine Below.setCell ?_ ?_ _; rotate_left; ((try simp) <;> omega)) | (with_reducible refine Below.drew ?_) | (with_reducible refine below_drewN ?_ _) | fail))⟩
  · have HF : Hid (lastsF xs f t k m = false) := by show lastsF xs f t k m = false; simp [lastsF, ha]
    have hne : (atF xs k != 2) = true := by simpa using ha
    clear ha
    go_enter Try.func15, Try.ntmps15
    go_wp2_with (first | (go_at_call 12; refine (rat_any xs A cap f k _ hml HR.out HK.out).mono ?_; rintro e w1 ⟨rfl, hb1⟩) | fail)
    go_ret
    exact ⟨by rw [HF.out]; rfl, by (repeat (first | with_reducible exact Below.refl _ _ | (with_reducible assumption) | (with_reducible refine below_alloc ?_ _) | (with_reducible refine below_ext (w1 := ?_) ?_ ?_; rotate_left 2; (with_reducible assumption)) | (with_reducible refine Below.setCell ?_ ?_ _; rotate_left; ((try simp) <;> omega)) | (with_reducible refine Below.drew ?_) | (with_reducible refine below_drewN ?_ _) | fail))⟩

/-! ### Rising, light -/
def risB (xs : List Row) : Bool := (List.range xs.length).all fun i => decide (0 ≤ tk xs i) && (decide (i = 0) || decide (tk xs (i - 1) < tk xs i))
theorem risB_at {xs : List Row} (h : risB xs = true) {i : Nat} (hi : i < xs.length) : 0 ≤ tk xs i ∧ (i = 0 ∨ tk xs (i - 1) < tk xs i) := by
  have := List.all_eq_true.1 h i (List.mem_range.2 hi)
  simpa using this
theorem risB_not {xs : List Row} {i : Nat} (hi : i < xs.length) (h : ¬ (0 ≤ tk xs i ∧ (i = 0 ∨ tk xs (i - 1) < tk xs i))) : risB xs = false := by
  cases hr : risB xs with
  | false => rfl
  | true => exact absurd (risB_at hr hi) h
theorem risB_of {xs : List Row} (h : ∀ i, i < xs.length → 0 ≤ tk xs i ∧ (i = 0 ∨ tk xs (i - 1) < tk xs i)) : risB xs = true := by
  unfold risB
  rw [List.all_eq_true]
  intro i hi
  simpa using h i (List.mem_range.1 hi)
theorem risB_sorted {xs : List Row} (h : risB xs = true) : Sorted xs := by
  intro i j hij hj
  induction j with
  | zero => omega
  | succ j ih =>
    have h1 := (risB_at h hj).2
    simp only [Nat.add_sub_cancel] at h1
    rcases Nat.lt_or_ge i j with h2 | h2
    · have := ih h2 (by omega)
      omega
    · have : i = j := by omega
      subst this
      omega

theorem rising_any (xs : List Row) (A : Option Addr) (cap : Nat) (w : World) (hml : xs.length ≤ 1000) (hr : Rd w 2 A (xs.map Row.cells)) :
    Calls Try.prog 19 #[.slice A xs.length cap] w fun e w' => e = .returned (.bool (risB xs)) ∧ Below w.heap.size w w' := by
  have HR := Lib.hid hr
  clear hr
  go_enter Try.func19, Try.ntmps19
  go_wp2
  go_loopw [3] (fun i wr => ∃ n : Nat, n ≤ xs.length ∧ i = .int .i64 n ∧ Hid (∀ x, x < n → 0 ≤ tk xs x ∧ (x = 0 ∨ tk xs (x - 1) < tk xs x)) ∧ Below w.heap.size w wr) (fun i _ => xs.length - (intOf i).toNat)
  case atStart => exact ⟨0, Nat.zero_le _, rfl, fun x hx => by omega, Below.refl _ _⟩
  case round =>
    obtain ⟨n, hn, rfl, hall, hb⟩ := hrel
    by_cases hlt : n < xs.length
    · obtain ⟨b, off, rfl, hc⟩ := (HR.out.below hb).at hlt
      have hc0 : wr.cell? ⟨b, off + n * 2, none⟩ = some (.int .i64 xs[n].tick) := hc 0 _ rfl
      have hnl : (n : Int) < xs.length := by omega
      clear hc
      by_cases hneg : xs[n].tick < 0
      · have HF : Hid (risB xs = false) := risB_not hlt (by rw [tk_eq hlt]; omega)
        have hd : decide (xs[n].tick < 0) = true := by simpa using hneg
        go_wp2_with fail
        go_quiet (fail)
        go_wp2_with fail
        go_ret
        exact ⟨by rw [HF.out]; rfl, by (repeat (first | with_reducible exact Below.refl _ _ | (with_reducible assumption) | (with_reducible refine below_alloc ?_ _) | (with_reducible refine below_ext (w1 := ?_) ?_ ?_; rotate_left 2; (with_reducible assumption)) | (with_reducible refine Below.setCell ?_ ?_ _; rotate_left; ((try simp) <;> omega)) | (with_reducible refine Below.drew ?_) | (with_reducible refine below_drewN ?_ _) | fail))⟩
      · have hd : decide (xs[n].tick < 0) = false := by simpa using hneg
        have HT0 : Hid (0 ≤ tk xs n) := by show 0 ≤ tk xs n; rw [tk_eq hlt]; omega
        rcases n with _ | n
        · simp only [Nat.zero_mul, Nat.add_zero] at hc0
          go_wp2_with fail
          go_quiet (fail)
          go_wp2_with fail
          go_roundw
          case rel =>
            refine ⟨1, by omega, rfl, fun x hx => ?_, by (repeat (first | with_reducible exact Below.refl _ _ | (with_reducible assumption) | (with_reducible refine below_alloc ?_ _) | (with_reducible refine below_ext (w1 := ?_) ?_ ?_; rotate_left 2; (with_reducible assumption)) | (with_reducible refine Below.setCell ?_ ?_ _; rotate_left; ((try simp) <;> omega)) | (with_reducible refine Below.drew ?_) | (with_reducible refine below_drewN ?_ _) | fail))⟩
            have : x = 0 := by omega
            subst this
            exact ⟨HT0.out, .inl rfl⟩
          case measure => simp [intOf]; omega
        · have hlt1 : n < xs.length := by omega
          obtain ⟨b', off', e', hc⟩ := (HR.out.below hb).at hlt1
          injection e' with e'
          injection e' with e1 e2
          subst e1 e2
          have hc1 : wr.cell? ⟨b, off + n * 2, none⟩ = some (.int .i64 xs[n].tick) := hc 0 _ rfl
          clear hc
          have hpos : decide ((0 : Int) < (n : Int) + 1) = true := decide_eq_true (by omega)
          have hn0 : (0 : Int) ≤ n := by omega
          have hn1 : (n : Int) + 1 < xs.length := by omega
          by_cases hle : xs[n + 1].tick ≤ xs[n].tick
          · have HF : Hid (risB xs = false) := risB_not hlt (by rw [tk_eq hlt, Nat.add_sub_cancel, tk_eq hlt1]; omega)
            have hd2 : decide (xs[n + 1].tick ≤ xs[n].tick) = true := decide_eq_true hle
            go_wp2_with fail
            go_quiet (fail)
            go_wp2_with fail
            go_ret
            exact ⟨by rw [HF.out]; rfl, by (repeat (first | with_reducible exact Below.refl _ _ | (with_reducible assumption) | (with_reducible refine below_alloc ?_ _) | (with_reducible refine below_ext (w1 := ?_) ?_ ?_; rotate_left 2; (with_reducible assumption)) | (with_reducible refine Below.setCell ?_ ?_ _; rotate_left; ((try simp) <;> omega)) | (with_reducible refine Below.drew ?_) | (with_reducible refine below_drewN ?_ _) | fail))⟩
          · have HT1 : Hid (tk xs n < tk xs (n + 1)) := by show tk xs n < tk xs (n + 1); rw [tk_eq hlt, tk_eq hlt1]; omega
            have hd2 : decide (xs[n + 1].tick ≤ xs[n].tick) = false := decide_eq_false hle
            go_wp2_with fail
            go_quiet (fail)
            go_wp2_with fail
            go_roundw
            case rel =>
              refine ⟨n + 2, by omega, by go_num, fun x hx => ?_, by (repeat (first | with_reducible exact Below.refl _ _ | (with_reducible assumption) | (with_reducible refine below_alloc ?_ _) | (with_reducible refine below_ext (w1 := ?_) ?_ ?_; rotate_left 2; (with_reducible assumption)) | (with_reducible refine Below.setCell ?_ ?_ _; rotate_left; ((try simp) <;> omega)) | (with_reducible refine Below.drew ?_) | (with_reducible refine below_drewN ?_ _) | fail))⟩
              rcases Nat.lt_or_ge x (n + 1) with h1 | h1
              · exact hall.out x h1
              · have : x = n + 1 := by omega
                subst this
                exact ⟨HT0.out, .inr HT1.out⟩
            case measure => simp [intOf]; omega
    · have HF : Hid (risB xs = true) := by
        have : n = xs.length := by omega
        subst this
        exact risB_of hall.out
      go_wp2_with fail
      go_ret
      exact ⟨by rw [HF.out]; rfl, by (repeat (first | with_reducible exact Below.refl _ _ | (with_reducible assumption) | (with_reducible refine below_alloc ?_ _) | (with_reducible refine below_ext (w1 := ?_) ?_ ?_; rotate_left 2; (with_reducible assumption)) | (with_reducible refine Below.setCell ?_ ?_ _; rotate_left; ((try simp) <;> omega)) | (with_reducible refine Below.drew ?_) | (with_reducible refine below_drewN ?_ _) | fail))⟩

def lightF (xs : List Row) (t : Int) : Bool := decide (xs.length ≤ 60) && risB xs && decide (0 ≤ t)
theorem light_any (xs : List Row) (A : Option Addr) (cap : Nat) (t : Int) (w : World) (hml : xs.length ≤ maxLen) (hr : Rd w 2 A (xs.map Row.cells)) :
    Calls Try.prog 7 #[.slice A xs.length cap, .int .i64 t] w fun e w' => e = .returned (.bool (lightF xs t)) ∧ Below w.heap.size w w' := by
  unfold maxLen at hml
  have HR := Lib.hid hr
  clear hr
  by_cases hl : xs.length ≤ 60
  · have hi : decide ((xs.length : Int) ≤ 60) = true := decide_eq_true (by omega)
    cases hrb : risB xs
    · have HB := Lib.hid hrb
      have HF : Hid (lightF xs t = false) := by show lightF xs t = false; simp [lightF, hrb]
      clear hrb
      go_enter Try.func7, Try.ntmps7
      go_wp2_with (first | (go_at_call 19; refine (rising_any xs A cap _ (by omega) HR.out).mono ?_; rintro e w1 ⟨rfl, hb1⟩; rw [HB.out]) | fail)
      go_ret
      exact ⟨by rw [HF.out]; rfl, by (repeat (first | with_reducible exact Below.refl _ _ | (with_reducible assumption) | (with_reducible refine below_alloc ?_ _) | (with_reducible refine below_ext (w1 := ?_) ?_ ?_; rotate_left 2; (with_reducible assumption)) | (with_reducible refine Below.setCell ?_ ?_ _; rotate_left; ((try simp) <;> omega)) | (with_reducible refine Below.drew ?_) | (with_reducible refine below_drewN ?_ _) | fail))⟩
    · have HB := Lib.hid hrb
      have HF : Hid (lightF xs t = decide (0 ≤ t)) := by show lightF xs t = _; simp [lightF, hrb, hl]
      clear hrb
      go_enter Try.func7, Try.ntmps7
      go_wp2_with (first | (go_at_call 19; refine (rising_any xs A cap _ (by omega) HR.out).mono ?_; rintro e w1 ⟨rfl, hb1⟩; rw [HB.out]) | fail)
      go_ret
      exact ⟨by rw [HF.out]; rfl, by (repeat (first | with_reducible exact Below.refl _ _ | (with_reducible assumption) | (with_reducible refine below_alloc ?_ _) | (with_reducible refine below_ext (w1 := ?_) ?_ ?_; rotate_left 2; (with_reducible assumption)) | (with_reducible refine Below.setCell ?_ ?_ _; rotate_left; ((try simp) <;> omega)) | (with_reducible refine Below.drew ?_) | (with_reducible refine below_drewN ?_ _) | fail))⟩
  · have HF : Hid (lightF xs t = false) := by show lightF xs t = false; simp [lightF, hl]
    have hi : decide ((xs.length : Int) ≤ 60) = false := decide_eq_false (by omega)
    go_enter Try.func7, Try.ntmps7
    go_wp2_with fail
    go_ret
    exact ⟨by rw [HF.out]; rfl, by (repeat (first | with_reducible exact Below.refl _ _ | (with_reducible assumption) | (with_reducible refine below_alloc ?_ _) | (with_reducible refine below_ext (w1 := ?_) ?_ ?_; rotate_left 2; (with_reducible assumption)) | (with_reducible refine Below.setCell ?_ ?_ _; rotate_left; ((try simp) <;> omega)) | (with_reducible refine Below.drew ?_) | (with_reducible refine below_drewN ?_ _) | fail))⟩

theorem lightF_yes {xs : List Row} {t : Int} (h : lightF xs t = true) : xs.length ≤ 60 ∧ Sorted xs ∧ 0 ≤ t ∧ risB xs = true := by
  simp only [lightF, Bool.and_eq_true, decide_eq_true_eq] at h
  exact ⟨h.1.1, risB_sorted h.1.2, h.2, h.1.2⟩

def two : List Row := [⟨5, 1⟩, ⟨10, 2⟩]
theorem Rd_two {w : World} (t : TypeId) (n : Nat) (h : w.heap.size = n) : Rd (w.alloc (.cells #[.int .i64 5, .int .i64 1, .int .i64 10, .int .i64 2] t)) 2 (some ⟨n, 0, none⟩) (two.map Row.cells) := by
  subst h
  intro _
  refine ⟨_, _, rfl, fun i j u hu => ?_⟩
  match i, j with
  | 0, 0 => simpa [two, Row.cells] using hu
  | 0, 1 => simpa [two, Row.cells] using hu
  | 1, 0 => simpa [two, Row.cells] using hu
  | 1, 1 => simpa [two, Row.cells] using hu
  | 0, j + 2 => simp [two, Row.cells] at hu
  | 1, j + 2 => simp [two, Row.cells] at hu
  | i + 2, j => simp [two] at hu
theorem two_sorted : Sorted two := by
  intro i j h1 h2
  match i, j with
  | 0, 1 => decide
  | 0, 0 => omega
  | i + 1, 1 => omega
  | i, j + 2 => exact absurd (show j + 2 < 2 from h2) (by omega)
  | i + 1, 0 => omega
theorem two_B (t : Int) (k : Nat) (h : (k = 0 ∧ t < 5) ∨ (k = 1 ∧ 5 ≤ t ∧ t < 10) ∨ (k = 2 ∧ 10 ≤ t)) : IsB two t k := by
  have e0 : tk two 0 = 5 := rfl
  have e1 : tk two 1 = 10 := rfl
  refine ⟨by show k ≤ 2; omega, fun x hx => ?_, fun x hx hx' => ?_⟩
  · have : x = 0 ∨ x = 1 := by omega
    rcases this with rfl | rfl
    · rw [e0]; omega
    · rw [e1]; omega
  · have hx2 : x < 2 := hx'
    have : x = 0 ∨ x = 1 := by omega
    rcases this with rfl | rfl
    · rw [e0]; omega
    · rw [e1]; omega
theorem two_T : IsT two 2 (atF two 2) 2 := ⟨Nat.le_refl _, Nat.le_refl _, fun x hx hx' => by omega, fun h => by have : 2 < 2 := h; omega⟩
theorem two_I : ∀ i, i < two.length → I64 (tk two i) := by
  intro i hi
  have hi2 : i < 2 := hi
  have : i = 0 ∨ i = 1 := by omega
  rcases this with rfl | rfl
  · exact ⟨by decide, by decide⟩
  · exact ⟨by decide, by decide⟩

theorem alive_any (w : World) : Calls Try.prog 8 #[] w fun e w' => e = .returned (.bool true) ∧ Below w.heap.size w w' := by
  have HR := Lib.hid (Rd_two (w := w) 35 _ rfl)
  have e1 : nextF two 1 = (10, true) := rfl
  have e2 : atF two 0 = 0 := rfl
  have e3 : atF two 1 = 1 := rfl
  have e4 : restF two 12 2 = -1 := rfl
  have E1 := Lib.hid e1
  have E2 := Lib.hid e2
  have E3 := Lib.hid e3
  have E4 := Lib.hid e4
  clear e1 e2 e3 e4
  go_enter Try.func8, Try.ntmps8
  go_wp2_with fail
  refine (next_any two _ 2 7 1 _ (by decide) HR.out two_sorted (two_B _ _ (by omega))).mono ?_
  rintro e w1 ⟨he, hb1⟩
  rw [E1.out] at he
  subst he
  go_wp2_with fail
  refine (at_any two _ 2 4 0 _ (by decide) (HR.out.below hb1) two_sorted (two_B _ _ (by omega))).mono ?_
  rintro e w2 ⟨he, hb2⟩
  rw [E2.out] at he
  subst he
  go_wp2_with fail
  refine (at_any two _ 2 7 1 _ (by decide) ((HR.out.below hb1).below hb2) two_sorted (two_B _ _ (by omega))).mono ?_
  rintro e w3 ⟨he, hb3⟩
  rw [E3.out] at he
  subst he
  go_wp2_with fail
  refine (rest_any two _ 2 12 2 2 _ (by decide) (by decide) (by unfold maxLen; omega) (((HR.out.below hb1).below hb2).below hb3) two_sorted (two_B _ _ (by omega)) two_T (by decide) two_I).mono ?_
  rintro e w4 ⟨he, hb4⟩
  rw [E4.out] at he
  subst he
  go_wp2_with fail
  go_ret
  exact ⟨rfl, by (repeat (first | with_reducible exact Below.refl _ _ | (with_reducible assumption) | (with_reducible refine below_alloc ?_ _) | (with_reducible refine below_ext (w1 := ?_) ?_ ?_; rotate_left 2; (with_reducible assumption)) | (with_reducible refine Below.setCell ?_ ?_ _; rotate_left; ((try simp) <;> omega)) | (with_reducible refine Below.drew ?_) | (with_reducible refine below_drewN ?_ _) | fail))⟩
end Ses
end Go.Proofs.Yteoagikahdlggaa
