/- This text proves contracts of the packages short and damperref24 (Trips, Covers, May, Least), and of the helpers of damperlaw24. They have no conditions but those that they state. -/
import Derived.Test.YtofjjbhhclnpoaaFix
import Derived.Test.YtofjjbhhclnpoaaQuiet
import Derived.Deep.RegionWith
namespace Go.Proofs.Ytofjjbhhclnpoaa
open Go.RowKit
namespace Sho
set_option maxHeartbeats 400000

/-! ### flags -/
theorem and_small (f : Int) (m : Nat) (hm : m < 4) : bits .and .i64 f m = (((BitVec.ofInt 64 f).toNat &&& m : Nat) : Int) := by
  have h : bits .and .i64 f m = (BitVec.ofInt 64 f &&& BitVec.ofInt 64 (m : Int)).toInt := Fix.wrap_toNat _
  rw [h, BitVec.toInt_eq_toNat_of_lt]
  · rw [BitVec.toNat_and]
    have : (BitVec.ofInt 64 (m : Int)).toNat = m := by simp; omega
    rw [this]
  · rw [BitVec.toNat_and]
    have h1 := Nat.and_le_right (n := (BitVec.ofInt 64 f).toNat) (m := (BitVec.ofInt 64 (m : Int)).toNat)
    have : (BitVec.ofInt 64 (m : Int)).toNat = m := by simp; omega
    omega
def low (f : Int) : Int := (((BitVec.ofInt 64 f).toNat % 4 : Nat) : Int)
theorem low_lt (f : Int) : 0 ≤ low f ∧ low f < 4 := by unfold low; omega
theorem and1 (f : Int) : bits .and .i64 f 1 = low f % 2 := by
  have := and_small f 1 (by decide)
  rw [show ((1 : Nat) : Int) = 1 from rfl] at this
  rw [this, Nat.and_one_is_mod]
  unfold low
  omega
theorem nat_and2 (n : Nat) : n &&& 2 = n / 2 % 2 * 2 := by
  have h1 : (n &&& 2) / 2 = n / 2 % 2 := by rw [Nat.and_div_two, ← Nat.and_one_is_mod]
  have h2 : (n &&& 2) % 2 = 0 := by
    have := Nat.and_mod_two_pow (a := n) (b := 2) (n := 1)
    simpa using this
  omega
theorem and2 (f : Int) : bits .and .i64 f 2 = low f / 2 * 2 := by
  have := and_small f 2 (by decide)
  rw [show ((2 : Nat) : Int) = 2 from rfl] at this
  rw [this, nat_and2]
  unfold low
  omega
theorem and3 (f : Int) : bits .and .i64 f 3 = low f := by
  have := and_small f 3 (by decide)
  rw [show ((3 : Nat) : Int) = 3 from rfl] at this
  rw [this]
  have h := Nat.and_two_pow_sub_one_eq_mod (BitVec.ofInt 64 f).toNat 2
  rw [show (2 : Nat) ^ 2 - 1 = 3 from rfl] at h
  rw [h]
  rfl

def coversF (o : Ord) : Bool := decide (o.side = 1) && decide (low o.flags = 1)

theorem covers_any (o : Ord) (w : World) :
    Calls Try.prog 46 #[.agg o.arr] w fun e w' => e = .returned (.bool (coversF o)) ∧ Below w.heap.size w w' := by
  have H3 := and3 o.flags
  by_cases h1 : o.side = 1
  · have k1 : (o.side == 1) = true := by simp [h1]
    have HC := Lib.hid h1
    clear h1
    go_enter Try.func46, Try.ntmps46
    go_wp2
    go_ret
    refine ⟨ret_bool ?_, by (repeat (first | with_reducible exact Below.refl _ _ | (with_reducible assumption) | (with_reducible refine below_alloc ?_ _) | (with_reducible refine below_ext (w1 := ?_) ?_ ?_; rotate_left 2; (with_reducible assumption)) | (with_reducible refine Below.setCell ?_ ?_ _; rotate_left; ((try simp) <;> omega)) | (with_reducible refine Below.drew ?_) | (with_reducible refine below_drewN ?_ _) | fail))⟩
    rw [coversF, HC.out, Bool.eq_iff_iff]
    simp
  · have k1 : (o.side == 1) = false := by simp [h1]
    have HC := Lib.hid h1
    clear h1
    go_enter Try.func46, Try.ntmps46
    go_wp2
    go_ret
    exact ⟨ret_bool (by simp [coversF, HC.out]), by (repeat (first | with_reducible exact Below.refl _ _ | (with_reducible assumption) | (with_reducible refine below_alloc ?_ _) | (with_reducible refine below_ext (w1 := ?_) ?_ ?_; rotate_left 2; (with_reducible assumption)) | (with_reducible refine Below.setCell ?_ ?_ _; rotate_left; ((try simp) <;> omega)) | (with_reducible refine Below.drew ?_) | (with_reducible refine below_drewN ?_ _) | fail))⟩

theorem rcovers_any (o : Ord) (w : World) :
    Calls Try.prog 47 #[.agg o.arr] w fun e w' => e = .returned (.bool (coversF o)) ∧ Below w.heap.size w w' := by
  have H1 := and1 o.flags
  have H2 := and2 o.flags
  have hlo := low_lt o.flags
  have HL := Lib.hid hlo
  clear hlo
  by_cases h1 : o.side = 1
  · have k1 : (o.side == 1) = true := by simp [h1]
    have HC := Lib.hid h1
    clear h1
    by_cases h2 : low o.flags % 2 = 1
    · have k2 : (low o.flags % 2 == 1) = true := by rw [h2]; rfl
      have H2' := Lib.hid h2
      clear h2
      go_enter Try.func47, Try.ntmps47
      go_wp2
      go_ret
      refine ⟨ret_bool ?_, by (repeat (first | with_reducible exact Below.refl _ _ | (with_reducible assumption) | (with_reducible refine below_alloc ?_ _) | (with_reducible refine below_ext (w1 := ?_) ?_ ?_; rotate_left 2; (with_reducible assumption)) | (with_reducible refine Below.setCell ?_ ?_ _; rotate_left; ((try simp) <;> omega)) | (with_reducible refine Below.drew ?_) | (with_reducible refine below_drewN ?_ _) | fail))⟩
      have := HL.out
      have := H2'.out
      rw [coversF, HC.out, Bool.eq_iff_iff]
      simp
      omega
    · have k2 : (low o.flags % 2 == 1) = false := by rw [beq_eq_false_iff_ne]; omega
      have H2' := Lib.hid h2
      clear h2
      go_enter Try.func47, Try.ntmps47
      go_wp2
      go_ret
      refine ⟨ret_bool ?_, by (repeat (first | with_reducible exact Below.refl _ _ | (with_reducible assumption) | (with_reducible refine below_alloc ?_ _) | (with_reducible refine below_ext (w1 := ?_) ?_ ?_; rotate_left 2; (with_reducible assumption)) | (with_reducible refine Below.setCell ?_ ?_ _; rotate_left; ((try simp) <;> omega)) | (with_reducible refine Below.drew ?_) | (with_reducible refine below_drewN ?_ _) | fail))⟩
      have := H2'.out
      have h3 : ¬ low o.flags = 1 := by omega
      simp [coversF, h3]
  · have k1 : (o.side == 1) = false := by simp [h1]
    have HC := Lib.hid h1
    clear h1
    go_enter Try.func47, Try.ntmps47
    go_wp2
    go_ret
    exact ⟨ret_bool (by simp [coversF, HC.out]), by (repeat (first | with_reducible exact Below.refl _ _ | (with_reducible assumption) | (with_reducible refine below_alloc ?_ _) | (with_reducible refine below_ext (w1 := ?_) ?_ ?_; rotate_left 2; (with_reducible assumption)) | (with_reducible refine Below.setCell ?_ ?_ _; rotate_left; ((try simp) <;> omega)) | (with_reducible refine Below.drew ?_) | (with_reducible refine below_drewN ?_ _) | fail))⟩

def mayF (b : Bool) (s : Int) (o : Ord) : Bool := !b || !coversF o || decide (s < o.price)

theorem may_any (b : Bool) (s : Int) (o : Ord) (w : World) :
    Calls Try.prog 28 #[.agg #[.bool b, .int .i64 s], .agg o.arr] w fun e w' => e = .returned (.bool (mayF b s o)) ∧ Below w.heap.size w w' := by
  cases b
  · go_enter Try.func28, Try.ntmps28
    go_wp2_with fail
    go_ret
    exact ⟨rfl, by (repeat (first | with_reducible exact Below.refl _ _ | (with_reducible assumption) | (with_reducible refine below_alloc ?_ _) | (with_reducible refine below_ext (w1 := ?_) ?_ ?_; rotate_left 2; (with_reducible assumption)) | (with_reducible refine Below.setCell ?_ ?_ _; rotate_left; ((try simp) <;> omega)) | (with_reducible refine Below.drew ?_) | (with_reducible refine below_drewN ?_ _) | fail))⟩
  · cases hc : coversF o
    all_goals
      have HC := Lib.hid hc
      clear hc
      go_enter Try.func28, Try.ntmps28
      go_wp2_with (first | (refine wpList_load_blk (by rfl) 49 _ (by rfl) ?_ (.pointer (some ⟨_, 0, none⟩)) (by rfl) ?_ _ Try.underlying49 rfl ?_ ?_; rotate_left; (next => (repeat (first | (with_reducible refine BlkAt.new _ _ _ _ ?_; ((try simp) <;> omega)) | (with_reducible assumption) | (with_reducible refine Blk.at (t := ?_) ?_; rotate_left; with_reducible assumption) | with_reducible refine BlkAt.alloc ?_ _ | with_reducible refine BlkAt.drew ?_ | (with_reducible refine BlkAt.setSame ?_ _ _) | (with_reducible refine BlkAt.setCell ?_ ?_ _; rotate_left; ((try simp) <;> omega)) | (with_reducible refine BlkAt.ext (w := ?_) ?_ ?_; rotate_left 2; (with_reducible assumption)) | fail))); (next => kernel_rfl)) | (go_at_call 46; refine (covers_any _ _).mono ?_; rintro e w1 ⟨rfl, hb1⟩; (have hcb1 := fun (b o : Nat) (h : b < _) => hb1.cell (p := ⟨b, o, none⟩) h); rw [HC.out]) | fail)
      go_ret
      exact ⟨ret_bool (by simp [mayF, HC.out]), by (repeat (first | with_reducible exact Below.refl _ _ | (with_reducible assumption) | (with_reducible refine below_alloc ?_ _) | (with_reducible refine below_ext (w1 := ?_) ?_ ?_; rotate_left 2; (with_reducible assumption)) | (with_reducible refine Below.setCell ?_ ?_ _; rotate_left; ((try simp) <;> omega)) | (with_reducible refine Below.drew ?_) | (with_reducible refine below_drewN ?_ _) | fail))⟩

theorem rmay_any (b : Bool) (s : Int) (o : Ord) (w : World) :
    Calls Try.prog 48 #[.agg #[.bool b, .int .i64 s], .agg o.arr] w fun e w' => e = .returned (.bool (mayF b s o)) ∧ Below w.heap.size w w' := by
  cases b
  · go_enter Try.func48, Try.ntmps48
    go_wp2_with fail
    go_ret
    exact ⟨rfl, by (repeat (first | with_reducible exact Below.refl _ _ | (with_reducible assumption) | (with_reducible refine below_alloc ?_ _) | (with_reducible refine below_ext (w1 := ?_) ?_ ?_; rotate_left 2; (with_reducible assumption)) | (with_reducible refine Below.setCell ?_ ?_ _; rotate_left; ((try simp) <;> omega)) | (with_reducible refine Below.drew ?_) | (with_reducible refine below_drewN ?_ _) | fail))⟩
  · cases hc : coversF o
    all_goals
      have HC := Lib.hid hc
      clear hc
      go_enter Try.func48, Try.ntmps48
      go_wp2_with (first | (refine wpList_load_blk (by rfl) 49 _ (by rfl) ?_ (.pointer (some ⟨_, 0, none⟩)) (by rfl) ?_ _ Try.underlying49 rfl ?_ ?_; rotate_left; (next => (repeat (first | (with_reducible refine BlkAt.new _ _ _ _ ?_; ((try simp) <;> omega)) | (with_reducible assumption) | (with_reducible refine Blk.at (t := ?_) ?_; rotate_left; with_reducible assumption) | with_reducible refine BlkAt.alloc ?_ _ | with_reducible refine BlkAt.drew ?_ | (with_reducible refine BlkAt.setSame ?_ _ _) | (with_reducible refine BlkAt.setCell ?_ ?_ _; rotate_left; ((try simp) <;> omega)) | (with_reducible refine BlkAt.ext (w := ?_) ?_ ?_; rotate_left 2; (with_reducible assumption)) | fail))); (next => kernel_rfl)) | (go_at_call 47; refine (rcovers_any _ _).mono ?_; rintro e w1 ⟨rfl, hb1⟩; (have hcb1 := fun (b o : Nat) (h : b < _) => hb1.cell (p := ⟨b, o, none⟩) h); rw [HC.out]) | fail)
      go_ret
      exact ⟨ret_bool (by simp [mayF, HC.out]), by (repeat (first | with_reducible exact Below.refl _ _ | (with_reducible assumption) | (with_reducible refine below_alloc ?_ _) | (with_reducible refine below_ext (w1 := ?_) ?_ ?_; rotate_left 2; (with_reducible assumption)) | (with_reducible refine Below.setCell ?_ ?_ _; rotate_left; ((try simp) <;> omega)) | (with_reducible refine Below.drew ?_) | (with_reducible refine below_drewN ?_ _) | fail))⟩

theorem own_any (b : Bool) (s : Int) (w : World) :
    Calls Try.prog 26 #[.agg #[.bool b, .int .i64 s]] w fun e w' => e = .returned (.agg #[.bool b, .int .i64 s]) ∧ Below w.heap.size w w' := by
  go_enter Try.func26, Try.ntmps26
  go_wp2
  refine bodyPost_ret (v := .agg #[.bool b, .int .i64 s]) (by simp [results, Try.results26, go_sem]; try exact ⟨rfl, rfl⟩) rfl ⟨rfl, ?_⟩
  (repeat (first | with_reducible exact Below.refl _ _ | (with_reducible assumption) | (with_reducible refine below_alloc ?_ _) | (with_reducible refine below_ext (w1 := ?_) ?_ ?_; rotate_left 2; (with_reducible assumption)) | (with_reducible refine Below.setCell ?_ ?_ _; rotate_left; ((try simp) <;> omega)) | (with_reducible refine Below.drew ?_) | (with_reducible refine below_drewN ?_ _) | fail))

/-! ### Least -/
def leastF (b : Bool) (s g : Int) : Int × Bool :=
  if b = false ∨ s < 0 ∨ 1099511627776 ≤ s ∨ g < 1 ∨ 1099511627776 < g then (0, false)
  else if 1099511627776 < s - s % g + g then (0, false) else (s - s % g + g, true)

theorem up_least {s g : Int} (hs : 0 ≤ s) (hg : 1 ≤ g) : Fix.upF (s + 1) g = (s - s % g + g, true) := by
  have h1 := Int.emod_add_mul_ediv s g
  have h2 := Int.emod_nonneg s (show g ≠ 0 by omega)
  have h3 := Int.emod_lt_of_pos s (show 0 < g by omega)
  have h4 := Int.emod_add_mul_ediv (s + 1) g
  have h5 : (s + 1) / g * g = g * ((s + 1) / g) := Int.mul_comm ..
  have h6 : (s + 1) % g = (s % g + 1) % g := by
    have : s + 1 = (s % g + 1) + g * (s / g) := by omega
    rw [this, Int.add_mul_emod_self_left]
  unfold Fix.upF
  rw [if_neg (by omega)]
  by_cases h7 : s % g + 1 = g
  · have h8 : (s + 1) % g = 0 := by rw [h6, h7, Int.emod_self]
    rw [if_pos (by omega)]
    rw [show s + 1 = s - s % g + g by omega]
  · have h8 : (s + 1) % g = s % g + 1 := by rw [h6, Int.emod_eq_of_lt (by omega) (by omega)]
    rw [if_neg (by omega)]
    rw [show (s + 1) / g * g + g = s - s % g + g by omega]

theorem least_any (b : Bool) (s : Int) (y : Sym) (w : World) (hs : I64 s) (hg : I64 y.grid) :
    Calls Try.prog 25 #[.agg #[.bool b, .int .i64 s], .agg y.arr] w fun e w' => e = .returned (.tuple #[.int .i64 (leastF b s y.grid).1, .bool (leastF b s y.grid).2]) ∧ Below w.heap.size w w' := by
  have kg := hg
  obtain ⟨s1, s2⟩ := hs
  obtain ⟨g1, g2⟩ := hg
  by_cases hc : b = false ∨ s < 0 ∨ 1099511627776 < s ∨ 1099511627776 < y.grid
  · have HF : Hid (leastF b s y.grid = (0, false)) := by unfold leastF; rw [if_pos (by rcases hc with h | h; exact Or.inl h; exact Or.inr (by omega))]; rfl
    cases b
    · clear hc
      go_enter Try.func25, Try.ntmps25
      go_wp2_with fail
      go_ret2
      exact ⟨by rw [HF.out]; rfl, by (repeat (first | with_reducible exact Below.refl _ _ | (with_reducible assumption) | (with_reducible refine below_alloc ?_ _) | (with_reducible refine below_ext (w1 := ?_) ?_ ?_; rotate_left 2; (with_reducible assumption)) | (with_reducible refine Below.setCell ?_ ?_ _; rotate_left; ((try simp) <;> omega)) | (with_reducible refine Below.drew ?_) | (with_reducible refine below_drewN ?_ _) | fail))⟩
    · have hc' : s < 0 ∨ 1099511627776 < s ∨ 1099511627776 < y.grid := by simpa using hc
      clear hc
      by_cases h1 : s < 0
      · clear hc'
        go_enter Try.func25, Try.ntmps25
        go_wp2_with fail
        go_ret2
        exact ⟨by rw [HF.out]; rfl, by (repeat (first | with_reducible exact Below.refl _ _ | (with_reducible assumption) | (with_reducible refine below_alloc ?_ _) | (with_reducible refine below_ext (w1 := ?_) ?_ ?_; rotate_left 2; (with_reducible assumption)) | (with_reducible refine Below.setCell ?_ ?_ _; rotate_left; ((try simp) <;> omega)) | (with_reducible refine Below.drew ?_) | (with_reducible refine below_drewN ?_ _) | fail))⟩
      · by_cases h2 : 1099511627776 < s
        · clear hc'
          go_enter Try.func25, Try.ntmps25
          go_wp2_with fail
          go_ret2
          exact ⟨by rw [HF.out]; rfl, by (repeat (first | with_reducible exact Below.refl _ _ | (with_reducible assumption) | (with_reducible refine below_alloc ?_ _) | (with_reducible refine below_ext (w1 := ?_) ?_ ?_; rotate_left 2; (with_reducible assumption)) | (with_reducible refine Below.setCell ?_ ?_ _; rotate_left; ((try simp) <;> omega)) | (with_reducible refine Below.drew ?_) | (with_reducible refine below_drewN ?_ _) | fail))⟩
        · have h3 : 1099511627776 < y.grid := by omega
          clear hc'
          go_enter Try.func25, Try.ntmps25
          go_wp2_with fail
          go_ret2
          exact ⟨by rw [HF.out]; rfl, by (repeat (first | with_reducible exact Below.refl _ _ | (with_reducible assumption) | (with_reducible refine below_alloc ?_ _) | (with_reducible refine below_ext (w1 := ?_) ?_ ?_; rotate_left 2; (with_reducible assumption)) | (with_reducible refine Below.setCell ?_ ?_ _; rotate_left; ((try simp) <;> omega)) | (with_reducible refine Below.drew ?_) | (with_reducible refine below_drewN ?_ _) | fail))⟩
  · have hb : b = true := by cases b <;> simp_all
    subst hb
    have h1 : ¬ s < 0 := fun h => hc (by simp [h])
    have h2 : ¬ 1099511627776 < s := fun h => hc (by simp [h])
    have h3 : ¬ 1099511627776 < y.grid := fun h => hc (by simp [h])
    clear hc
    by_cases h4 : y.grid < 1
    · have HF : Hid (leastF true s y.grid = (0, false)) := by unfold leastF; rw [if_pos (by omega)]; rfl
      have HU : Hid (Fix.upF (s + 1) y.grid = (0, false)) := by unfold Fix.upF; rw [if_pos (by omega)]; rfl
      go_enter Try.func25, Try.ntmps25
      go_wp2_with (first | go_at_call 58; refine (Fix.up_any _ _ _ ⟨by omega, by omega⟩ kg (by omega)).mono ?_; rintro e w' ⟨rfl, rfl⟩; rw [HU.out] | fail)
      go_ret2
      exact ⟨by rw [HF.out]; rfl, by (repeat (first | with_reducible exact Below.refl _ _ | (with_reducible assumption) | (with_reducible refine below_alloc ?_ _) | (with_reducible refine below_ext (w1 := ?_) ?_ ?_; rotate_left 2; (with_reducible assumption)) | (with_reducible refine Below.setCell ?_ ?_ _; rotate_left; ((try simp) <;> omega)) | (with_reducible refine Below.drew ?_) | (with_reducible refine below_drewN ?_ _) | fail))⟩
    · have HU : Hid (Fix.upF (s + 1) y.grid = (s - s % y.grid + y.grid, true)) := up_least (by omega) (by omega)
      have q1 := Int.emod_nonneg s (show y.grid ≠ 0 by omega)
      have q2 := Int.emod_lt_of_pos s (show 0 < y.grid by omega)
      by_cases h5 : 1099511627776 < s - s % y.grid + y.grid
      · have HF : Hid (leastF true s y.grid = (0, false)) := by
          unfold leastF
          by_cases h6 : 1099511627776 ≤ s
          · rw [if_pos (by omega)]; rfl
          · rw [if_neg (by simp; omega), if_pos h5]; rfl
        go_enter Try.func25, Try.ntmps25
        go_wp2_with (first | go_at_call 58; refine (Fix.up_any _ _ _ ⟨by omega, by omega⟩ kg (by omega)).mono ?_; rintro e w' ⟨rfl, rfl⟩; rw [HU.out] | fail)
        go_ret2
        exact ⟨by rw [HF.out]; rfl, by (repeat (first | with_reducible exact Below.refl _ _ | (with_reducible assumption) | (with_reducible refine below_alloc ?_ _) | (with_reducible refine below_ext (w1 := ?_) ?_ ?_; rotate_left 2; (with_reducible assumption)) | (with_reducible refine Below.setCell ?_ ?_ _; rotate_left; ((try simp) <;> omega)) | (with_reducible refine Below.drew ?_) | (with_reducible refine below_drewN ?_ _) | fail))⟩
      · have HF : Hid (leastF true s y.grid = (s - s % y.grid + y.grid, true)) := by unfold leastF; rw [if_neg (by simp; omega), if_neg h5]; rfl
        go_enter Try.func25, Try.ntmps25
        go_wp2_with (first | go_at_call 58; refine (Fix.up_any _ _ _ ⟨by omega, by omega⟩ kg (by omega)).mono ?_; rintro e w' ⟨rfl, rfl⟩; rw [HU.out] | fail)
        go_ret2
        exact ⟨by rw [HF.out]; rfl, by (repeat (first | with_reducible exact Below.refl _ _ | (with_reducible assumption) | (with_reducible refine below_alloc ?_ _) | (with_reducible refine below_ext (w1 := ?_) ?_ ?_; rotate_left 2; (with_reducible assumption)) | (with_reducible refine Below.setCell ?_ ?_ _; rotate_left; ((try simp) <;> omega)) | (with_reducible refine Below.drew ?_) | (with_reducible refine below_drewN ?_ _) | fail))⟩

theorem alive_any (w : World) : Calls Try.prog 27 #[] w fun e w' => e = .returned (.bool true) ∧ Below w.heap.size w w' := by
  go_enter Try.func27, Try.ntmps27
  go_wp2_with (first | (refine wpList_load_blk (by rfl) 49 _ (by rfl) ?_ (.pointer (some ⟨_, 0, none⟩)) (by rfl) ?_ _ Try.underlying49 rfl ?_ ?_; rotate_left; (next => (repeat (first | (with_reducible refine BlkAt.new _ _ _ _ ?_; ((try simp) <;> omega)) | (with_reducible assumption) | (with_reducible refine Blk.at (t := ?_) ?_; rotate_left; with_reducible assumption) | with_reducible refine BlkAt.alloc ?_ _ | with_reducible refine BlkAt.drew ?_ | (with_reducible refine BlkAt.setSame ?_ _ _) | (with_reducible refine BlkAt.setCell ?_ ?_ _; rotate_left; ((try simp) <;> omega)) | (with_reducible refine BlkAt.ext (w := ?_) ?_ ?_; rotate_left 2; (with_reducible assumption)) | fail))); (next => kernel_rfl)) | (refine wpList_load_blk (by rfl) 46 _ (by rfl) ?_ (.pointer (some ⟨_, 0, none⟩)) (by rfl) ?_ _ Try.underlying46 rfl ?_ ?_; rotate_left; (next => (repeat (first | (with_reducible refine BlkAt.new _ _ _ _ ?_; ((try simp) <;> omega)) | (with_reducible assumption) | (with_reducible refine Blk.at (t := ?_) ?_; rotate_left; with_reducible assumption) | with_reducible refine BlkAt.alloc ?_ _ | with_reducible refine BlkAt.drew ?_ | (with_reducible refine BlkAt.setSame ?_ _ _) | (with_reducible refine BlkAt.setCell ?_ ?_ _; rotate_left; ((try simp) <;> omega)) | (with_reducible refine BlkAt.ext (w := ?_) ?_ ?_; rotate_left 2; (with_reducible assumption)) | fail))); (next => kernel_rfl)) | fail)
  refine (may_any true 100 ⟨0, 0, 1, 100, 0, 1, 0⟩ _).mono ?_
  rintro e w1 ⟨he, hb1⟩
  have he' : e = .returned (.bool false) := he.trans (ret_bool (by decide +kernel))
  clear he
  subst he'
  (have hcb1 := fun (b o : Nat) (h : b < _) => hb1.cell (p := ⟨b, o, none⟩) h); (have hfb1 := fun (b o : Nat) (h : b < _) => hb1.frozen (p := ⟨b, o, none⟩) h)
  go_wp2_with (first | (refine wpList_load_blk (by rfl) 49 _ (by rfl) ?_ (.pointer (some ⟨_, 0, none⟩)) (by rfl) ?_ _ Try.underlying49 rfl ?_ ?_; rotate_left; (next => (repeat (first | (with_reducible refine BlkAt.new _ _ _ _ ?_; ((try simp) <;> omega)) | (with_reducible assumption) | (with_reducible refine Blk.at (t := ?_) ?_; rotate_left; with_reducible assumption) | with_reducible refine BlkAt.alloc ?_ _ | with_reducible refine BlkAt.drew ?_ | (with_reducible refine BlkAt.setSame ?_ _ _) | (with_reducible refine BlkAt.setCell ?_ ?_ _; rotate_left; ((try simp) <;> omega)) | (with_reducible refine BlkAt.ext (w := ?_) ?_ ?_; rotate_left 2; (with_reducible assumption)) | fail))); (next => kernel_rfl)) | (refine wpList_load_blk (by rfl) 46 _ (by rfl) ?_ (.pointer (some ⟨_, 0, none⟩)) (by rfl) ?_ _ Try.underlying46 rfl ?_ ?_; rotate_left; (next => (repeat (first | (with_reducible refine BlkAt.new _ _ _ _ ?_; ((try simp) <;> omega)) | (with_reducible assumption) | (with_reducible refine Blk.at (t := ?_) ?_; rotate_left; with_reducible assumption) | with_reducible refine BlkAt.alloc ?_ _ | with_reducible refine BlkAt.drew ?_ | (with_reducible refine BlkAt.setSame ?_ _ _) | (with_reducible refine BlkAt.setCell ?_ ?_ _; rotate_left; ((try simp) <;> omega)) | (with_reducible refine BlkAt.ext (w := ?_) ?_ ?_; rotate_left 2; (with_reducible assumption)) | fail))); (next => kernel_rfl)) | fail)
  refine (may_any true 100 ⟨0, 0, 1, 101, 0, 1, 0⟩ _).mono ?_
  rintro e w2 ⟨he, hb2⟩
  have he' : e = .returned (.bool true) := he.trans (ret_bool (by decide +kernel))
  clear he
  subst he'
  have hO := (BlkAt.setSame (BlkAt.ext (BlkAt.new _ _ _ _ (by simp)) hb1) 3 (.int .i64 101)).ext hb2
  go_wp2_with (first | (refine wpList_load_blk (by rfl) 49 _ (by rfl) ?_ (.pointer (some ⟨_, 0, none⟩)) (by rfl) ?_ _ Try.underlying49 rfl ?_ ?_; rotate_left; (next => (repeat (first | (with_reducible refine BlkAt.new _ _ _ _ ?_; ((try simp) <;> omega)) | (with_reducible assumption) | (with_reducible refine Blk.at (t := ?_) ?_; rotate_left; with_reducible assumption) | with_reducible refine BlkAt.alloc ?_ _ | with_reducible refine BlkAt.drew ?_ | (with_reducible refine BlkAt.setSame ?_ _ _) | (with_reducible refine BlkAt.setCell ?_ ?_ _; rotate_left; ((try simp) <;> omega)) | (with_reducible refine BlkAt.ext (w := ?_) ?_ ?_; rotate_left 2; (with_reducible assumption)) | fail))); (next => kernel_rfl)) | (refine wpList_load_blk (by rfl) 46 _ (by rfl) ?_ (.pointer (some ⟨_, 0, none⟩)) (by rfl) ?_ _ Try.underlying46 rfl ?_ ?_; rotate_left; (next => (repeat (first | (with_reducible refine BlkAt.new _ _ _ _ ?_; ((try simp) <;> omega)) | (with_reducible assumption) | (with_reducible refine Blk.at (t := ?_) ?_; rotate_left; with_reducible assumption) | with_reducible refine BlkAt.alloc ?_ _ | with_reducible refine BlkAt.drew ?_ | (with_reducible refine BlkAt.setSame ?_ _ _) | (with_reducible refine BlkAt.setCell ?_ ?_ _; rotate_left; ((try simp) <;> omega)) | (with_reducible refine BlkAt.ext (w := ?_) ?_ ?_; rotate_left 2; (with_reducible assumption)) | fail))); (next => kernel_rfl)) | fail)
  refine (covers_any ⟨0, 0, 1, 101, 0, 1, 0⟩ _).mono ?_
  rintro e w3 ⟨he, hb3⟩
  have he' : e = .returned (.bool true) := he.trans (ret_bool (by decide +kernel))
  clear he
  subst he'
  go_wp2_with fail
  go_ret
  exact ⟨rfl, by (repeat (first | with_reducible exact Below.refl _ _ | (with_reducible assumption) | (with_reducible refine below_alloc ?_ _) | (with_reducible refine below_ext (w1 := ?_) ?_ ?_; rotate_left 2; (with_reducible assumption)) | (with_reducible refine Below.setCell ?_ ?_ _; rotate_left; ((try simp) <;> omega)) | (with_reducible refine Below.drew ?_) | (with_reducible refine below_drewN ?_ _) | fail))⟩

theorem rleast_any (b : Bool) (s : Int) (y : Sym) (w : World) (hs : I64 s) (hg : I64 y.grid) :
    Calls Try.prog 43 #[.agg #[.bool b, .int .i64 s], .agg y.arr] w fun e w' => e = .returned (.tuple #[.int .i64 (leastF b s y.grid).1, .bool (leastF b s y.grid).2]) ∧ Below w.heap.size w w' := by
  obtain ⟨s1, s2⟩ := hs
  obtain ⟨g1, g2⟩ := hg
  by_cases hc : b = false ∨ s < 0 ∨ 1099511627776 ≤ s ∨ y.grid < 1 ∨ 1099511627776 < y.grid
  · have HF : Hid (leastF b s y.grid = (0, false)) := by unfold leastF; rw [if_pos hc]; rfl
    cases b
    · clear hc
      go_enter Try.func43, Try.ntmps43
      go_wp2_with fail
      go_ret2
      exact ⟨by rw [HF.out]; rfl, by (repeat (first | with_reducible exact Below.refl _ _ | (with_reducible assumption) | (with_reducible refine below_alloc ?_ _) | (with_reducible refine below_ext (w1 := ?_) ?_ ?_; rotate_left 2; (with_reducible assumption)) | (with_reducible refine Below.setCell ?_ ?_ _; rotate_left; ((try simp) <;> omega)) | (with_reducible refine Below.drew ?_) | (with_reducible refine below_drewN ?_ _) | fail))⟩
    · have hc' : s < 0 ∨ 1099511627776 ≤ s ∨ y.grid < 1 ∨ 1099511627776 < y.grid := by simpa using hc
      clear hc
      by_cases h1 : s < 0
      · clear hc'
        go_enter Try.func43, Try.ntmps43
        go_wp2_with fail
        go_ret2
        exact ⟨by rw [HF.out]; rfl, by (repeat (first | with_reducible exact Below.refl _ _ | (with_reducible assumption) | (with_reducible refine below_alloc ?_ _) | (with_reducible refine below_ext (w1 := ?_) ?_ ?_; rotate_left 2; (with_reducible assumption)) | (with_reducible refine Below.setCell ?_ ?_ _; rotate_left; ((try simp) <;> omega)) | (with_reducible refine Below.drew ?_) | (with_reducible refine below_drewN ?_ _) | fail))⟩
      · by_cases h2 : 1099511627776 ≤ s
        · clear hc'
          go_enter Try.func43, Try.ntmps43
          go_wp2_with fail
          go_ret2
          exact ⟨by rw [HF.out]; rfl, by (repeat (first | with_reducible exact Below.refl _ _ | (with_reducible assumption) | (with_reducible refine below_alloc ?_ _) | (with_reducible refine below_ext (w1 := ?_) ?_ ?_; rotate_left 2; (with_reducible assumption)) | (with_reducible refine Below.setCell ?_ ?_ _; rotate_left; ((try simp) <;> omega)) | (with_reducible refine Below.drew ?_) | (with_reducible refine below_drewN ?_ _) | fail))⟩
        · by_cases h3 : y.grid < 1
          · clear hc'
            go_enter Try.func43, Try.ntmps43
            go_wp2_with fail
            go_ret2
            exact ⟨by rw [HF.out]; rfl, by (repeat (first | with_reducible exact Below.refl _ _ | (with_reducible assumption) | (with_reducible refine below_alloc ?_ _) | (with_reducible refine below_ext (w1 := ?_) ?_ ?_; rotate_left 2; (with_reducible assumption)) | (with_reducible refine Below.setCell ?_ ?_ _; rotate_left; ((try simp) <;> omega)) | (with_reducible refine Below.drew ?_) | (with_reducible refine below_drewN ?_ _) | fail))⟩
          · have h4 : 1099511627776 < y.grid := by omega
            clear hc'
            go_enter Try.func43, Try.ntmps43
            go_wp2_with fail
            go_ret2
            exact ⟨by rw [HF.out]; rfl, by (repeat (first | with_reducible exact Below.refl _ _ | (with_reducible assumption) | (with_reducible refine below_alloc ?_ _) | (with_reducible refine below_ext (w1 := ?_) ?_ ?_; rotate_left 2; (with_reducible assumption)) | (with_reducible refine Below.setCell ?_ ?_ _; rotate_left; ((try simp) <;> omega)) | (with_reducible refine Below.drew ?_) | (with_reducible refine below_drewN ?_ _) | fail))⟩
  · have hb : b = true := by cases b <;> simp_all
    subst hb
    have h1 : ¬ s < 0 := fun h => hc (by simp [h])
    have h2 : ¬ 1099511627776 ≤ s := fun h => hc (by simp [h])
    have h3 : ¬ y.grid < 1 := fun h => hc (by simp [h])
    have h4 : ¬ 1099511627776 < y.grid := fun h => hc (by simp [h])
    clear hc
    have q1 := Int.emod_nonneg s (show y.grid ≠ 0 by omega)
    have q2 := Int.emod_lt_of_pos s (show 0 < y.grid by omega)
    have hne : (y.grid == 0) = false := by rw [beq_eq_false_iff_ne]; omega
    by_cases h5 : 1099511627776 < s - s % y.grid + y.grid
    · have HF : Hid (leastF true s y.grid = (0, false)) := by unfold leastF; rw [if_neg (by simp; omega), if_pos h5]; rfl
      go_enter Try.func43, Try.ntmps43
      go_wp2_with fail
      go_quiet (fail)
      go_wp2_with fail
      go_ret2
      exact ⟨by rw [HF.out]; rfl, by (repeat (first | with_reducible exact Below.refl _ _ | (with_reducible assumption) | (with_reducible refine below_alloc ?_ _) | (with_reducible refine below_ext (w1 := ?_) ?_ ?_; rotate_left 2; (with_reducible assumption)) | (with_reducible refine Below.setCell ?_ ?_ _; rotate_left; ((try simp) <;> omega)) | (with_reducible refine Below.drew ?_) | (with_reducible refine below_drewN ?_ _) | fail))⟩
    · have HF : Hid (leastF true s y.grid = (s - s % y.grid + y.grid, true)) := by unfold leastF; rw [if_neg (by simp; omega), if_neg h5]; rfl
      go_enter Try.func43, Try.ntmps43
      go_wp2_with fail
      go_quiet (fail)
      go_wp2_with fail
      go_ret2
      exact ⟨by rw [HF.out]; rfl, by (repeat (first | with_reducible exact Below.refl _ _ | (with_reducible assumption) | (with_reducible refine below_alloc ?_ _) | (with_reducible refine below_ext (w1 := ?_) ?_ ?_; rotate_left 2; (with_reducible assumption)) | (with_reducible refine Below.setCell ?_ ?_ _; rotate_left; ((try simp) <;> omega)) | (with_reducible refine Below.drew ?_) | (with_reducible refine below_drewN ?_ _) | fail))⟩

/-! ### Trips -/
def pricedF (p : Int) : Bool := decide (1 ≤ p) && decide (p ≤ 1099511627776)

theorem priced_any (p : Int) (w : World) :
    Calls Try.prog 69 #[.int .i64 p] w fun e w' => e = .returned (.bool (pricedF p)) ∧ w = w' := by
  by_cases h : 1 ≤ p
  all_goals
    go_enter Try.func69, Try.ntmps69
    go_wp2
    go_ret
    exact ⟨ret_bool (by simp [pricedF]; try omega), rfl⟩

def priceF (p : Int) : Int := if pricedF p then 0 else 9
theorem price_any (p : Int) (w : World) (hp : I64 p) :
    Calls Try.prog 68 #[.int .i64 p, .int .i64 1] w fun e w' => e = .returned (.int .i64 (priceF p)) ∧ w = w' := by
  have kp := hp
  obtain ⟨p1, p2⟩ := hp
  by_cases h1 : p < 1
  · have HF : Hid (priceF p = 9) := by
      have : pricedF p = false := by simp [pricedF]; omega
      show priceF p = 9
      simp [priceF, this]
    go_enter Try.func68, Try.ntmps68
    go_wp2_with fail
    go_ret
    exact ⟨by rw [HF.out]; rfl, rfl⟩
  · by_cases h2 : 1099511627776 < p
    · have HF : Hid (priceF p = 9) := by
        have : pricedF p = false := by simp [pricedF]; omega
        show priceF p = 9
        simp [priceF, this]
      go_enter Try.func68, Try.ntmps68
      go_wp2_with fail
      go_ret
      exact ⟨by rw [HF.out]; rfl, rfl⟩
    · have HF : Hid (priceF p = 0) := by
        have : pricedF p = true := by simp [pricedF]; omega
        show priceF p = 0
        simp [priceF, this]
      have HD : Hid (Fix.downF p 1 = p) := by show Fix.downF p 1 = p; unfold Fix.downF; rw [if_neg (by omega)]; simp
      go_enter Try.func68, Try.ntmps68
      go_wp2_with (first | go_at_call 72; refine (Fix.down_any _ _ _ kp ⟨by decide, by decide⟩).mono ?_; rintro e w' ⟨rfl, rfl⟩; rw [HD.out] | fail)
      go_ret
      exact ⟨by rw [HF.out]; rfl, rfl⟩

theorem trips1_any (p : Int) (w : World) (hp : I64 p) :
    Calls Try.prog 67 #[.int .i64 p] w fun e w' => e = .returned (.bool (pricedF p)) ∧ w = w' := by
  cases hf : pricedF p
  · have HP : Hid (priceF p = 9) := by show priceF p = 9; simp [priceF, hf]
    have HF := Lib.hid hf
    clear hf
    go_enter Try.func67, Try.ntmps67
    go_wp2_with (first | go_at_call 68; refine (price_any _ _ hp).mono ?_; rintro e w' ⟨rfl, rfl⟩; rw [HP.out] | fail)
    go_ret
    exact ⟨rfl, rfl⟩
  · have HP : Hid (priceF p = 0) := by show priceF p = 0; simp [priceF, hf]
    have HF := Lib.hid hf
    clear hf
    go_enter Try.func67, Try.ntmps67
    go_wp2_with (first | go_at_call 68; refine (price_any _ _ hp).mono ?_; rintro e w' ⟨rfl, rfl⟩; rw [HP.out] | fail)
    go_ret
    exact ⟨rfl, rfl⟩

def tripsF (s f p : Int) : Bool := decide (1 ≤ s) && decide (s ≤ 9999) && pricedF f && pricedF p && decide (p * 10000 ≤ f * (10000 - s))

theorem mul_small {f s : Int} (h1 : 1 ≤ f) (h2 : f ≤ 1099511627776) (h3 : 1 ≤ s) (h4 : s ≤ 9999) : 0 ≤ f * (10000 - s) ∧ f * (10000 - s) ≤ 10995116277760000 := by
  constructor
  · exact Int.mul_nonneg (by omega) (by omega)
  · have := Int.mul_le_mul (a := f) (b := 10000 - s) (c := 1099511627776) (d := 10000) h2 (by omega) (by omega) (by omega)
    omega

theorem trips_any (y : Sym) (f p : Int) (w : World) (hf : I64 f) (hp : I64 p) :
    Calls Try.prog 44 #[.agg y.arr, .int .i64 f, .int .i64 p] w fun e w' => e = .returned (.bool (tripsF y.short f p)) ∧ Below w.heap.size w w' := by
  by_cases h1 : y.short < 1
  · have HF : Hid (tripsF y.short f p = false) := by show tripsF y.short f p = false; simp [tripsF]; omega
    go_enter Try.func44, Try.ntmps44
    go_wp2_with fail
    go_ret
    exact ⟨by rw [HF.out]; rfl, by (repeat (first | with_reducible exact Below.refl _ _ | (with_reducible assumption) | (with_reducible refine below_alloc ?_ _) | (with_reducible refine below_ext (w1 := ?_) ?_ ?_; rotate_left 2; (with_reducible assumption)) | (with_reducible refine Below.setCell ?_ ?_ _; rotate_left; ((try simp) <;> omega)) | (with_reducible refine Below.drew ?_) | (with_reducible refine below_drewN ?_ _) | fail))⟩
  by_cases h2 : 10000 ≤ y.short
  · have HF : Hid (tripsF y.short f p = false) := by show tripsF y.short f p = false; simp [tripsF]; omega
    go_enter Try.func44, Try.ntmps44
    go_wp2_with fail
    go_ret
    exact ⟨by rw [HF.out]; rfl, by (repeat (first | with_reducible exact Below.refl _ _ | (with_reducible assumption) | (with_reducible refine below_alloc ?_ _) | (with_reducible refine below_ext (w1 := ?_) ?_ ?_; rotate_left 2; (with_reducible assumption)) | (with_reducible refine Below.setCell ?_ ?_ _; rotate_left; ((try simp) <;> omega)) | (with_reducible refine Below.drew ?_) | (with_reducible refine below_drewN ?_ _) | fail))⟩
  cases h3 : pricedF f
  · have HF : Hid (tripsF y.short f p = false) := by show tripsF y.short f p = false; simp [tripsF, h3]
    have H3 := Lib.hid h3
    clear h3
    go_enter Try.func44, Try.ntmps44
    go_wp2_with (first | go_at_call 67; refine (trips1_any _ _ hf).mono ?_; rintro e w' ⟨rfl, rfl⟩; rw [H3.out] | fail)
    go_ret
    exact ⟨by rw [HF.out]; rfl, by (repeat (first | with_reducible exact Below.refl _ _ | (with_reducible assumption) | (with_reducible refine below_alloc ?_ _) | (with_reducible refine below_ext (w1 := ?_) ?_ ?_; rotate_left 2; (with_reducible assumption)) | (with_reducible refine Below.setCell ?_ ?_ _; rotate_left; ((try simp) <;> omega)) | (with_reducible refine Below.drew ?_) | (with_reducible refine below_drewN ?_ _) | fail))⟩
  have H3 := Lib.hid h3
  clear h3
  cases h4 : pricedF p
  · have HF : Hid (tripsF y.short f p = false) := by show tripsF y.short f p = false; simp [tripsF, h4]
    have H4 := Lib.hid h4
    clear h4
    go_enter Try.func44, Try.ntmps44
    go_wp2_with (first | (go_at_call_of 67 (Value.int IntKind.i64 f); refine (trips1_any _ _ hf).mono ?_; rintro e w' ⟨rfl, rfl⟩; rw [H3.out]) | (go_at_call_of 67 (Value.int IntKind.i64 p); refine (trips1_any _ _ hp).mono ?_; rintro e w' ⟨rfl, rfl⟩; rw [H4.out]) | fail)
    go_ret
    exact ⟨by rw [HF.out]; rfl, by (repeat (first | with_reducible exact Below.refl _ _ | (with_reducible assumption) | (with_reducible refine below_alloc ?_ _) | (with_reducible refine below_ext (w1 := ?_) ?_ ?_; rotate_left 2; (with_reducible assumption)) | (with_reducible refine Below.setCell ?_ ?_ _; rotate_left; ((try simp) <;> omega)) | (with_reducible refine Below.drew ?_) | (with_reducible refine below_drewN ?_ _) | fail))⟩
  · have HF : Hid (tripsF y.short f p = decide (p * 10000 ≤ f * (10000 - y.short))) := by
      show tripsF y.short f p = decide (p * 10000 ≤ f * (10000 - y.short))
      have a1 : decide (1 ≤ y.short) = true := by simp; omega
      have a2 : decide (y.short ≤ 9999) = true := by simp; omega
      simp only [tripsF, a1, a2, H3.out, h4, Bool.true_and]
    have hf1 : 1 ≤ f ∧ f ≤ 1099511627776 := by have := H3.out; simpa [pricedF] using this
    have hp1 : 1 ≤ p ∧ p ≤ 1099511627776 := by simpa [pricedF] using h4
    have H4 := Lib.hid h4
    clear h4
    obtain ⟨f1, f2⟩ := hf1
    obtain ⟨p1, p2⟩ := hp1
    obtain ⟨m1, m2⟩ := mul_small (f := f) (s := y.short) f1 f2 (by omega) (by omega)
    go_enter Try.func44, Try.ntmps44
    go_wp2_with (first | (go_at_call_of 67 (Value.int IntKind.i64 f); refine (trips1_any _ _ hf).mono ?_; rintro e w' ⟨rfl, rfl⟩; rw [H3.out]) | (go_at_call_of 67 (Value.int IntKind.i64 p); refine (trips1_any _ _ hp).mono ?_; rintro e w' ⟨rfl, rfl⟩; rw [H4.out]) | fail)
    go_ret
    exact ⟨by rw [HF.out]; rfl, by (repeat (first | with_reducible exact Below.refl _ _ | (with_reducible assumption) | (with_reducible refine below_alloc ?_ _) | (with_reducible refine below_ext (w1 := ?_) ?_ ?_; rotate_left 2; (with_reducible assumption)) | (with_reducible refine Below.setCell ?_ ?_ _; rotate_left; ((try simp) <;> omega)) | (with_reducible refine Below.drew ?_) | (with_reducible refine below_drewN ?_ _) | fail))⟩

theorem rtrips_any (y : Sym) (f p : Int) (w : World) :
    Calls Try.prog 45 #[.agg y.arr, .int .i64 f, .int .i64 p] w fun e w' => e = .returned (.bool (tripsF y.short f p)) ∧ Below w.heap.size w w' := by
  by_cases h1 : y.short < 1
  · have HF : Hid (tripsF y.short f p = false) := by show tripsF y.short f p = false; simp [tripsF]; omega
    go_enter Try.func45, Try.ntmps45
    go_wp2_with fail
    go_ret
    exact ⟨by rw [HF.out]; rfl, by (repeat (first | with_reducible exact Below.refl _ _ | (with_reducible assumption) | (with_reducible refine below_alloc ?_ _) | (with_reducible refine below_ext (w1 := ?_) ?_ ?_; rotate_left 2; (with_reducible assumption)) | (with_reducible refine Below.setCell ?_ ?_ _; rotate_left; ((try simp) <;> omega)) | (with_reducible refine Below.drew ?_) | (with_reducible refine below_drewN ?_ _) | fail))⟩
  by_cases h2 : 10000 ≤ y.short
  · have HF : Hid (tripsF y.short f p = false) := by show tripsF y.short f p = false; simp [tripsF]; omega
    go_enter Try.func45, Try.ntmps45
    go_wp2_with fail
    go_ret
    exact ⟨by rw [HF.out]; rfl, by (repeat (first | with_reducible exact Below.refl _ _ | (with_reducible assumption) | (with_reducible refine below_alloc ?_ _) | (with_reducible refine below_ext (w1 := ?_) ?_ ?_; rotate_left 2; (with_reducible assumption)) | (with_reducible refine Below.setCell ?_ ?_ _; rotate_left; ((try simp) <;> omega)) | (with_reducible refine Below.drew ?_) | (with_reducible refine below_drewN ?_ _) | fail))⟩
  cases h3 : pricedF f
  · have HF : Hid (tripsF y.short f p = false) := by show tripsF y.short f p = false; simp [tripsF, h3]
    have H3 := Lib.hid h3
    clear h3
    go_enter Try.func45, Try.ntmps45
    go_wp2_with (first | go_at_call 69; refine (priced_any _ _).mono ?_; rintro e w' ⟨rfl, rfl⟩; rw [H3.out] | fail)
    go_ret
    exact ⟨by rw [HF.out]; rfl, by (repeat (first | with_reducible exact Below.refl _ _ | (with_reducible assumption) | (with_reducible refine below_alloc ?_ _) | (with_reducible refine below_ext (w1 := ?_) ?_ ?_; rotate_left 2; (with_reducible assumption)) | (with_reducible refine Below.setCell ?_ ?_ _; rotate_left; ((try simp) <;> omega)) | (with_reducible refine Below.drew ?_) | (with_reducible refine below_drewN ?_ _) | fail))⟩
  have H3 := Lib.hid h3
  clear h3
  cases h4 : pricedF p
  · have HF : Hid (tripsF y.short f p = false) := by show tripsF y.short f p = false; simp [tripsF, h4]
    have H4 := Lib.hid h4
    clear h4
    go_enter Try.func45, Try.ntmps45
    go_wp2_with (first | (go_at_call_of 69 (Value.int IntKind.i64 f); refine (priced_any _ _).mono ?_; rintro e w' ⟨rfl, rfl⟩; rw [H3.out]) | (go_at_call_of 69 (Value.int IntKind.i64 p); refine (priced_any _ _).mono ?_; rintro e w' ⟨rfl, rfl⟩; rw [H4.out]) | fail)
    go_ret
    exact ⟨by rw [HF.out]; rfl, by (repeat (first | with_reducible exact Below.refl _ _ | (with_reducible assumption) | (with_reducible refine below_alloc ?_ _) | (with_reducible refine below_ext (w1 := ?_) ?_ ?_; rotate_left 2; (with_reducible assumption)) | (with_reducible refine Below.setCell ?_ ?_ _; rotate_left; ((try simp) <;> omega)) | (with_reducible refine Below.drew ?_) | (with_reducible refine below_drewN ?_ _) | fail))⟩
  · have HF : Hid (tripsF y.short f p = decide (p * 10000 ≤ f * (10000 - y.short))) := by
      show tripsF y.short f p = decide (p * 10000 ≤ f * (10000 - y.short))
      have a1 : decide (1 ≤ y.short) = true := by simp; omega
      have a2 : decide (y.short ≤ 9999) = true := by simp; omega
      simp only [tripsF, a1, a2, H3.out, h4, Bool.true_and]
    have hf1 : 1 ≤ f ∧ f ≤ 1099511627776 := by have := H3.out; simpa [pricedF] using this
    have hp1 : 1 ≤ p ∧ p ≤ 1099511627776 := by simpa [pricedF] using h4
    have H4 := Lib.hid h4
    clear h4
    obtain ⟨f1, f2⟩ := hf1
    obtain ⟨p1, p2⟩ := hp1
    obtain ⟨m1, m2⟩ := mul_small (f := f) (s := y.short) f1 f2 (by omega) (by omega)
    go_enter Try.func45, Try.ntmps45
    go_wp2_with (first | (go_at_call_of 69 (Value.int IntKind.i64 f); refine (priced_any _ _).mono ?_; rintro e w' ⟨rfl, rfl⟩; rw [H3.out]) | (go_at_call_of 69 (Value.int IntKind.i64 p); refine (priced_any _ _).mono ?_; rintro e w' ⟨rfl, rfl⟩; rw [H4.out]) | fail)
    go_ret
    exact ⟨by rw [HF.out]; rfl, by (repeat (first | with_reducible exact Below.refl _ _ | (with_reducible assumption) | (with_reducible refine below_alloc ?_ _) | (with_reducible refine below_ext (w1 := ?_) ?_ ?_; rotate_left 2; (with_reducible assumption)) | (with_reducible refine Below.setCell ?_ ?_ _; rotate_left; ((try simp) <;> omega)) | (with_reducible refine Below.drew ?_) | (with_reducible refine below_drewN ?_ _) | fail))⟩
end Sho
end Go.Proofs.Ytofjjbhhclnpoaa
