/- This text proves contracts of the packages short and damperref24 (Trips, Covers, May, Least), and of the helpers of damperlaw24. They have no conditions but those that they state. -/
import Derived.Test.YtbnappiaomiciaaMul
import Derived.Test.YtbnappiaomiciaaQuiet
import Derived.Deep.RegionWith
namespace Go.Proofs.Ytbnappiaomiciaa
set_option linter.unusedVariables false
open Go.RowKit
namespace Sho
set_option maxHeartbeats 400000

/-! ### flags -/
theorem and_small (f : Int) (m : Nat) (hm : m < 4) : bits .and .i64 f m = (((BitVec.ofInt 64 f).toNat &&& m : Nat) : Int) := by
  have h : bits .and .i64 f m = (BitVec.ofInt 64 f &&& BitVec.ofInt 64 (m : Int)).toInt := Fix.wrap_toNat _
  rw [h, BitVec.toInt_eq_toNat_of_lt]
  · rw [BitVec.toNat_and]
    have : (BitVec.ofInt 64 (m : Int)).toNat = m := by simp; omega
    rw [this]
  · rw [BitVec.toNat_and]
    have h1 := Nat.and_le_right (n := (BitVec.ofInt 64 f).toNat) (m := (BitVec.ofInt 64 (m : Int)).toNat)
    have : (BitVec.ofInt 64 (m : Int)).toNat = m := by simp; omega
    omega
def low (f : Int) : Int := (((BitVec.ofInt 64 f).toNat % 4 : Nat) : Int)
theorem low_lt (f : Int) : 0 ≤ low f ∧ low f < 4 := by unfold low; omega
theorem and1 (f : Int) : bits .and .i64 f 1 = low f % 2 := by
  have := and_small f 1 (by decide)
  rw [show ((1 : Nat) : Int) = 1 from rfl] at this
  rw [this, Nat.and_one_is_mod]
  unfold low
  omega
theorem nat_and2 (n : Nat) : n &&& 2 = n / 2 % 2 * 2 := by
  have h1 : (n &&& 2) / 2 = n / 2 % 2 := by rw [Nat.and_div_two, ← Nat.and_one_is_mod]
  have h2 : (n &&& 2) % 2 = 0 := by
    have := Nat.and_mod_two_pow (a := n) (b := 2) (n := 1)
    simpa using this
  omega
theorem and2 (f : Int) : bits .and .i64 f 2 = low f / 2 * 2 := by
  have := and_small f 2 (by decide)
  rw [show ((2 : Nat) : Int) = 2 from rfl] at this
  rw [this, nat_and2]
  unfold low
  omega
theorem and3 (f : Int) : bits .and .i64 f 3 = low f := by
  have := and_small f 3 (by decide)
  rw [show ((3 : Nat) : Int) = 3 from rfl] at this
  rw [this]
  have h := Nat.and_two_pow_sub_one_eq_mod (BitVec.ofInt 64 f).toNat 2
  rw [show (2 : Nat) ^ 2 - 1 = 3 from rfl] at h
  rw [h]
  rfl

def coversF (o : Ord) : Bool := decide (o.side = 1) && decide (low o.flags = 1)

theorem covers_any (o : Ord) (w : World) :
    Calls Try.prog 32 #[.agg o.arr] w fun e w' => e = .returned (.bool (coversF o)) ∧ Below w.heap.size w w' := by
  have H3 := and3 o.flags
  by_cases h1 : o.side = 1
  · have k1 : (o.side == 1) = true := by simp [h1]
    have HC := Lib.hid h1
    clear h1
    go_enter Try.func32, Try.ntmps32
    go_wp2
    go_ret
    refine ⟨ret_bool ?_, by (repeat (first | with_reducible exact Below.refl _ _ | (with_reducible assumption) | (with_reducible refine below_alloc ?_ _) | (with_reducible refine below_ext (w1 := ?_) ?_ ?_; rotate_left 2; (with_reducible assumption)) | (with_reducible refine Below.setCell ?_ ?_ _; rotate_left; ((try simp) <;> omega)) | (with_reducible refine Below.drew ?_) | (with_reducible refine below_drewN ?_ _) | fail))⟩
    rw [coversF, HC.out, Bool.eq_iff_iff]
    simp
  · have k1 : (o.side == 1) = false := by simp [h1]
    have HC := Lib.hid h1
    clear h1
    go_enter Try.func32, Try.ntmps32
    go_wp2
    go_ret
    exact ⟨ret_bool (by simp [coversF, HC.out]), by (repeat (first | with_reducible exact Below.refl _ _ | (with_reducible assumption) | (with_reducible refine below_alloc ?_ _) | (with_reducible refine below_ext (w1 := ?_) ?_ ?_; rotate_left 2; (with_reducible assumption)) | (with_reducible refine Below.setCell ?_ ?_ _; rotate_left; ((try simp) <;> omega)) | (with_reducible refine Below.drew ?_) | (with_reducible refine below_drewN ?_ _) | fail))⟩


def mayF (b : Bool) (s : Int) (o : Ord) : Bool := !b || !coversF o || decide (s < o.price)

theorem may_any (b : Bool) (s : Int) (o : Ord) (w : World) :
    Calls Try.prog 9 #[.agg #[.bool b, .int .i64 s], .agg o.arr] w fun e w' => e = .returned (.bool (mayF b s o)) ∧ Below w.heap.size w w' := by
  cases b
  · go_enter Try.func9, Try.ntmps9
    go_wp2_with fail
    go_ret
    exact ⟨rfl, by (repeat (first | with_reducible exact Below.refl _ _ | (with_reducible assumption) | (with_reducible refine below_alloc ?_ _) | (with_reducible refine below_ext (w1 := ?_) ?_ ?_; rotate_left 2; (with_reducible assumption)) | (with_reducible refine Below.setCell ?_ ?_ _; rotate_left; ((try simp) <;> omega)) | (with_reducible refine Below.drew ?_) | (with_reducible refine below_drewN ?_ _) | fail))⟩
  · cases hc : coversF o
    all_goals
      have HC := Lib.hid hc
      clear hc
      go_enter Try.func9, Try.ntmps9
      go_wp2_with (first | ((with_reducible show wpList _ _ _ (⟨_, .load 35 _, _, _, _, _⟩ :: _) _ _); refine wpList_load_ho 35 _ (by rfl) (by rfl) ?_ (.pointer (some ⟨_, 0, none⟩)) (by rfl) ?_ _ Try.underlying35 rfl ?_ ?_; rotate_left; (next => (repeat (first | (with_reducible refine BlkAt.new _ _ _ _ ?_; ((try simp) <;> omega)) | (with_reducible assumption) | (with_reducible refine Blk.at (t := ?_) ?_; rotate_left; with_reducible assumption) | with_reducible refine BlkAt.alloc ?_ _ | with_reducible refine BlkAt.drew ?_ | (with_reducible refine BlkAt.setSame ?_ _ _) | (with_reducible refine BlkAt.setCell ?_ ?_ _; rotate_left; ((try simp) <;> omega)) | (with_reducible refine BlkAt.ext (w := ?_) ?_ ?_; rotate_left 2; (with_reducible assumption)) | fail))); (next => kernel_rfl)) | (go_at_call 32; refine (covers_any _ _).mono ?_; rintro e w1 ⟨rfl, hb1⟩; (have hcb1 := fun (b o : Nat) (h : b < _) => hb1.cell (p := ⟨b, o, none⟩) h); rw [HC.out]) | fail)
      go_ret
      exact ⟨ret_bool (by simp [mayF, HC.out]), by (repeat (first | with_reducible exact Below.refl _ _ | (with_reducible assumption) | (with_reducible refine below_alloc ?_ _) | (with_reducible refine below_ext (w1 := ?_) ?_ ?_; rotate_left 2; (with_reducible assumption)) | (with_reducible refine Below.setCell ?_ ?_ _; rotate_left; ((try simp) <;> omega)) | (with_reducible refine Below.drew ?_) | (with_reducible refine below_drewN ?_ _) | fail))⟩



/-! ### Least -/
def leastF (b : Bool) (s g : Int) : Int × Bool :=
  if b = false ∨ s < 0 ∨ 1099511627776 ≤ s ∨ g < 1 ∨ 1099511627776 < g then (0, false)
  else if 1099511627776 < s - s % g + g then (0, false) else (s - s % g + g, true)

theorem up_least {s g : Int} (hs : 0 ≤ s) (hg : 1 ≤ g) : Fix.upF (s + 1) g = (s - s % g + g, true) := by
  have h1 := Int.emod_add_mul_ediv s g
  have h2 := Int.emod_nonneg s (show g ≠ 0 by omega)
  have h3 := Int.emod_lt_of_pos s (show 0 < g by omega)
  have h4 := Int.emod_add_mul_ediv (s + 1) g
  have h5 : (s + 1) / g * g = g * ((s + 1) / g) := Int.mul_comm ..
  have h6 : (s + 1) % g = (s % g + 1) % g := by
    have : s + 1 = (s % g + 1) + g * (s / g) := by omega
    rw [this, Int.add_mul_emod_self_left]
  unfold Fix.upF
  rw [if_neg (by omega)]
  by_cases h7 : s % g + 1 = g
  · have h8 : (s + 1) % g = 0 := by rw [h6, h7, Int.emod_self]
    rw [if_pos (by omega)]
    rw [show s + 1 = s - s % g + g by omega]
  · have h8 : (s + 1) % g = s % g + 1 := by rw [h6, Int.emod_eq_of_lt (by omega) (by omega)]
    rw [if_neg (by omega)]
    rw [show (s + 1) / g * g + g = s - s % g + g by omega]




/-! ### Trips -/
def pricedF (p : Int) : Bool := decide (1 ≤ p) && decide (p ≤ 1099511627776)


def priceF (p : Int) : Int := if pricedF p then 0 else 9
theorem price_any (p : Int) (w : World) (hp : I64 p) :
    Calls Try.prog 16 #[.int .i64 p, .int .i64 1] w fun e w' => e = .returned (.int .i64 (priceF p)) ∧ w = w' := by
  have kp := hp
  obtain ⟨p1, p2⟩ := hp
  by_cases h1 : p < 1
  · have HF : Hid (priceF p = 9) := by
      have : pricedF p = false := by simp [pricedF]; omega
      show priceF p = 9
      simp [priceF, this]
    go_enter Try.func16, Try.ntmps16
    go_wp2_with fail
    go_ret
    exact ⟨by rw [HF.out]; rfl, rfl⟩
  · by_cases h2 : 1099511627776 < p
    · have HF : Hid (priceF p = 9) := by
        have : pricedF p = false := by simp [pricedF]; omega
        show priceF p = 9
        simp [priceF, this]
      go_enter Try.func16, Try.ntmps16
      go_wp2_with fail
      go_ret
      exact ⟨by rw [HF.out]; rfl, rfl⟩
    · have HF : Hid (priceF p = 0) := by
        have : pricedF p = true := by simp [pricedF]; omega
        show priceF p = 0
        simp [priceF, this]
      have HD : Hid (Fix.downF p 1 = p) := by show Fix.downF p 1 = p; unfold Fix.downF; rw [if_neg (by omega)]; simp
      go_enter Try.func16, Try.ntmps16
      go_wp2_with (first | go_at_call 47; refine (Fix.down_any _ _ _ kp ⟨by decide, by decide⟩).mono ?_; rintro e w' ⟨rfl, rfl⟩; rw [HD.out] | fail)
      go_ret
      exact ⟨by rw [HF.out]; rfl, rfl⟩


def tripsF (s f p : Int) : Bool := decide (1 ≤ s) && decide (s ≤ 9999) && pricedF f && pricedF p && decide (p * 10000 ≤ f * (10000 - s))

theorem mul_small {f s : Int} (h1 : 1 ≤ f) (h2 : f ≤ 1099511627776) (h3 : 1 ≤ s) (h4 : s ≤ 9999) : 0 ≤ f * (10000 - s) ∧ f * (10000 - s) ≤ 10995116277760000 := by
  constructor
  · exact Int.mul_nonneg (by omega) (by omega)
  · have := Int.mul_le_mul (a := f) (b := 10000 - s) (c := 1099511627776) (d := 10000) h2 (by omega) (by omega) (by omega)
    omega


end Sho
end Go.Proofs.Ytbnappiaomiciaa
