/- This text proves contracts of the packages short and damperref24 (Trips, Covers, May, Least), and of the helpers of damperlaw24. They have no conditions but those that they state. -/
import Derived.Test.YtifnofbgnfnpmaaFix
import Derived.Test.YtifnofbgnfnpmaaQuiet
import Derived.Deep.RegionWith
namespace Go.Proofs.Ytifnofbgnfnpmaa
set_option linter.unusedVariables false
open Go.RowKit
namespace Sho
set_option maxHeartbeats 400000

/-! ### flags -/
theorem and_small (f : Int) (m : Nat) (hm : m < 4) : bits .and .i64 f m = (((BitVec.ofInt 64 f).toNat &&& m : Nat) : Int) := by
  have h : bits .and .i64 f m = (BitVec.ofInt 64 f &&& BitVec.ofInt 64 (m : Int)).toInt := Fix.wrap_toNat _
  rw [h, BitVec.toInt_eq_toNat_of_lt]
  · rw [BitVec.toNat_and]
    have : (BitVec.ofInt 64 (m : Int)).toNat = m := by simp; omega
    rw [this]
  · rw [BitVec.toNat_and]
    have h1 := Nat.and_le_right (n := (BitVec.ofInt 64 f).toNat) (m := (BitVec.ofInt 64 (m : Int)).toNat)
    have : (BitVec.ofInt 64 (m : Int)).toNat = m := by simp; omega
    omega
def low (f : Int) : Int := (((BitVec.ofInt 64 f).toNat % 4 : Nat) : Int)
theorem low_lt (f : Int) : 0 ≤ low f ∧ low f < 4 := by unfold low; omega
theorem and1 (f : Int) : bits .and .i64 f 1 = low f % 2 := by
  have := and_small f 1 (by decide)
  rw [show ((1 : Nat) : Int) = 1 from rfl] at this
  rw [this, Nat.and_one_is_mod]
  unfold low
  omega
theorem nat_and2 (n : Nat) : n &&& 2 = n / 2 % 2 * 2 := by
  have h1 : (n &&& 2) / 2 = n / 2 % 2 := by rw [Nat.and_div_two, ← Nat.and_one_is_mod]
  have h2 : (n &&& 2) % 2 = 0 := by
    have := Nat.and_mod_two_pow (a := n) (b := 2) (n := 1)
    simpa using this
  omega
theorem and2 (f : Int) : bits .and .i64 f 2 = low f / 2 * 2 := by
  have := and_small f 2 (by decide)
  rw [show ((2 : Nat) : Int) = 2 from rfl] at this
  rw [this, nat_and2]
  unfold low
  omega
theorem and3 (f : Int) : bits .and .i64 f 3 = low f := by
  have := and_small f 3 (by decide)
  rw [show ((3 : Nat) : Int) = 3 from rfl] at this
  rw [this]
  have h := Nat.and_two_pow_sub_one_eq_mod (BitVec.ofInt 64 f).toNat 2
  rw [show (2 : Nat) ^ 2 - 1 = 3 from rfl] at h
  rw [h]
  rfl

def coversF (o : Ord) : Bool := decide (o.side = 1) && decide (low o.flags = 1)

theorem covers_any (o : Ord) (w : World) :
    Calls Try.prog 51 #[.agg o.arr] w fun e w' => e = .returned (.bool (coversF o)) ∧ Below w.heap.size w w' := by
  have H3 := and3 o.flags
  by_cases h1 : o.side = 1
  · have k1 : (o.side == 1) = true := by simp [h1]
    have HC := Lib.hid h1
    clear h1
    go_enter Try.func51, Try.ntmps51
    go_wp2
    go_ret
    refine ⟨ret_bool ?_, by (repeat (first | with_reducible exact Below.refl _ _ | (with_reducible assumption) | (with_reducible refine below_alloc ?_ _) | (with_reducible refine below_ext (w1 := ?_) ?_ ?_; rotate_left 2; (with_reducible assumption)) | (with_reducible refine Below.setCell ?_ ?_ _; rotate_left; ((try simp) <;> omega)) | (with_reducible refine Below.drew ?_) | (with_reducible refine below_drewN ?_ _) | fail))⟩
    rw [coversF, HC.out, Bool.eq_iff_iff]
    simp
  · have k1 : (o.side == 1) = false := by simp [h1]
    have HC := Lib.hid h1
    clear h1
    go_enter Try.func51, Try.ntmps51
    go_wp2
    go_ret
    exact ⟨ret_bool (by simp [coversF, HC.out]), by (repeat (first | with_reducible exact Below.refl _ _ | (with_reducible assumption) | (with_reducible refine below_alloc ?_ _) | (with_reducible refine below_ext (w1 := ?_) ?_ ?_; rotate_left 2; (with_reducible assumption)) | (with_reducible refine Below.setCell ?_ ?_ _; rotate_left; ((try simp) <;> omega)) | (with_reducible refine Below.drew ?_) | (with_reducible refine below_drewN ?_ _) | fail))⟩

theorem rcovers_any (o : Ord) (w : World) :
    Calls Try.prog 53 #[.agg o.arr] w fun e w' => e = .returned (.bool (coversF o)) ∧ Below w.heap.size w w' := by
  have H1 := and1 o.flags
  have H2 := and2 o.flags
  have hlo := low_lt o.flags
  have HL := Lib.hid hlo
  clear hlo
  by_cases h1 : o.side = 1
  · have k1 : (o.side == 1) = true := by simp [h1]
    have HC := Lib.hid h1
    clear h1
    by_cases h2 : low o.flags % 2 = 1
    · have k2 : (low o.flags % 2 == 1) = true := by rw [h2]; rfl
      have H2' := Lib.hid h2
      clear h2
      go_enter Try.func53, Try.ntmps53
      go_wp2
      go_ret
      refine ⟨ret_bool ?_, by (repeat (first | with_reducible exact Below.refl _ _ | (with_reducible assumption) | (with_reducible refine below_alloc ?_ _) | (with_reducible refine below_ext (w1 := ?_) ?_ ?_; rotate_left 2; (with_reducible assumption)) | (with_reducible refine Below.setCell ?_ ?_ _; rotate_left; ((try simp) <;> omega)) | (with_reducible refine Below.drew ?_) | (with_reducible refine below_drewN ?_ _) | fail))⟩
      have := HL.out
      have := H2'.out
      rw [coversF, HC.out, Bool.eq_iff_iff]
      simp
      omega
    · have k2 : (low o.flags % 2 == 1) = false := by rw [beq_eq_false_iff_ne]; omega
      have H2' := Lib.hid h2
      clear h2
      go_enter Try.func53, Try.ntmps53
      go_wp2
      go_ret
      refine ⟨ret_bool ?_, by (repeat (first | with_reducible exact Below.refl _ _ | (with_reducible assumption) | (with_reducible refine below_alloc ?_ _) | (with_reducible refine below_ext (w1 := ?_) ?_ ?_; rotate_left 2; (with_reducible assumption)) | (with_reducible refine Below.setCell ?_ ?_ _; rotate_left; ((try simp) <;> omega)) | (with_reducible refine Below.drew ?_) | (with_reducible refine below_drewN ?_ _) | fail))⟩
      have := H2'.out
      have h3 : ¬ low o.flags = 1 := by omega
      simp [coversF, h3]
  · have k1 : (o.side == 1) = false := by simp [h1]
    have HC := Lib.hid h1
    clear h1
    go_enter Try.func53, Try.ntmps53
    go_wp2
    go_ret
    exact ⟨ret_bool (by simp [coversF, HC.out]), by (repeat (first | with_reducible exact Below.refl _ _ | (with_reducible assumption) | (with_reducible refine below_alloc ?_ _) | (with_reducible refine below_ext (w1 := ?_) ?_ ?_; rotate_left 2; (with_reducible assumption)) | (with_reducible refine Below.setCell ?_ ?_ _; rotate_left; ((try simp) <;> omega)) | (with_reducible refine Below.drew ?_) | (with_reducible refine below_drewN ?_ _) | fail))⟩

def mayF (b : Bool) (s : Int) (o : Ord) : Bool := !b || !coversF o || decide (s < o.price)

theorem may_any (b : Bool) (s : Int) (o : Ord) (w : World) :
    Calls Try.prog 42 #[.agg #[.bool b, .int .i64 s], .agg o.arr] w fun e w' => e = .returned (.bool (mayF b s o)) ∧ Below w.heap.size w w' := by
  cases b
  · go_enter Try.func42, Try.ntmps42
    go_wp2_with fail
    go_ret
    exact ⟨rfl, by (repeat (first | with_reducible exact Below.refl _ _ | (with_reducible assumption) | (with_reducible refine below_alloc ?_ _) | (with_reducible refine below_ext (w1 := ?_) ?_ ?_; rotate_left 2; (with_reducible assumption)) | (with_reducible refine Below.setCell ?_ ?_ _; rotate_left; ((try simp) <;> omega)) | (with_reducible refine Below.drew ?_) | (with_reducible refine below_drewN ?_ _) | fail))⟩
  · cases hc : coversF o
    all_goals
      have HC := Lib.hid hc
      clear hc
      go_enter Try.func42, Try.ntmps42
      go_wp2_with (first | ((with_reducible show wpList _ _ _ (⟨_, .load 34 _, _, _, _, _⟩ :: _) _ _); refine wpList_load_ho 34 _ (by rfl) (by rfl) ?_ (.pointer (some ⟨_, 0, none⟩)) (by rfl) ?_ _ Try.underlying34 rfl ?_ ?_; rotate_left; (next => (repeat (first | (with_reducible refine BlkAt.new _ _ _ _ ?_; ((try simp) <;> omega)) | (with_reducible assumption) | (with_reducible refine Blk.at (t := ?_) ?_; rotate_left; with_reducible assumption) | with_reducible refine BlkAt.alloc ?_ _ | with_reducible refine BlkAt.drew ?_ | (with_reducible refine BlkAt.setSame ?_ _ _) | (with_reducible refine BlkAt.setCell ?_ ?_ _; rotate_left; ((try simp) <;> omega)) | (with_reducible refine BlkAt.ext (w := ?_) ?_ ?_; rotate_left 2; (with_reducible assumption)) | fail))); (next => kernel_rfl)) | (go_at_call 51; refine (covers_any _ _).mono ?_; rintro e w1 ⟨rfl, hb1⟩; (have hcb1 := fun (b o : Nat) (h : b < _) => hb1.cell (p := ⟨b, o, none⟩) h); rw [HC.out]) | fail)
      go_ret
      exact ⟨ret_bool (by simp [mayF, HC.out]), by (repeat (first | with_reducible exact Below.refl _ _ | (with_reducible assumption) | (with_reducible refine below_alloc ?_ _) | (with_reducible refine below_ext (w1 := ?_) ?_ ?_; rotate_left 2; (with_reducible assumption)) | (with_reducible refine Below.setCell ?_ ?_ _; rotate_left; ((try simp) <;> omega)) | (with_reducible refine Below.drew ?_) | (with_reducible refine below_drewN ?_ _) | fail))⟩

theorem rmay_any (b : Bool) (s : Int) (o : Ord) (w : World) :
    Calls Try.prog 47 #[.agg #[.bool b, .int .i64 s], .agg o.arr] w fun e w' => e = .returned (.bool (mayF b s o)) ∧ Below w.heap.size w w' := by
  cases b
  · go_enter Try.func47, Try.ntmps47
    go_wp2_with fail
    go_ret
    exact ⟨rfl, by (repeat (first | with_reducible exact Below.refl _ _ | (with_reducible assumption) | (with_reducible refine below_alloc ?_ _) | (with_reducible refine below_ext (w1 := ?_) ?_ ?_; rotate_left 2; (with_reducible assumption)) | (with_reducible refine Below.setCell ?_ ?_ _; rotate_left; ((try simp) <;> omega)) | (with_reducible refine Below.drew ?_) | (with_reducible refine below_drewN ?_ _) | fail))⟩
  · cases hc : coversF o
    all_goals
      have HC := Lib.hid hc
      clear hc
      go_enter Try.func47, Try.ntmps47
      go_wp2_with (first | ((with_reducible show wpList _ _ _ (⟨_, .load 34 _, _, _, _, _⟩ :: _) _ _); refine wpList_load_ho 34 _ (by rfl) (by rfl) ?_ (.pointer (some ⟨_, 0, none⟩)) (by rfl) ?_ _ Try.underlying34 rfl ?_ ?_; rotate_left; (next => (repeat (first | (with_reducible refine BlkAt.new _ _ _ _ ?_; ((try simp) <;> omega)) | (with_reducible assumption) | (with_reducible refine Blk.at (t := ?_) ?_; rotate_left; with_reducible assumption) | with_reducible refine BlkAt.alloc ?_ _ | with_reducible refine BlkAt.drew ?_ | (with_reducible refine BlkAt.setSame ?_ _ _) | (with_reducible refine BlkAt.setCell ?_ ?_ _; rotate_left; ((try simp) <;> omega)) | (with_reducible refine BlkAt.ext (w := ?_) ?_ ?_; rotate_left 2; (with_reducible assumption)) | fail))); (next => kernel_rfl)) | (go_at_call 53; refine (rcovers_any _ _).mono ?_; rintro e w1 ⟨rfl, hb1⟩; (have hcb1 := fun (b o : Nat) (h : b < _) => hb1.cell (p := ⟨b, o, none⟩) h); rw [HC.out]) | fail)
      go_ret
      exact ⟨ret_bool (by simp [mayF, HC.out]), by (repeat (first | with_reducible exact Below.refl _ _ | (with_reducible assumption) | (with_reducible refine below_alloc ?_ _) | (with_reducible refine below_ext (w1 := ?_) ?_ ?_; rotate_left 2; (with_reducible assumption)) | (with_reducible refine Below.setCell ?_ ?_ _; rotate_left; ((try simp) <;> omega)) | (with_reducible refine Below.drew ?_) | (with_reducible refine below_drewN ?_ _) | fail))⟩

end Sho
end Go.Proofs.Ytifnofbgnfnpmaa
