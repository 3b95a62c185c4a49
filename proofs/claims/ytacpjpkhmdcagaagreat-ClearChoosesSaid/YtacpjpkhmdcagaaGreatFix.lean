/- This text proves contracts of functions of the package fix (Add, Down, Up, Price). They have no conditions but those that they state. -/
import Derived.Test.YtacpjpkhmdcagaaGreatQuiet
import Derived.WalkKit
import Derived.WalkSpells
import Derived.WalkLawsBesides
import Derived.BigQuiet
namespace Go.Proofs.YtacpjpkhmdcagaaGreat
set_option linter.unusedVariables false
open Go.RowKit
namespace Fix
set_option maxHeartbeats 400000

theorem wrap_toNat (r : BitVec 64) : IntKind.i64.wrap (r.toNat : Int) = r.toInt := by
  have h := r.isLt
  rw [BitVec.toInt_eq_toNat_cond]
  simp only [IntKind.wrap_i64]
  split <;> omega

theorem neg_msb {x : Int} (h : I64 x) : (BitVec.ofInt 64 x).msb = decide (x < 0) := by
  obtain ⟨h1, h2⟩ := h
  rw [BitVec.msb_eq_toInt, BitVec.toInt_ofInt]
  congr 1
  rw [Int.bmod_def]
  simp only [eq_iff_iff]
  omega

theorem and_neg {x y : Int} (hx : I64 x) (hy : I64 y) : (bits .and .i64 x y < 0) = (x < 0 ∧ y < 0) := by
  have h : bits .and .i64 x y = (BitVec.ofInt 64 x &&& BitVec.ofInt 64 y).toInt := wrap_toNat _
  rw [h]
  have := BitVec.msb_eq_toInt (x := BitVec.ofInt 64 x &&& BitVec.ofInt 64 y)
  rw [BitVec.msb_and, neg_msb hx, neg_msb hy] at this
  simp only [eq_iff_iff]
  rw [← decide_eq_true_iff (p := _ < (0 : Int)), ← this]
  simp

theorem xor_neg {x y : Int} (hx : I64 x) (hy : I64 y) : (bits .xor .i64 x y < 0) = ¬ (x < 0 ↔ y < 0) := by
  have h : bits .xor .i64 x y = (BitVec.ofInt 64 x ^^^ BitVec.ofInt 64 y).toInt := wrap_toNat _
  rw [h]
  have := BitVec.msb_eq_toInt (x := BitVec.ofInt 64 x ^^^ BitVec.ofInt 64 y)
  rw [BitVec.msb_xor, neg_msb hx, neg_msb hy] at this
  simp only [eq_iff_iff]
  rw [← decide_eq_true_iff (p := _ < (0 : Int)), ← this]
  by_cases h1 : x < 0 <;> by_cases h2 : y < 0 <;> simp [h1, h2]

theorem bitsI (op : BinOp) (x y : Int) : I64 (bits op .i64 x y) := ⟨bits_lo_i64 op x y, bits_hi_i64 op x y⟩

theorem add_neg {a b s : Int} (ha : I64 a) (hb : I64 b) (hs : I64 s) : (bits .and .i64 (bits .xor .i64 a s) (bits .xor .i64 b s) < 0) = (¬ (a < 0 ↔ s < 0) ∧ ¬ (b < 0 ↔ s < 0)) := by
  rw [and_neg (bitsI ..) (bitsI ..), xor_neg ha hs, xor_neg hb hs]

theorem add_any (a b : Int) (w : World) (ha : I64 a) (hb : I64 b) (hr : I64 (a + b)) :
    Calls Tryz.prog 75 #[.int .i64 a, .int .i64 b] w fun e w' => e = .returned (.tuple #[.int .i64 (a + b), .bool true]) ∧ w = w' := by
  have hN := add_neg ha hb hr
  have hn : ¬ (bits .and .i64 (bits .xor .i64 a (a + b)) (bits .xor .i64 b (a + b)) < 0) := by rw [hN]; omega
  clear hN
  obtain ⟨h1, h2⟩ := ha
  obtain ⟨h3, h4⟩ := hb
  obtain ⟨h5, h6⟩ := hr
  go_enter Tryz.func75, Tryz.ntmps75
  go_wp2
  go_ret2
  exact ⟨rfl, rfl⟩

theorem wrapI (x : Int) : I64 (wrap64 x) := by
  unfold I64 wrap64
  omega

theorem add_over (a b : Int) (w : World) (ha : I64 a) (hb : I64 b) (hr : ¬ I64 (a + b)) :
    Calls Tryz.prog 75 #[.int .i64 a, .int .i64 b] w fun e w' => e = .returned (.tuple #[.int .i64 0, .bool false]) ∧ w = w' := by
  have hN := add_neg ha hb (wrapI (a + b))
  have hn : bits .and .i64 (bits .xor .i64 a (wrap64 (a + b))) (bits .xor .i64 b (wrap64 (a + b))) < 0 := by
    rw [hN]
    unfold I64 at *
    unfold wrap64
    omega
  clear hN ha hb hr
  go_enter Tryz.func75, Tryz.ntmps75
  go_wp2
  go_ret2
  exact ⟨rfl, rfl⟩

def downF (p g : Int) : Int := if p < 0 ∨ g < 1 then 0 else p / g * g
theorem down_ok {p g : Int} (hp : 0 ≤ p) (hg : 1 ≤ g) : 0 ≤ p / g * g ∧ p / g * g ≤ p ∧ p < p / g * g + g := by
  have h1 : 0 ≤ p / g := Int.ediv_nonneg hp (by omega)
  have h2 := Int.emod_add_mul_ediv p g
  have h3 := Int.emod_nonneg p (show g ≠ 0 by omega)
  have h4 := Int.emod_lt_of_pos p (show 0 < g by omega)
  have h5 : g * (p / g) = p / g * g := Int.mul_comm ..
  have h6 : 0 ≤ p / g * g := Int.mul_nonneg h1 (by omega)
  omega


def upF (p g : Int) : Int × Bool := if p < 0 ∨ g < 1 then (0, false) else if p / g * g = p then (p, true) else (p / g * g + g, true)

end Fix
end Go.Proofs.YtacpjpkhmdcagaaGreat
