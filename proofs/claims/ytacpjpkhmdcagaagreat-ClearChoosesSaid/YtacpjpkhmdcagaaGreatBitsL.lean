/- This text proves plain lemmas about numbers as rows of 128 bits: how a bit is set, and what sums, shifts and products are, bit by bit. It has no conditions but those that they state. -/
import Derived.Test.YtacpjpkhmdcagaaGreatQuiet
import Derived.Laws.Bits64
import Derived.Laws.Bits64b
namespace Go.Proofs.YtacpjpkhmdcagaaGreat
set_option linter.unusedVariables false
open Go.RowKit
namespace Bit
/-- The row of a number's bits, the lowest first. -/
def arr (n : Nat) : Array Value := Array.ofFn (n := 128) fun i => .bool (n.testBit i.val)
theorem arr_size (n : Nat) : (arr n).size = 128 := by simp [arr]
theorem arr_get (n i : Nat) (h : i < 128) : (arr n)[i]? = some (.bool (n.testBit i)) := by
  simp [arr, h]
theorem arr_one (n : Nat) : (arr n).all (·.oneCell') = true := by
  rw [Array.all_eq_true]
  intro i hi
  simp [arr, Value.oneCell']
attribute [irreducible] arr
attribute [go_sem] arr_size
theorem arr_ext {n : Nat} {cs : Array Value} (hs : cs.size = 128) (h : ∀ i, i < 128 → cs[i]? = some (.bool (n.testBit i))) : cs = arr n := by
  apply Array.ext
  · rw [hs, arr_size]
  · intro i h1 h2
    have h3 : i < 128 := by omega
    have h4 := h i h3
    have h5 := arr_get n i h3
    rw [Array.getElem?_eq_getElem h1] at h4
    rw [Array.getElem?_eq_getElem h2] at h5
    exact Option.some.inj (h4.trans h5.symm)
theorem arr_zero : Array.replicate 128 (Value.bool false) = arr 0 :=
  arr_ext (by simp) (fun i h => by simp [h])
theorem arr_set {n n' i : Nat} {c : Bool} (hi : i < 128) (h : ∀ j, j < 128 → n'.testBit j = if j = i then c else n.testBit j) : (arr n).setIfInBounds i (.bool c) = arr n' := by
  refine arr_ext (by simp [arr_size]) (fun j hj => ?_)
  by_cases e : j = i
  · subst e
    rw [Array.getElem?_setIfInBounds_self_of_lt (by rw [arr_size]; exact hj), h j hj, if_pos rfl]
  · rw [Array.getElem?_setIfInBounds_ne (fun h => e h.symm), arr_get n j hj, h j hj, if_neg e]
/-! ### Of -/
def ofN (lo hi i : Nat) : Nat := 2 ^ 64 * (hi % 2 ^ i) + lo % 2 ^ i
theorem ofN_bit (lo hi i j : Nat) (hi' : i ≤ 64) : (ofN lo hi i).testBit j = if j < 64 then (decide (j < i) && lo.testBit j) else (decide (j - 64 < i) && hi.testBit (j - 64)) := by
  have h1 : lo % 2 ^ i < 2 ^ 64 := by
    have h2 : lo % 2 ^ i < 2 ^ i := Nat.mod_lt _ (Nat.two_pow_pos i)
    have h3 : 2 ^ i ≤ 2 ^ 64 := Nat.pow_le_pow_right (by decide) hi'
    omega
  unfold ofN
  rw [Nat.testBit_two_pow_mul_add _ h1]
  simp only [Nat.testBit_mod_two_pow]
theorem ofN_zero (lo hi : Nat) : ofN lo hi 0 = 0 := by simp [ofN, Nat.mod_one]
theorem ofN_all (lo hi : Nat) (hl : lo < 2 ^ 64) (hh : hi < 2 ^ 64) : ofN lo hi 64 = lo + 2 ^ 64 * hi := by
  unfold ofN
  rw [Nat.mod_eq_of_lt hl, Nat.mod_eq_of_lt hh, Nat.add_comm]
theorem ofN_set (lo hi k : Nat) (hk : k < 64) : ((arr (ofN lo hi k)).setIfInBounds k (.bool (lo.testBit k))).setIfInBounds (k + 64) (.bool (hi.testBit k)) = arr (ofN lo hi (k + 1)) := by
  have h1 : (arr (ofN lo hi k)).setIfInBounds k (.bool (lo.testBit k)) = arr (2 ^ 64 * (hi % 2 ^ k) + lo % 2 ^ (k + 1)) := by
    refine arr_set (by omega) (fun j hj => ?_)
    have h2 : lo % 2 ^ (k + 1) < 2 ^ 64 := by
      have h2 : lo % 2 ^ (k + 1) < 2 ^ (k + 1) := Nat.mod_lt _ (Nat.two_pow_pos _)
      have h3 : 2 ^ (k + 1) ≤ 2 ^ 64 := Nat.pow_le_pow_right (by decide) hk
      omega
    rw [Nat.testBit_two_pow_mul_add _ h2, ofN_bit _ _ _ _ (by omega)]
    simp only [Nat.testBit_mod_two_pow]
    by_cases h4 : j < 64
    · rw [if_pos h4, if_pos h4]
      by_cases h5 : j = k
      · subst h5
        simp
      · rw [if_neg h5]
        congr 1
        simp
        omega
    · rw [if_neg h4, if_neg h4, if_neg (by omega)]
  rw [h1]
  refine arr_set (by omega) (fun j hj => ?_)
  have h2 : lo % 2 ^ (k + 1) < 2 ^ 64 := by
    have h2 : lo % 2 ^ (k + 1) < 2 ^ (k + 1) := Nat.mod_lt _ (Nat.two_pow_pos _)
    have h3 : 2 ^ (k + 1) ≤ 2 ^ 64 := Nat.pow_le_pow_right (by decide) hk
    omega
  rw [Nat.testBit_two_pow_mul_add _ h2, ofN_bit _ _ _ _ (by omega)]
  simp only [Nat.testBit_mod_two_pow]
  by_cases h4 : j < 64
  · rw [if_pos h4, if_pos h4, if_neg (by omega)]
  · rw [if_neg h4, if_neg h4]
    by_cases h5 : j = k + 64
    · subst h5
      simp
    · rw [if_neg h5]
      congr 1
      simp
      omega
/-! ### bits of words -/
theorem and_one (n k : Nat) (hn : n < 2 ^ 64) : (bits .and .u64 ((n : Int) / 2 ^ k) 1 == 1) = n.testBit k := by
  have e : ((n : Int) / 2 ^ k) = ((n / 2 ^ k : Nat) : Int) := by simp
  have h1 : n / 2 ^ k < 18446744073709551616 := Nat.lt_of_le_of_lt (Nat.div_le_self _ _) hn
  have h2 := bits_and_u64_nat (n / 2 ^ k) 1 h1 (by decide)
  rw [e, show (1 : Int) = ((1 : Nat) : Int) from rfl, h2, Nat.and_one_is_mod, Nat.testBit_eq_decide_div_mod_eq]
  rw [Bool.eq_iff_iff]
  simp
  omega
/-! ### sums -/
theorem mod_succ (n i : Nat) : n % 2 ^ (i + 1) = n % 2 ^ i + 2 ^ i * (n.testBit i).toNat := by
  rw [Nat.mod_pow_succ, Nat.testBit_eq_decide_div_mod_eq]
  congr 2
  have h := Nat.mod_two_eq_zero_or_one (n / 2 ^ i)
  rcases h with h | h <;> simp [h]
theorem set_next {N i : Nat} (hN : N < 2 ^ i) (hi : i < 128) (c : Bool) : (arr N).setIfInBounds i (.bool c) = arr (N + 2 ^ i * c.toNat) := by
  refine arr_set hi (fun j hj => ?_)
  rw [Nat.add_comm, Nat.testBit_two_pow_mul_add _ hN]
  by_cases h1 : j = i
  · subst h1
    rw [if_neg (by omega), if_pos rfl, Nat.sub_self]
    cases c <;> rfl
  · rw [if_neg h1]
    by_cases h2 : j < i
    · rw [if_pos h2]
    · rw [if_neg h2]
      have h3 : 2 ^ i ≤ 2 ^ j := Nat.pow_le_pow_right (by decide) (by omega)
      rw [Nat.testBit_lt_two_pow (x := N) (i := j) (by omega)]
      cases c
      · simp
      · rw [Nat.testBit_lt_two_pow]
        have : 2 ^ 1 ≤ 2 ^ (j - i) := Nat.pow_le_pow_right (by decide) (by omega)
        simp at this ⊢
        omega
def addS (a b i : Nat) : Nat := a % 2 ^ i + b % 2 ^ i
def addC (a b i : Nat) : Bool := decide (2 ^ i ≤ addS a b i)
def addN (a b i : Nat) : Nat := addS a b i - 2 ^ i * (addC a b i).toNat
theorem addN_lt (a b i : Nat) : addN a b i < 2 ^ i := by
  have h1 : a % 2 ^ i < 2 ^ i := Nat.mod_lt _ (Nat.two_pow_pos _)
  have h2 : b % 2 ^ i < 2 ^ i := Nat.mod_lt _ (Nat.two_pow_pos _)
  unfold addN addC addS
  by_cases h : 2 ^ i ≤ a % 2 ^ i + b % 2 ^ i
  · simp [h]; omega
  · simp [h]; omega
theorem add_step (a b i n : Nat) (hn : n = (a.testBit i).toNat + (b.testBit i).toNat + (addC a b i).toNat) :
    addN a b (i + 1) = addN a b i + 2 ^ i * (decide (n % 2 = 1)).toNat ∧ addC a b (i + 1) = decide (1 < n) := by
  have h1 : a % 2 ^ i < 2 ^ i := Nat.mod_lt _ (Nat.two_pow_pos _)
  have h2 : b % 2 ^ i < 2 ^ i := Nat.mod_lt _ (Nat.two_pow_pos _)
  have hs : addS a b (i + 1) = addS a b i + 2 ^ i * (a.testBit i).toNat + 2 ^ i * (b.testBit i).toNat := by
    unfold addS
    rw [mod_succ, mod_succ]
    omega
  have hS : addS a b i = a % 2 ^ i + b % 2 ^ i := rfl
  have hp : 2 ^ (i + 1) = 2 * 2 ^ i := by rw [Nat.pow_succ, Nat.mul_comm]
  unfold addN addC at *
  rw [hs, hp]
  generalize addS a b i = s at *
  generalize 2 ^ i = p at *
  generalize a % p = x at *
  generalize b % p = y at *
  have hc : (decide (2 * p ≤ s + p * (a.testBit i).toNat + p * (b.testBit i).toNat)) = decide (1 < n) := by
    subst hn
    cases a.testBit i <;> cases b.testBit i <;> by_cases h : p ≤ s <;> simp only [h, decide_true, decide_false, Bool.toNat_true, Bool.toNat_false, Nat.mul_one, Nat.mul_zero, Nat.add_zero, decide_eq_decide] <;> omega
  refine ⟨?_, hc⟩
  rw [hc]
  subst hn
  cases a.testBit i <;> cases b.testBit i <;> by_cases h : p ≤ s <;> simp [h] <;> omega
theorem addN_all (a b : Nat) (ha : a < 2 ^ 128) (hb : b < 2 ^ 128) : addN a b 128 = (a + b) % 2 ^ 128 ∧ addC a b 128 = decide (2 ^ 128 ≤ a + b) := by
  have hc : addC a b 128 = decide (2 ^ 128 ≤ a + b) := by
    unfold addC addS
    rw [Nat.mod_eq_of_lt ha, Nat.mod_eq_of_lt hb]
  refine ⟨?_, hc⟩
  unfold addN
  rw [hc]
  unfold addS
  rw [Nat.mod_eq_of_lt ha, Nat.mod_eq_of_lt hb]
  by_cases h : 2 ^ 128 ≤ a + b
  · simp only [h, decide_true, Bool.toNat_true]; omega
  · simp only [h, decide_false, Bool.toNat_false]; omega
theorem addN_zero (a b : Nat) : addN a b 0 = 0 := by
  have := addN_lt a b 0
  omega
theorem addC_zero (a b : Nat) : addC a b 0 = false := by
  unfold addC addS
  simp [Nat.mod_one]
/-! ### shifts -/
theorem left_set {m i : Nat} (hi : i < 128) : (arr (m % 2 ^ i)).setIfInBounds i (.bool (m.testBit i)) = arr (m % 2 ^ (i + 1)) := by
  rw [set_next (Nat.mod_lt _ (Nat.two_pow_pos _)) hi, mod_succ]
theorem left_skip {m i : Nat} (h : m.testBit i = false) : m % 2 ^ i = m % 2 ^ (i + 1) := by
  rw [mod_succ, h]; simp
theorem shift_bit (a n i : Nat) : (a * 2 ^ n).testBit i = (decide (n ≤ i) && a.testBit (i - n)) := by
  rw [Nat.testBit_mul_two_pow]
/-! ### halves -/
theorem or_next (n i : Nat) (hi : i < 64) (hb : n.testBit i = true) : bits .or .u64 ((n % 2 ^ i : Nat) : Int) ((2 ^ i : Nat) : Int) = ((n % 2 ^ (i + 1) : Nat) : Int) := by
  have h1 : n % 2 ^ i < 2 ^ i := Nat.mod_lt _ (Nat.two_pow_pos _)
  have h2 : 2 ^ i < 2 ^ 64 := Nat.pow_lt_pow_right (by decide) hi
  rw [bits_or_u64_nat _ _ (by omega) (by omega), mod_succ, hb]
  congr 1
  have := Nat.two_pow_add_eq_or_of_lt h1 1
  rw [Nat.mul_one] at this
  rw [Nat.or_comm, ← this]
  simp
  omega
theorem wrap_pow {k : Nat} (hk : k < 64) : IntKind.u64.wrap (2 ^ k) = ((2 ^ k : Nat) : Int) := by
  have h2 : 2 ^ k < 2 ^ 64 := Nat.pow_lt_pow_right (by decide) hk
  have h3 : ((2 : Int) ^ k) = ((2 ^ k : Nat) : Int) := by simp
  rw [h3]
  generalize 2 ^ k = p at *
  exact IntWalk.u64_in _ (by omega)
end Bit
end Go.Proofs.YtacpjpkhmdcagaaGreat
