/- This text proves plain lemmas about numbers as rows of 128 bits: how a bit is set, and what sums, shifts and products are, bit by bit. It has no conditions but those that they state. This text proves contracts of functions of the package fix (Add, Down, Up, Price). They have no conditions but those that they state. This text proves a law for a region whose order is open and whose end is open too: the operations ahead of number n are walked in the order of the text in every world of a class, whatever order they come in; from there on the rest stands as the walk of any order. It has no conditions but those that it states. This text proves contracts of the package damperref01: Of, Add, Left, Mul, Halves. It has no conditions but those that they state. This text proves contracts of products: wide.Mul, fix.Mul, fix.Notional, and damperref02.Mul, damperref02.Notional, of numbers that are not below 0. It has no conditions but those that it states. -/
import Derived.Test.YtbnappiaomiciaaQuiet
import Derived.Laws.Bits64
import Derived.Laws.Bits64b
import Derived.WalkKit
import Derived.WalkSpells
import Derived.WalkLawsBesides
import Derived.BigQuiet
namespace Go.Proofs.Ytbnappiaomiciaa
set_option linter.unusedVariables false
open Go.RowKit
namespace Bit
/-- The row of a number's bits, the lowest first. -/
def arr (n : Nat) : Array Value := Array.ofFn (n := 128) fun i => .bool (n.testBit i.val)
theorem arr_size (n : Nat) : (arr n).size = 128 := by simp [arr]
theorem arr_get (n i : Nat) (h : i < 128) : (arr n)[i]? = some (.bool (n.testBit i)) := by
  simp [arr, h]
theorem arr_one (n : Nat) : (arr n).all (·.oneCell') = true := by
  rw [Array.all_eq_true]
  intro i hi
  simp [arr, Value.oneCell']
attribute [irreducible] arr
attribute [go_sem] arr_size
theorem arr_ext {n : Nat} {cs : Array Value} (hs : cs.size = 128) (h : ∀ i, i < 128 → cs[i]? = some (.bool (n.testBit i))) : cs = arr n := by
  apply Array.ext
  · rw [hs, arr_size]
  · intro i h1 h2
    have h3 : i < 128 := by omega
    have h4 := h i h3
    have h5 := arr_get n i h3
    rw [Array.getElem?_eq_getElem h1] at h4
    rw [Array.getElem?_eq_getElem h2] at h5
    exact Option.some.inj (h4.trans h5.symm)
theorem arr_zero : Array.replicate 128 (Value.bool false) = arr 0 :=
  arr_ext (by simp) (fun i h => by simp [h])
theorem arr_set {n n' i : Nat} {c : Bool} (hi : i < 128) (h : ∀ j, j < 128 → n'.testBit j = if j = i then c else n.testBit j) : (arr n).setIfInBounds i (.bool c) = arr n' := by
  refine arr_ext (by simp [arr_size]) (fun j hj => ?_)
  by_cases e : j = i
  · subst e
    rw [Array.getElem?_setIfInBounds_self_of_lt (by rw [arr_size]; exact hj), h j hj, if_pos rfl]
  · rw [Array.getElem?_setIfInBounds_ne (fun h => e h.symm), arr_get n j hj, h j hj, if_neg e]
/-! ### Of -/
def ofN (lo hi i : Nat) : Nat := 2 ^ 64 * (hi % 2 ^ i) + lo % 2 ^ i
theorem ofN_bit (lo hi i j : Nat) (hi' : i ≤ 64) : (ofN lo hi i).testBit j = if j < 64 then (decide (j < i) && lo.testBit j) else (decide (j - 64 < i) && hi.testBit (j - 64)) := by
  have h1 : lo % 2 ^ i < 2 ^ 64 := by
    have h2 : lo % 2 ^ i < 2 ^ i := Nat.mod_lt _ (Nat.two_pow_pos i)
    have h3 : 2 ^ i ≤ 2 ^ 64 := Nat.pow_le_pow_right (by decide) hi'
    omega
  unfold ofN
  rw [Nat.testBit_two_pow_mul_add _ h1]
  simp only [Nat.testBit_mod_two_pow]
theorem ofN_zero (lo hi : Nat) : ofN lo hi 0 = 0 := by simp [ofN, Nat.mod_one]
theorem ofN_all (lo hi : Nat) (hl : lo < 2 ^ 64) (hh : hi < 2 ^ 64) : ofN lo hi 64 = lo + 2 ^ 64 * hi := by
  unfold ofN
  rw [Nat.mod_eq_of_lt hl, Nat.mod_eq_of_lt hh, Nat.add_comm]
theorem ofN_set (lo hi k : Nat) (hk : k < 64) : ((arr (ofN lo hi k)).setIfInBounds k (.bool (lo.testBit k))).setIfInBounds (k + 64) (.bool (hi.testBit k)) = arr (ofN lo hi (k + 1)) := by
  have h1 : (arr (ofN lo hi k)).setIfInBounds k (.bool (lo.testBit k)) = arr (2 ^ 64 * (hi % 2 ^ k) + lo % 2 ^ (k + 1)) := by
    refine arr_set (by omega) (fun j hj => ?_)
    have h2 : lo % 2 ^ (k + 1) < 2 ^ 64 := by
      have h2 : lo % 2 ^ (k + 1) < 2 ^ (k + 1) := Nat.mod_lt _ (Nat.two_pow_pos _)
      have h3 : 2 ^ (k + 1) ≤ 2 ^ 64 := Nat.pow_le_pow_right (by decide) hk
      omega
    rw [Nat.testBit_two_pow_mul_add _ h2, ofN_bit _ _ _ _ (by omega)]
    simp only [Nat.testBit_mod_two_pow]
    by_cases h4 : j < 64
    · rw [if_pos h4, if_pos h4]
      by_cases h5 : j = k
      · subst h5
        simp
      · rw [if_neg h5]
        congr 1
        simp
        omega
    · rw [if_neg h4, if_neg h4, if_neg (by omega)]
  rw [h1]
  refine arr_set (by omega) (fun j hj => ?_)
  have h2 : lo % 2 ^ (k + 1) < 2 ^ 64 := by
    have h2 : lo % 2 ^ (k + 1) < 2 ^ (k + 1) := Nat.mod_lt _ (Nat.two_pow_pos _)
    have h3 : 2 ^ (k + 1) ≤ 2 ^ 64 := Nat.pow_le_pow_right (by decide) hk
    omega
  rw [Nat.testBit_two_pow_mul_add _ h2, ofN_bit _ _ _ _ (by omega)]
  simp only [Nat.testBit_mod_two_pow]
  by_cases h4 : j < 64
  · rw [if_pos h4, if_pos h4, if_neg (by omega)]
  · rw [if_neg h4, if_neg h4]
    by_cases h5 : j = k + 64
    · subst h5
      simp
    · rw [if_neg h5]
      congr 1
      simp
      omega
/-! ### bits of words -/
theorem and_one (n k : Nat) (hn : n < 2 ^ 64) : (bits .and .u64 ((n : Int) / 2 ^ k) 1 == 1) = n.testBit k := by
  have e : ((n : Int) / 2 ^ k) = ((n / 2 ^ k : Nat) : Int) := by simp
  have h1 : n / 2 ^ k < 18446744073709551616 := Nat.lt_of_le_of_lt (Nat.div_le_self _ _) hn
  have h2 := bits_and_u64_nat (n / 2 ^ k) 1 h1 (by decide)
  rw [e, show (1 : Int) = ((1 : Nat) : Int) from rfl, h2, Nat.and_one_is_mod, Nat.testBit_eq_decide_div_mod_eq]
  rw [Bool.eq_iff_iff]
  simp
  omega
/-! ### sums -/
theorem mod_succ (n i : Nat) : n % 2 ^ (i + 1) = n % 2 ^ i + 2 ^ i * (n.testBit i).toNat := by
  rw [Nat.mod_pow_succ, Nat.testBit_eq_decide_div_mod_eq]
  congr 2
  have h := Nat.mod_two_eq_zero_or_one (n / 2 ^ i)
  rcases h with h | h <;> simp [h]
theorem set_next {N i : Nat} (hN : N < 2 ^ i) (hi : i < 128) (c : Bool) : (arr N).setIfInBounds i (.bool c) = arr (N + 2 ^ i * c.toNat) := by
  refine arr_set hi (fun j hj => ?_)
  rw [Nat.add_comm, Nat.testBit_two_pow_mul_add _ hN]
  by_cases h1 : j = i
  · subst h1
    rw [if_neg (by omega), if_pos rfl, Nat.sub_self]
    cases c <;> rfl
  · rw [if_neg h1]
    by_cases h2 : j < i
    · rw [if_pos h2]
    · rw [if_neg h2]
      have h3 : 2 ^ i ≤ 2 ^ j := Nat.pow_le_pow_right (by decide) (by omega)
      rw [Nat.testBit_lt_two_pow (x := N) (i := j) (by omega)]
      cases c
      · simp
      · rw [Nat.testBit_lt_two_pow]
        have : 2 ^ 1 ≤ 2 ^ (j - i) := Nat.pow_le_pow_right (by decide) (by omega)
        simp at this ⊢
        omega
def addS (a b i : Nat) : Nat := a % 2 ^ i + b % 2 ^ i
def addC (a b i : Nat) : Bool := decide (2 ^ i ≤ addS a b i)
def addN (a b i : Nat) : Nat := addS a b i - 2 ^ i * (addC a b i).toNat
theorem addN_lt (a b i : Nat) : addN a b i < 2 ^ i := by
  have h1 : a % 2 ^ i < 2 ^ i := Nat.mod_lt _ (Nat.two_pow_pos _)
  have h2 : b % 2 ^ i < 2 ^ i := Nat.mod_lt _ (Nat.two_pow_pos _)
  unfold addN addC addS
  by_cases h : 2 ^ i ≤ a % 2 ^ i + b % 2 ^ i
  · simp [h]; omega
  · simp [h]; omega
theorem add_step (a b i n : Nat) (hn : n = (a.testBit i).toNat + (b.testBit i).toNat + (addC a b i).toNat) :
    addN a b (i + 1) = addN a b i + 2 ^ i * (decide (n % 2 = 1)).toNat ∧ addC a b (i + 1) = decide (1 < n) := by
  have h1 : a % 2 ^ i < 2 ^ i := Nat.mod_lt _ (Nat.two_pow_pos _)
  have h2 : b % 2 ^ i < 2 ^ i := Nat.mod_lt _ (Nat.two_pow_pos _)
  have hs : addS a b (i + 1) = addS a b i + 2 ^ i * (a.testBit i).toNat + 2 ^ i * (b.testBit i).toNat := by
    unfold addS
    rw [mod_succ, mod_succ]
    omega
  have hS : addS a b i = a % 2 ^ i + b % 2 ^ i := rfl
  have hp : 2 ^ (i + 1) = 2 * 2 ^ i := by rw [Nat.pow_succ, Nat.mul_comm]
  unfold addN addC at *
  rw [hs, hp]
  generalize addS a b i = s at *
  generalize 2 ^ i = p at *
  generalize a % p = x at *
  generalize b % p = y at *
  have hc : (decide (2 * p ≤ s + p * (a.testBit i).toNat + p * (b.testBit i).toNat)) = decide (1 < n) := by
    subst hn
    cases a.testBit i <;> cases b.testBit i <;> by_cases h : p ≤ s <;> simp only [h, decide_true, decide_false, Bool.toNat_true, Bool.toNat_false, Nat.mul_one, Nat.mul_zero, Nat.add_zero, decide_eq_decide] <;> omega
  refine ⟨?_, hc⟩
  rw [hc]
  subst hn
  cases a.testBit i <;> cases b.testBit i <;> by_cases h : p ≤ s <;> simp [h] <;> omega
theorem addN_all (a b : Nat) (ha : a < 2 ^ 128) (hb : b < 2 ^ 128) : addN a b 128 = (a + b) % 2 ^ 128 ∧ addC a b 128 = decide (2 ^ 128 ≤ a + b) := by
  have hc : addC a b 128 = decide (2 ^ 128 ≤ a + b) := by
    unfold addC addS
    rw [Nat.mod_eq_of_lt ha, Nat.mod_eq_of_lt hb]
  refine ⟨?_, hc⟩
  unfold addN
  rw [hc]
  unfold addS
  rw [Nat.mod_eq_of_lt ha, Nat.mod_eq_of_lt hb]
  by_cases h : 2 ^ 128 ≤ a + b
  · simp only [h, decide_true, Bool.toNat_true]; omega
  · simp only [h, decide_false, Bool.toNat_false]; omega
theorem addN_zero (a b : Nat) : addN a b 0 = 0 := by
  have := addN_lt a b 0
  omega
theorem addC_zero (a b : Nat) : addC a b 0 = false := by
  unfold addC addS
  simp [Nat.mod_one]
/-! ### shifts -/
theorem left_set {m i : Nat} (hi : i < 128) : (arr (m % 2 ^ i)).setIfInBounds i (.bool (m.testBit i)) = arr (m % 2 ^ (i + 1)) := by
  rw [set_next (Nat.mod_lt _ (Nat.two_pow_pos _)) hi, mod_succ]
theorem left_skip {m i : Nat} (h : m.testBit i = false) : m % 2 ^ i = m % 2 ^ (i + 1) := by
  rw [mod_succ, h]; simp
theorem shift_bit (a n i : Nat) : (a * 2 ^ n).testBit i = (decide (n ≤ i) && a.testBit (i - n)) := by
  rw [Nat.testBit_mul_two_pow]
/-! ### halves -/
theorem or_next (n i : Nat) (hi : i < 64) (hb : n.testBit i = true) : bits .or .u64 ((n % 2 ^ i : Nat) : Int) ((2 ^ i : Nat) : Int) = ((n % 2 ^ (i + 1) : Nat) : Int) := by
  have h1 : n % 2 ^ i < 2 ^ i := Nat.mod_lt _ (Nat.two_pow_pos _)
  have h2 : 2 ^ i < 2 ^ 64 := Nat.pow_lt_pow_right (by decide) hi
  rw [bits_or_u64_nat _ _ (by omega) (by omega), mod_succ, hb]
  congr 1
  have := Nat.two_pow_add_eq_or_of_lt h1 1
  rw [Nat.mul_one] at this
  rw [Nat.or_comm, ← this]
  simp
  omega
theorem wrap_pow {k : Nat} (hk : k < 64) : IntKind.u64.wrap (2 ^ k) = ((2 ^ k : Nat) : Int) := by
  have h2 : 2 ^ k < 2 ^ 64 := Nat.pow_lt_pow_right (by decide) hk
  have h3 : ((2 : Int) ^ k) = ((2 ^ k : Nat) : Int) := by simp
  rw [h3]
  generalize 2 ^ k = p at *
  exact IntWalk.u64_in _ (by omega)
end Bit
end Go.Proofs.Ytbnappiaomiciaa
namespace Go.Proofs.Ytbnappiaomiciaa
set_option linter.unusedVariables false
open Go.RowKit
namespace Fix
set_option maxHeartbeats 400000

theorem wrap_toNat (r : BitVec 64) : IntKind.i64.wrap (r.toNat : Int) = r.toInt := by
  have h := r.isLt
  rw [BitVec.toInt_eq_toNat_cond]
  simp only [IntKind.wrap_i64]
  split <;> omega

theorem neg_msb {x : Int} (h : I64 x) : (BitVec.ofInt 64 x).msb = decide (x < 0) := by
  obtain ⟨h1, h2⟩ := h
  rw [BitVec.msb_eq_toInt, BitVec.toInt_ofInt]
  congr 1
  rw [Int.bmod_def]
  simp only [eq_iff_iff]
  omega

theorem and_neg {x y : Int} (hx : I64 x) (hy : I64 y) : (bits .and .i64 x y < 0) = (x < 0 ∧ y < 0) := by
  have h : bits .and .i64 x y = (BitVec.ofInt 64 x &&& BitVec.ofInt 64 y).toInt := wrap_toNat _
  rw [h]
  have := BitVec.msb_eq_toInt (x := BitVec.ofInt 64 x &&& BitVec.ofInt 64 y)
  rw [BitVec.msb_and, neg_msb hx, neg_msb hy] at this
  simp only [eq_iff_iff]
  rw [← decide_eq_true_iff (p := _ < (0 : Int)), ← this]
  simp

theorem xor_neg {x y : Int} (hx : I64 x) (hy : I64 y) : (bits .xor .i64 x y < 0) = ¬ (x < 0 ↔ y < 0) := by
  have h : bits .xor .i64 x y = (BitVec.ofInt 64 x ^^^ BitVec.ofInt 64 y).toInt := wrap_toNat _
  rw [h]
  have := BitVec.msb_eq_toInt (x := BitVec.ofInt 64 x ^^^ BitVec.ofInt 64 y)
  rw [BitVec.msb_xor, neg_msb hx, neg_msb hy] at this
  simp only [eq_iff_iff]
  rw [← decide_eq_true_iff (p := _ < (0 : Int)), ← this]
  by_cases h1 : x < 0 <;> by_cases h2 : y < 0 <;> simp [h1, h2]

theorem bitsI (op : BinOp) (x y : Int) : I64 (bits op .i64 x y) := ⟨bits_lo_i64 op x y, bits_hi_i64 op x y⟩

theorem add_neg {a b s : Int} (ha : I64 a) (hb : I64 b) (hs : I64 s) : (bits .and .i64 (bits .xor .i64 a s) (bits .xor .i64 b s) < 0) = (¬ (a < 0 ↔ s < 0) ∧ ¬ (b < 0 ↔ s < 0)) := by
  rw [and_neg (bitsI ..) (bitsI ..), xor_neg ha hs, xor_neg hb hs]

theorem add_any (a b : Int) (w : World) (ha : I64 a) (hb : I64 b) (hr : I64 (a + b)) :
    Calls Try.prog 63 #[.int .i64 a, .int .i64 b] w fun e w' => e = .returned (.tuple #[.int .i64 (a + b), .bool true]) ∧ w = w' := by
  have hN := add_neg ha hb hr
  have hn : ¬ (bits .and .i64 (bits .xor .i64 a (a + b)) (bits .xor .i64 b (a + b)) < 0) := by rw [hN]; omega
  clear hN
  obtain ⟨h1, h2⟩ := ha
  obtain ⟨h3, h4⟩ := hb
  obtain ⟨h5, h6⟩ := hr
  go_enter Try.func63, Try.ntmps63
  go_wp2
  go_ret2
  exact ⟨rfl, rfl⟩

theorem wrapI (x : Int) : I64 (wrap64 x) := by
  unfold I64 wrap64
  omega

theorem add_over (a b : Int) (w : World) (ha : I64 a) (hb : I64 b) (hr : ¬ I64 (a + b)) :
    Calls Try.prog 63 #[.int .i64 a, .int .i64 b] w fun e w' => e = .returned (.tuple #[.int .i64 0, .bool false]) ∧ w = w' := by
  have hN := add_neg ha hb (wrapI (a + b))
  have hn : bits .and .i64 (bits .xor .i64 a (wrap64 (a + b))) (bits .xor .i64 b (wrap64 (a + b))) < 0 := by
    rw [hN]
    unfold I64 at *
    unfold wrap64
    omega
  clear hN ha hb hr
  go_enter Try.func63, Try.ntmps63
  go_wp2
  go_ret2
  exact ⟨rfl, rfl⟩

def downF (p g : Int) : Int := if p < 0 ∨ g < 1 then 0 else p / g * g
theorem down_ok {p g : Int} (hp : 0 ≤ p) (hg : 1 ≤ g) : 0 ≤ p / g * g ∧ p / g * g ≤ p ∧ p < p / g * g + g := by
  have h1 : 0 ≤ p / g := Int.ediv_nonneg hp (by omega)
  have h2 := Int.emod_add_mul_ediv p g
  have h3 := Int.emod_nonneg p (show g ≠ 0 by omega)
  have h4 := Int.emod_lt_of_pos p (show 0 < g by omega)
  have h5 : g * (p / g) = p / g * g := Int.mul_comm ..
  have h6 : 0 ≤ p / g * g := Int.mul_nonneg h1 (by omega)
  omega

theorem down_any (p g : Int) (w : World) (hp : I64 p) (hg : I64 g) :
    Calls Try.prog 47 #[.int .i64 p, .int .i64 g] w fun e w' => e = .returned (.int .i64 (downF p g)) ∧ w = w' := by
  obtain ⟨h1, h2⟩ := hp
  obtain ⟨h3, h4⟩ := hg
  by_cases h5 : p < 0
  · go_enter Try.func47, Try.ntmps47
    go_wp2
    go_ret
    exact ⟨ret_int (by simp [downF, h5]), rfl⟩
  · by_cases h6 : g < 1
    · go_enter Try.func47, Try.ntmps47
      go_wp2
      go_ret
      exact ⟨ret_int (by simp [downF, h6]), rfl⟩
    · obtain ⟨d1, d2, d3⟩ := down_ok (p := p) (g := g) (by omega) (by omega)
      have hne : (g == 0) = false := by rw [beq_eq_false_iff_ne]; omega
      go_enter Try.func47, Try.ntmps47
      go_wp2
      go_ret
      exact ⟨ret_int (by unfold downF; rw [if_neg (by omega)]), rfl⟩

def upF (p g : Int) : Int × Bool := if p < 0 ∨ g < 1 then (0, false) else if p / g * g = p then (p, true) else (p / g * g + g, true)

end Fix
end Go.Proofs.Ytbnappiaomiciaa
namespace Go.Proofs.Ytbnappiaomiciaa
set_option linter.unusedVariables false
open Go.RowKit
section
variable {P : Program} {ops : Array Oper} {md : Region.Mode} {C : World → Prop}
/-- For so many rounds only operations ahead of n are ready, whatever is picked. -/
def reachB (md : Region.Mode) (ops : Array Oper) (n : Nat) : Nat → Array Bool → Bool
  | 0, _ => true
  | f + 1, done => (Region.ready md ops done).all fun i => decide (i < n) && reachB md ops n f (done.setIfInBounds i true)
def lexR (md : Region.Mode) (ops : Array Oper) (D : Array Bool) : Nat → Nat → Array Bool → Bool
  | 0, _, done => decide (done = D)
  | f + 1, k, done => (Region.ready md ops done).contains k && (Region.free md ops done k && lexR md ops D f (k + 1) (done.setIfInBounds k true))
theorem reach_in {n f i : Nat} {done : Array Bool} (h : reachB md ops n (f + 1) done = true) (hi : i ∈ Region.ready md ops done) : i < n ∧ reachB md ops n f (done.setIfInBounds i true) = true := by
  unfold reachB at h
  have := List.all_eq_true.1 h i hi
  simpa using this
theorem headR_first {n i : Nat} {oi : Oper} {v : Value} {L : Array Bool → Act → Prop} (hi : ops[i]? = some oi) (hsel : Region.noSelect ops = true) (hdone : ∀ done a, L done a → ∀ j ∈ Region.ready md ops done, n ≤ j) :
    ∀ (f : Nat) (done : Array Bool) (a : Act), reachB md ops n (f + 1) done = true →
      (∀ j oj, ops[j]? = some oj → j ≠ i → done.getD j true = false → (∀ e ∈ oj.after, Region.binds md e = true → e.on ≠ i) → oi.apart ops oj = true) →
      i ∈ Region.ready md ops done → YieldsIn P ops C oi v a →
      headQ P md ops C n L f (done.setIfInBounds i true) (a.put oi.dst v) → headQ P md ops C n L (f + 1) done a := by
  have sel := Region.noSelect_spec hsel
  intro f
  induction f with
  | zero =>
    intro done a hR _ hr hy H
    refine ⟨fun h => (by rw [h] at hr; cases hr), fun j hj => ?_⟩
    have hjn := (reach_in hR hj).1
    refine ⟨hjn, ?_⟩
    by_cases hji : j = i
    · subst hji
      exact hy.qOp hi H
    · exact absurd (hdone _ _ H j (ready_mono hj hji)) (by omega)
  | succ f ih =>
    intro done a hR hfree hr hy H
    refine ⟨fun h => (by rw [h] at hr; cases hr), fun j hj => ?_⟩
    have hun := (mem_ready.1 hr).1
    obtain ⟨hjn, hR'⟩ := reach_in hR hj
    refine ⟨hjn, ?_⟩
    by_cases hji : j = i
    · subst hji
      exact hy.qOp hi H
    · obtain ⟨hju, oj, hoj, hall⟩ := mem_ready.1 hj
      have hno : ∀ e ∈ oj.after, Region.binds md e = true → e.on ≠ i := by
        rintro e he hb rfl
        have h1 := hall e he hb
        rw [getD_both hun] at h1
        cases h1
      have h2 := qOp_put hoj (hfree j oj hoj hji hju hno) (fun cs b => sel i oi cs b hi) (fun cs b => sel j oj cs b hoj) hy (H.2 j (ready_mono hj hji)).2
      refine qOp_mono (fun a' h3 => ih (done.setIfInBounds j true) a' hR' (fun k ok hk hki hu hw => hfree k ok hk hki ?_ hw) (ready_mono hr (Ne.symm hji)) h3.1 ?_) h2
      · by_cases hjk : j = k
        · subst hjk
          exact hju
        · rwa [getD_set_ne true hjk] at hu
      · rw [Array.setIfInBounds_comm _ _ hji]
        exact h3.2
theorem headR_lex {n : Nat} {D : Array Bool} {Lq : Act → Prop} (hsel : Region.noSelect ops = true) (hD : ∀ j ∈ Region.ready md ops D, n ≤ j) :
    ∀ (l : List Oper) (k : Nat) (done : Array Bool) (a : Act), (∀ j, j < l.length → l[j]? = ops[k + j]?) → reachB md ops n l.length done = true →
    lexR md ops D l.length k done = true → wpQuiet P ops C Lq l a → headQ P md ops C n (fun done' a' => done' = D ∧ Lq a') l.length done a
  | [], k, done, a, _, _, hB, h => ⟨by simpa [lexR] using hB, h⟩
  | o :: l, k, done, a, hl, hR, hB, h => by
    simp only [List.length_cons] at hR
    have h0 : ops[k]? = some o := by simpa using (hl 0 (by simp)).symm
    simp only [List.length_cons, lexR, Bool.and_eq_true] at hB
    have hr : k ∈ Region.ready md ops done := by simpa using hB.1
    have hq : qOp P ops C k (wpQuiet P ops C Lq l) a := by unfold qOp; simp only [h0]; exact h
    obtain ⟨v, hy, hK⟩ := yieldsIn_of_qOp h0 hq
    have rest := headR_lex hsel hD l (k + 1) (done.setIfInBounds k true) (a.put o.dst v) (fun j hj => by
      have := hl (j + 1) (by simp; omega)
      rw [show k + (j + 1) = k + 1 + j by omega] at this
      simpa using this) (reach_in hR hr).2 hB.2.2 hK
    exact headR_first h0 hsel (fun done' a' hL => hL.1 ▸ hD) l.length done a hR (Region.free_spec h0 hB.2.1) hr hy rest
/-- The region: its first n operations in every world of the class; the rest from D on. -/
theorem wp_region_open {id : Nat} {Q : Exit → Act → World → Prop} {a : Act} {w : World} {l : List Oper} (n : Nat) (D : Array Bool) (hm : P.follows .mixedOrders = true)
    (hB : (Region.noSelect l.toArray && (decide (n ≤ l.length) && (reachB .any l.toArray n n (Array.replicate l.toArray.size false) && (lexR .any l.toArray D n 0 (Array.replicate l.toArray.size false) && (Region.ready .any l.toArray D).all fun j => decide (n ≤ j))))) = true)
    (hC : C { w with drawn := w.drawn + 1 }) (h : wpQuiet P l.toArray C (fun a' => ∀ w', C w' → wpAny P .any l.toArray Q (l.length - n) D a' w') (l.take n) a) : (Code.region id l.toArray true).wp P Q a w := by
  simp only [Bool.and_eq_true, decide_eq_true_eq] at hB
  obtain ⟨hsel, hn, hR, hL, hD⟩ := hB
  have htl : (l.take n).length = n := by simp; omega
  have H := headR_lex (P := P) (C := C) (md := .any) (n := n) (D := D) hsel (fun j hj => by simpa using List.all_eq_true.1 hD j hj) (l.take n) 0 _ a (fun j hj => by
    rw [htl] at hj
    simp [hj]) (by rw [htl]; exact hR) (by rw [htl]; exact hL) h
  have K := headQ_wp (Q := Q) (g := l.length - n) (fun done a' w' hw' hL => by
    obtain ⟨rfl, h1⟩ := hL
    exact h1 w' hw') _ _ a _ hC H
  rw [htl, show n + (l.length - n) = l.toArray.size by simp; omega] at K
  exact wp_region_any hm K
end
/-- An operation that only takes a part of what is there: whatever the world. -/
theorem yields_extract {P : Program} {ops : Array Oper} {o : Oper} {a : Act} (x : Operand) (i : Nat) (ho : o.op = .extract x i) (vs : Array Value) (v : Value) (hw : Region.wanted o (yielded ops a.tmps) = true) (hx : a.eval x = .tuple vs) (hv : vs[i]? = some v) : Yields P ops o v a :=
  .inl ⟨hw, fun w => by
    unfold execOp
    simp only [ho, hx]
    simp [go_sem, hv]⟩
theorem op_at {P : Program} {ops : Array Oper} {Q : Exit → Act → World → Prop} {i : Nat} {o : Oper} {K : Act → World → Prop} {a : Act} {w : World} (hi : ops[i]? = some o) (hw : Region.wanted o (yielded ops a.tmps) = true) (h : o.wp P a w K Q) : wpOp P ops Q i K a w := by
  unfold wpOp
  simp only [hi, hw, if_true]
  exact .inl h
end Go.Proofs.Ytbnappiaomiciaa
namespace Go.Proofs.Ytbnappiaomiciaa
set_option linter.unusedVariables false
open Go.RowKit
namespace Bit
set_option maxHeartbeats 1000000
set_option maxRecDepth 10000
section
variable {ops : Array Oper} {rest : List Oper} {o : Oper} {a : Act} {w : World} {Q : Exit → Act → World → Prop}
end
section
variable {ops : Array Oper} {C : World → Prop} {Q : Act → Prop} {a : Act} {o : Oper} {rest : List Oper}
end
theorem blk_of {w : World} {g : Nat} {t : TypeId} {cs cs' : Array Value} (h : cs = cs') (hb : Blk w g t cs) : Blk w g t cs' := h ▸ hb
end Bit
end Go.Proofs.Ytbnappiaomiciaa
namespace Go.Proofs.Ytbnappiaomiciaa
set_option linter.unusedVariables false
open Go.RowKit
namespace Mul
set_option maxHeartbeats 1000000
set_option maxRecDepth 10000
theorem and_low (n : Nat) (h : n < 2 ^ 64) : bits .and .u64 (n : Int) 4294967295 = ((n % 4294967296 : Nat) : Int) := by
  have h1 := bits_and_u64_nat n 4294967295 (by omega) (by decide)
  rw [show (4294967295 : Int) = ((4294967295 : Nat) : Int) from rfl, h1]
  have h2 := Nat.and_two_pow_sub_one_eq_mod n 32
  rw [show (2 : Nat) ^ 32 - 1 = 4294967295 from rfl, show (2 : Nat) ^ 32 = 4294967296 from rfl] at h2
  rw [h2]
theorem or_low (h l : Nat) (hh : h < 4294967296) (hl : l < 4294967296) : bits .or .u64 ((h * 4294967296 : Nat) : Int) (l : Int) = ((h * 4294967296 + l : Nat) : Int) := by
  rw [bits_or_u64_nat _ _ (by omega) (by omega)]
  congr 1
  have h1 := Nat.two_pow_add_eq_or_of_lt (b := l) (i := 32) (by omega) h
  rw [Nat.mul_comm h]
  exact h1.symm
theorem mul_le32 {x y : Nat} (hx : x < 4294967296) (hy : y < 4294967296) : x * y ≤ 18446744065119617025 := by
  have := Nat.mul_le_mul (show x ≤ 4294967295 by omega) (show y ≤ 4294967295 by omega)
  omega
/-- The names of a product's parts. -/
theorem wide_law (a b : Nat) (ha : a < 2 ^ 64) (hb : b < 2 ^ 64) : ∃ a1 a0 b1 b0 least l1 m0 mid o0 ml other h0 mh h1 oh h2 sh ll lo : Nat,
    ((a : Int) / 4294967296 = a1 ∧ bits .and .u64 (a : Int) 4294967295 = a0 ∧ (b : Int) / 4294967296 = b1 ∧ bits .and .u64 (b : Int) 4294967295 = b0) ∧
    (IntKind.u64.wrap ((a0 : Int) * b0) = least ∧ (least : Int) / 4294967296 = l1 ∧ IntKind.u64.wrap ((a1 : Int) * b0) = m0 ∧ IntKind.u64.wrap ((m0 : Int) + l1) = mid ∧ IntKind.u64.wrap ((a0 : Int) * b1) = o0 ∧ bits .and .u64 (mid : Int) 4294967295 = ml) ∧
    (IntKind.u64.wrap ((o0 : Int) + ml) = other ∧ IntKind.u64.wrap ((a1 : Int) * b1) = h0 ∧ (mid : Int) / 4294967296 = mh ∧ IntKind.u64.wrap ((h0 : Int) + mh) = h1 ∧ (other : Int) / 4294967296 = oh ∧ IntKind.u64.wrap ((h1 : Int) + oh) = h2) ∧
    (IntKind.u64.wrap ((other : Int) * 4294967296) = sh ∧ bits .and .u64 (least : Int) 4294967295 = ll ∧ bits .or .u64 (sh : Int) (ll : Int) = lo) ∧ h2 = a * b / 2 ^ 64 ∧ lo = a * b % 2 ^ 64 := by
  have e : a * b = (a / 4294967296) * (b / 4294967296) * 18446744073709551616 + ((a / 4294967296) * (b % 4294967296) + (a % 4294967296) * (b / 4294967296)) * 4294967296 + (a % 4294967296) * (b % 4294967296) := by
    have h1 : a = a / 4294967296 * 4294967296 + a % 4294967296 := by omega
    have h2 : b = b / 4294967296 * 4294967296 + b % 4294967296 := by omega
    generalize a / 4294967296 = x at *
    generalize a % 4294967296 = y at *
    generalize b / 4294967296 = u at *
    generalize b % 4294967296 = v at *
    subst h1 h2
    rw [Nat.add_mul, Nat.mul_add, Nat.mul_add]
    have e1 : x * 4294967296 * (u * 4294967296) = x * u * 18446744073709551616 := by rw [Nat.mul_mul_mul_comm]
    have e2 : x * 4294967296 * v = x * v * 4294967296 := by rw [Nat.mul_right_comm]
    have e3 : y * (u * 4294967296) = y * u * 4294967296 := by rw [Nat.mul_assoc]
    rw [e1, e2, e3, Nat.add_mul]
    omega
  have g1 : a / 4294967296 < 4294967296 := by omega
  have g2 : b / 4294967296 < 4294967296 := by omega
  have g3 : a % 4294967296 < 4294967296 := by omega
  have g4 : b % 4294967296 < 4294967296 := by omega
  have q0 := mul_le32 g3 g4
  have q1 := mul_le32 g1 g4
  have q2 := mul_le32 g3 g2
  have q3 := mul_le32 g1 g2
  have c0 := and_low a ha
  have c1 := and_low b hb
  have w0 : ∀ n : Nat, n < 18446744073709551616 → IntKind.u64.wrap (n : Int) = n := fun n hn => IntWalk.u64_in _ (by omega)
  refine ⟨a / 4294967296, a % 4294967296, b / 4294967296, b % 4294967296, a % 4294967296 * (b % 4294967296), a % 4294967296 * (b % 4294967296) / 4294967296, a / 4294967296 * (b % 4294967296), a / 4294967296 * (b % 4294967296) + a % 4294967296 * (b % 4294967296) / 4294967296, a % 4294967296 * (b / 4294967296), (a / 4294967296 * (b % 4294967296) + a % 4294967296 * (b % 4294967296) / 4294967296) % 4294967296,
    a % 4294967296 * (b / 4294967296) + (a / 4294967296 * (b % 4294967296) + a % 4294967296 * (b % 4294967296) / 4294967296) % 4294967296, a / 4294967296 * (b / 4294967296), (a / 4294967296 * (b % 4294967296) + a % 4294967296 * (b % 4294967296) / 4294967296) / 4294967296, a / 4294967296 * (b / 4294967296) + (a / 4294967296 * (b % 4294967296) + a % 4294967296 * (b % 4294967296) / 4294967296) / 4294967296, (a % 4294967296 * (b / 4294967296) + (a / 4294967296 * (b % 4294967296) + a % 4294967296 * (b % 4294967296) / 4294967296) % 4294967296) / 4294967296, a / 4294967296 * (b / 4294967296) + (a / 4294967296 * (b % 4294967296) + a % 4294967296 * (b % 4294967296) / 4294967296) / 4294967296 + (a % 4294967296 * (b / 4294967296) + (a / 4294967296 * (b % 4294967296) + a % 4294967296 * (b % 4294967296) / 4294967296) % 4294967296) / 4294967296,
    (a % 4294967296 * (b / 4294967296) + (a / 4294967296 * (b % 4294967296) + a % 4294967296 * (b % 4294967296) / 4294967296) % 4294967296) % 4294967296 * 4294967296, a % 4294967296 * (b % 4294967296) % 4294967296, (a % 4294967296 * (b / 4294967296) + (a / 4294967296 * (b % 4294967296) + a % 4294967296 * (b % 4294967296) / 4294967296) % 4294967296) % 4294967296 * 4294967296 + a % 4294967296 * (b % 4294967296) % 4294967296, ?_⟩
  rw [e]
  have p0 : ∀ x y : Nat, x * y < 18446744073709551616 → IntKind.u64.wrap ((x : Int) * (y : Int)) = ((x * y : Nat) : Int) := fun x y h => by rw [← Int.natCast_mul]; exact w0 _ h
  have p1 := p0 _ _ (show a % 4294967296 * (b % 4294967296) < _ by omega)
  have p2 := p0 _ _ (show a / 4294967296 * (b % 4294967296) < _ by omega)
  have p3 := p0 _ _ (show a % 4294967296 * (b / 4294967296) < _ by omega)
  have p4 := p0 _ _ (show a / 4294967296 * (b / 4294967296) < _ by omega)
  generalize hx0 : a % 4294967296 * (b % 4294967296) = x0 at *
  generalize hx1 : a / 4294967296 * (b % 4294967296) = x1 at *
  generalize hx2 : a % 4294967296 * (b / 4294967296) = x2 at *
  generalize hx3 : a / 4294967296 * (b / 4294967296) = x3 at *
  refine ⟨⟨by omega, c0, by omega, c1⟩, ⟨p1, by omega, p2, ?_, p3, and_low _ (by omega)⟩, ⟨?_, p4, by omega, ?_, by omega, ?_⟩, ⟨?_, and_low _ (by omega), ?_⟩, by omega, by omega⟩
  · rw [← Int.natCast_add]; exact w0 _ (by omega)
  · rw [← Int.natCast_add]; exact w0 _ (by omega)
  · rw [← Int.natCast_add]; exact w0 _ (by omega)
  · rw [← Int.natCast_add]; exact w0 _ (by omega)
  · rw [IntKind.wrap_u64]; omega
  · exact or_low _ _ (by omega) (by omega)
theorem xor_zero (a : Nat) (ha : a < 2 ^ 63) : bits .xor .i64 (a : Int) 0 = a := by
  have h : bits .xor .i64 (a : Int) 0 = (BitVec.ofInt 64 (a : Int) ^^^ BitVec.ofInt 64 0).toInt := Fix.wrap_toNat _
  rw [h, show BitVec.ofInt 64 0 = 0#64 from by decide, BitVec.xor_zero, BitVec.toInt_ofInt, Int.bmod_def]
  omega
theorem xor_pos (a b : Nat) (ha : a < 2 ^ 63) (hb : b < 2 ^ 63) : ∃ x : Nat, bits .xor .i64 (a : Int) (b : Int) = x ∧ x < 2 ^ 63 := by
  have h1 := Fix.xor_neg (x := (a : Int)) (y := (b : Int)) ⟨by omega, by omega⟩ ⟨by omega, by omega⟩
  have h2 := bits_hi_i64 .xor (a : Int) (b : Int)
  have h3 : ¬ bits .xor .i64 (a : Int) (b : Int) < 0 := by rw [h1]; omega
  exact ⟨(bits .xor .i64 (a : Int) (b : Int)).toNat, by omega, by omega⟩
theorem sign_pos (a : Nat) (ha : a < 2 ^ 63) (w : World) : Calls Try.prog 77 #[.int .i64 a] w fun e w' => e = .returned (.int .i64 0) ∧ w = w' := by
  have h0 : (a : Int) / 9223372036854775808 = 0 := by omega
  go_enter Try.func77, Try.ntmps77
  go_wp2_with fail
  go_ret
  exact ⟨rfl, rfl⟩
theorem size_pos (a : Nat) (ha : a < 2 ^ 63) (w : World) : Calls Try.prog 76 #[.int .i64 a] w fun e w' => e = .returned (.int .u64 a) ∧ w = w' := by
  have h1 := xor_zero a ha
  have h2 : (a : Int) ≤ 9223372036854775807 := by omega
  go_enter Try.func76, Try.ntmps76
  go_wp2_with (first | (go_at_call 77; refine (sign_pos _ ha _).mono ?_; rintro e w' ⟨rfl, rfl⟩) | fail)
  go_ret
  exact ⟨rfl, rfl⟩
theorem wide_any (a b : Nat) (ha : a < 2 ^ 64) (hb : b < 2 ^ 64) (w : World) : Calls Try.prog 75 #[.int .u64 a, .int .u64 b] w fun e w' => e = .returned (.agg #[.int .u64 (a * b / 2 ^ 64 : Nat), .int .u64 (a * b % 2 ^ 64 : Nat)]) ∧ Below w.heap.size w w' := by
  obtain ⟨a1, a0, b1, b0, least, l1, m0, mid, o0, ml, other, h0, mh, h1, oh, h2, sh, ll, lo, ⟨q1, q2, q3, q4⟩, ⟨q5, q6, q7, q8, q9, q10⟩, ⟨q11, q12, q13, q14, q15, q16⟩, ⟨q17, q18, q19⟩, hH, hL⟩ := wide_law a b ha hb
  rw [← hH, ← hL]
  clear hH hL
  go_enter Try.func75, Try.ntmps75
  go_wp2_with fail
  refine bodyPost_ret (v := .agg #[.int .u64 h2, .int .u64 lo]) (by simp [results, Try.results75, go_sem]; first | done | rfl | exact ⟨rfl, rfl⟩) rfl ⟨rfl, ?_⟩
  (repeat (first | with_reducible exact Below.refl _ _ | (with_reducible assumption) | (with_reducible refine below_alloc ?_ _) | (with_reducible refine below_ext (w1 := ?_) ?_ ?_; rotate_left 2; (with_reducible assumption)) | (with_reducible refine Below.setCell ?_ ?_ _; rotate_left; ((try simp) <;> omega)) | (with_reducible refine Below.drew ?_) | (with_reducible refine below_drewN ?_ _) | fail))
def mulF (n : Nat) : Int × Bool := if n < 2 ^ 63 then ((n : Int), true) else (0, false)
def MulPost (n : Nat) (w : World) (e : Ending) (w' : World) : Prop := e = .returned (.tuple #[.int .i64 (mulF n).1, .bool (mulF n).2]) ∧ Below w.heap.size w w'
theorem mul_pos (a b : Nat) (ha : a < 2 ^ 63) (hb : b < 2 ^ 63) (w : World) : Calls Try.prog 68 #[.int .i64 a, .int .i64 b] w (MulPost (a * b) w) := by
  obtain ⟨x, hx, hx2⟩ := xor_pos a b ha hb
  have hn : a * b < 2 ^ 63 * 2 ^ 63 := Nat.mul_lt_mul'' ha hb
  have hW := Lib.hid (fun W => wide_any a b (by omega) (by omega) W)
  generalize hnn : a * b = n at *
  clear hnn
  have hlo : n % 2 ^ 64 < 2 ^ 64 := Nat.mod_lt _ (by decide)
  by_cases h1 : n / 2 ^ 64 = 0
  · by_cases h2 : n < 2 ^ 63
    · have hF : Hid (mulF n = ((n : Int), true)) := Lib.hid (by unfold mulF; rw [if_pos h2])
      rw [h1, Nat.mod_eq_of_lt (by omega)] at hW
      clear h1 hlo hn
      have h3 := xor_zero n h2
      have h4 : (n : Int) ≤ 9223372036854775807 := by omega
      go_enter Try.func68, Try.ntmps68
      go_wp2_with (first
        | ((go_at_call 76); (with_reducible refine (size_pos a ha _).mono ?_); rintro e w' ⟨rfl, rfl⟩)
        | ((go_at_call 76); (with_reducible refine (size_pos b hb _).mono ?_); rintro e w' ⟨rfl, rfl⟩)
        | (go_at_call 75; refine (hW.out _).mono ?_; rintro e w1 ⟨rfl, hb1⟩; (have hcb1 := fun (b o : Nat) (h : b < _) => hb1.cell (p := ⟨b, o, none⟩) h))
        | (go_at_call 77; refine (sign_pos x hx2 _).mono ?_; rintro e w' ⟨rfl, rfl⟩)
        | fail)
      go_ret2
      exact ⟨by rw [hF.out]; rfl, by (repeat (first | with_reducible exact Below.refl _ _ | (with_reducible assumption) | (with_reducible refine below_alloc ?_ _) | (with_reducible refine below_ext (w1 := ?_) ?_ ?_; rotate_left 2; (with_reducible assumption)) | (with_reducible refine Below.setCell ?_ ?_ _; rotate_left; ((try simp) <;> omega)) | (with_reducible refine Below.drew ?_) | (with_reducible refine below_drewN ?_ _) | fail))⟩
    · have hF : Hid (mulF n = (0, false)) := Lib.hid (by unfold mulF; rw [if_neg h2])
      rw [h1, Nat.mod_eq_of_lt (by omega)] at hW
      clear h1 hlo
      have h4 : (9223372036854775807 : Int) < (n : Int) := by omega
      clear hn
      go_enter Try.func68, Try.ntmps68
      go_wp2_with (first
        | ((go_at_call 76); (with_reducible refine (size_pos a ha _).mono ?_); rintro e w' ⟨rfl, rfl⟩)
        | ((go_at_call 76); (with_reducible refine (size_pos b hb _).mono ?_); rintro e w' ⟨rfl, rfl⟩)
        | (go_at_call 75; refine (hW.out _).mono ?_; rintro e w1 ⟨rfl, hb1⟩; (have hcb1 := fun (b o : Nat) (h : b < _) => hb1.cell (p := ⟨b, o, none⟩) h))
        | (go_at_call 77; refine (sign_pos x hx2 _).mono ?_; rintro e w' ⟨rfl, rfl⟩)
        | fail)
      go_ret2
      exact ⟨by rw [hF.out]; rfl, by (repeat (first | with_reducible exact Below.refl _ _ | (with_reducible assumption) | (with_reducible refine below_alloc ?_ _) | (with_reducible refine below_ext (w1 := ?_) ?_ ?_; rotate_left 2; (with_reducible assumption)) | (with_reducible refine Below.setCell ?_ ?_ _; rotate_left; ((try simp) <;> omega)) | (with_reducible refine Below.drew ?_) | (with_reducible refine below_drewN ?_ _) | fail))⟩
  · have hF : Hid (mulF n = (0, false)) := Lib.hid (by unfold mulF; rw [if_neg (by omega)])
    have h4 : (((n / 2 ^ 64 : Nat) : Int) == (0 : Int)) = false := by rw [beq_eq_false_iff_ne]; omega
    have h5 : (((n / 2 ^ 64 : Nat) : Int) != (0 : Int)) = true := by rw [bne_iff_ne]; omega
    generalize n / 2 ^ 64 = hi at *
    generalize n % 2 ^ 64 = lo at *
    clear h1 hn hlo
    go_enter Try.func68, Try.ntmps68
    go_wp2_with (first
      | ((go_at_call 76); (with_reducible refine (size_pos a ha _).mono ?_); rintro e w' ⟨rfl, rfl⟩)
      | ((go_at_call 76); (with_reducible refine (size_pos b hb _).mono ?_); rintro e w' ⟨rfl, rfl⟩)
      | (go_at_call 75; refine (hW.out _).mono ?_; rintro e w1 ⟨rfl, hb1⟩; (have hcb1 := fun (b o : Nat) (h : b < _) => hb1.cell (p := ⟨b, o, none⟩) h))
      | (go_at_call 77; refine (sign_pos x hx2 _).mono ?_; rintro e w' ⟨rfl, rfl⟩)
      | fail)
    go_ret2
    exact ⟨by rw [hF.out]; rfl, by (repeat (first | with_reducible exact Below.refl _ _ | (with_reducible assumption) | (with_reducible refine below_alloc ?_ _) | (with_reducible refine below_ext (w1 := ?_) ?_ ?_; rotate_left 2; (with_reducible assumption)) | (with_reducible refine Below.setCell ?_ ?_ _; rotate_left; ((try simp) <;> omega)) | (with_reducible refine Below.drew ?_) | (with_reducible refine below_drewN ?_ _) | fail))⟩
theorem notional_any (p q : Nat) (hp : p < 2 ^ 63) (hq : q < 2 ^ 63) (w : World) : Calls Try.prog 54 #[.int .i64 p, .int .i64 q] w (MulPost (p * q) w) := by
  have hM := Lib.hid (fun W => mul_pos p q hp hq W)
  go_enter Try.func54, Try.ntmps54
  go_wp2_with (first | (go_at_call 68; refine (hM.out _).mono ?_; rintro e w' ⟨rfl, hb1⟩) | fail)
  go_ret2
  exact ⟨rfl, hb1⟩
end Mul
end Go.Proofs.Ytbnappiaomiciaa
