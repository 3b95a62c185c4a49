/- This text proves plain laws of what LadderSorts holds round by round, and what the takes of its best level make of a ladder. It has no conditions but those that it states. -/
import Derived.Test.YtbhidcfhpkljbaaLadL
import Derived.Test.YtbhidcfhpkljbaaLadderNils
namespace Go.Proofs.Ytbhidcfhpkljbaa
set_option linter.unusedVariables false
open Go.RowKit
namespace Lad
/-- The cells of 'queues'. -/
def BCl (p : Nat → Bool) (cs : Array Value) : Prop := cs.size = 40 ∧ ∀ j, j < 40 → cs[j]? = some (.bool (p j))
def markB (p : Nat → Bool) (k : Nat) : Nat → Bool := fun j => if j = k then true else p j
theorem bcl_new : BCl (fun _ => false) (madeCells (Value.bool false).cells (40 * 1)) := by
  refine ⟨size_madeCells _ _, fun j hj => ?_⟩
  rw [madeCells_all (v := .bool false) (fun i hi => by
    have : i = 0 := by simp [Value.cells] at hi; omega
    subst this; rfl) (by simp [Value.cells]) _ _ (by omega)]
theorem BCl.set {p : Nat → Bool} {cs : Array Value} (h : BCl p cs) {k : Nat} (hk : k < 40) : BCl (markB p k) (cs.setIfInBounds k (.bool true)) := by
  obtain ⟨h1, h2⟩ := h
  refine ⟨by simp [h1], fun j hj => ?_⟩
  unfold markB
  by_cases e : j = k
  · subst e
    rw [Array.getElem?_setIfInBounds_self_of_lt (by omega), if_pos rfl]
  · rw [Array.getElem?_setIfInBounds_ne (fun h => e h.symm), h2 j hj, if_neg e]
/-- What stands ahead of a round of the second loop. -/
structure Rest (side : Int) (ps0 : List Int) (n : Nat) (last total : Int) (ps : List Int) (ls : List Lvl) (u : Nat → Nat) (f : Nat → Bool) : Prop where
  K : Kept side ps ls u
  tot : total + (ps.length : Int) = (ps0.length : Int)
  cnt : ∀ l ∈ ls, ps.count l.price = ps0.count l.price
  fl : ∀ l ∈ ls, f l.queue.toNat = false
  las : 0 < n → (1 ≤ last ∧ last ≤ 4611686018427387904) ∧ ∀ l ∈ ls, keyF side last < keyF side l.price
  len : ls.length + n ≤ 40
  t0 : 0 ≤ total
theorem rest_start {side : Int} {ps : List Int} {ls : List Lvl} {u : Nat → Nat} (K : Kept side ps ls u) (h : ps.length ≤ 40) : Rest side ps 0 0 0 ps ls u (fun _ => false) :=
  ⟨K, by omega, fun _ _ => rfl, fun _ _ => rfl, fun h => absurd h (by omega), by have := kept_len K; omega, Int.le_refl _⟩
theorem rest_end {side last total : Int} {n : Nat} {ps0 ps : List Int} {u : Nat → Nat} {f : Nat → Bool} (R : Rest side ps0 n last total ps [] u f) : total = (ps0.length : Int) := by
  have h : ps = [] := by
    cases ps with
    | nil => rfl
    | cons p t =>
      obtain ⟨l, hl, _⟩ := R.K.all p (by simp)
      simp at hl
  have := R.tot
  rw [h] at this
  simpa using this
theorem len_filter_ne (ps : List Int) (p : Int) : (ps.filter (· != p)).length + ps.count p = ps.length := by
  induction ps with
  | nil => rfl
  | cons a t ih =>
    by_cases h : a = p
    · subst h
      simp only [List.filter_cons, bne_self_eq_false, Bool.false_eq_true, if_false, List.count_cons_self, List.length_cons]
      omega
    · have : (a != p) = true := by simpa using h
      simp only [List.filter_cons, this, if_true, List.length_cons, List.count_cons_of_ne h]
      omega
theorem rest_step {side last total : Int} {n qn : Nat} {ps0 ps : List Int} {x : Lvl} {t : List Lvl} {u : Nat → Nat} {f : Nat → Bool} (R : Rest side ps0 n last total ps (x :: t) u f) (hq : x.queue = (qn : Int)) :
    Rest side ps0 (n + 1) x.price (total + (ps0.count x.price : Int)) (ps.filter (· != x.price)) t (clrU u qn) (markB f qn) := by
  have hpw := (up_pw side _).1 R.K.up
  rw [List.pairwise_cons] at hpw
  have hnd := R.K.qs
  rw [List.map_cons, List.nodup_cons] at hnd
  have hxr := R.K.rng x (by simp)
  have hne : ∀ l ∈ t, l.price ≠ x.price := fun l hl e => by
    have := hpw.1 l hl
    rw [e] at this
    omega
  refine ⟨kept_tail R.K hq, ?_, ?_, ?_, fun _ => ⟨hxr, fun l hl => hpw.1 l hl⟩, ?_, by have := R.t0; omega⟩
  · have h1 := len_filter_ne ps x.price
    have h2 := R.cnt x (by simp)
    have h3 := R.tot
    omega
  · intro l hl
    rw [List.count_filter (by simpa using hne l hl)]
    exact R.cnt l (by simp [hl])
  · intro l hl
    have h0 := R.K.q0 l (by simp [hl])
    unfold markB
    rw [if_neg]
    · exact R.fl l (by simp [hl])
    · intro e
      refine hnd.1 ?_
      rw [hq, ← e, Int.toNat_of_nonneg h0.1]
      exact List.mem_map.2 ⟨l, hl, rfl⟩
  · have := R.len
    simp only [List.length_cons] at this
    omega
/-- The levels behind k takes of the best one's orders. -/
def lsT (x : Lvl) (t : List Lvl) (m k : Nat) : List Lvl := if k < m then ⟨x.price, x.qty - 3 * (k : Int), x.orders - (k : Int), x.queue⟩ :: t else t
def uT (u : Nat → Nat) (qn m k : Nat) : Nat → Nat := if k < m then u else clrU u qn
theorem lsT_0 (x : Lvl) (t : List Lvl) (m : Nat) (h : 0 < m) : lsT x t m 0 = x :: t := by
  unfold lsT
  rw [if_pos h]
  simp
theorem lsT_end (x : Lvl) (t : List Lvl) (m : Nat) : lsT x t m m = t := by
  unfold lsT
  rw [if_neg (by omega)]
theorem uT_0 (u : Nat → Nat) (qn m : Nat) (h : 0 < m) : uT u qn m 0 = u := by
  unfold uT
  rw [if_pos h]
theorem uT_end (u : Nat → Nat) (qn m : Nat) : uT u qn m m = clrU u qn := by
  unfold uT
  rw [if_neg (by omega)]
def TakePost (g : Nat) (side : Int) (v : Value) (q : Int) (ls : List Lvl) (u : Nat → Nat) (w : World) (e : Ending) (w' : World) : Prop :=
  ∃ v', e = .returned (.tuple #[.int .i64 q, .int .i64 0]) ∧ La w' g side 40 v' ls u ∧ LStep g v v' w w'
section
variable {w : World} {g : Nat} {side : Int} {v : Value} {u : Nat → Nat}
theorem take_step {x : Lvl} {t : List Lvl} {m k qn : Nat} (L : La w g side 40 v (lsT x t m k) (uT u qn m k)) (hk : k < m) (hup : Up side (x :: t)) (ho : x.orders = (m : Int)) (hq : x.qty = 3 * x.orders) (hm : m ≤ 40) (hp : 1 ≤ x.price ∧ x.price ≤ 4611686018427387904) (hqn : x.queue = (qn : Int)) (hq40 : qn < 40) (hu : ∀ j, j < 4 → u j < 2 ^ 64) :
    Calls Try.prog 10 #[.pointer (some ⟨g, 0, none⟩), .int .i64 x.price, .int .i64 3, .bool true] w (TakePost g side v x.queue (lsT x t m (k + 1)) (uT u qn m (k + 1)) w) := by
  have e1 : lsT x t m k = ⟨x.price, x.qty - 3 * (k : Int), x.orders - (k : Int), x.queue⟩ :: t := by unfold lsT; rw [if_pos hk]
  have e2 : uT u qn m k = u := by unfold uT; rw [if_pos hk]
  rw [e1, e2] at L
  have hup2 : Up side (⟨x.price, x.qty - 3 * (k : Int), x.orders - (k : Int), x.queue⟩ :: t) := by
    have h := (up_pw side _).1 hup
    rw [List.pairwise_cons] at h
    exact (up_pw side _).2 (List.pairwise_cons.2 ⟨h.1, h.2⟩)
  have hst : Stands (keys side (⟨x.price, x.qty - 3 * (k : Int), x.orders - (k : Int), x.queue⟩ :: t)) (t.length + 1) (keyF side x.price) 0 := by
    refine ⟨Nat.zero_le _, fun j h => absurd h (by omega), fun j _ h => ?_⟩
    rcases Nat.eq_zero_or_pos j with h0 | h0
    · subst h0
      rw [keys_at (by simp)]
      exact Int.le_refl _
    · have h1 := hup2 0 j h0 (by simpa using h)
      rw [keys_at (j := 0) (by simp)] at h1
      exact Int.le_of_lt h1
  have hf : keys side (⟨x.price, x.qty - 3 * (k : Int), x.orders - (k : Int), x.queue⟩ :: t) 0 = keyF side x.price := by rw [keys_at (by simp)]; rfl
  by_cases hl : k + 1 < m
  · have e3 : lsT x t m (k + 1) = ⟨x.price, x.qty - 3 * (k : Int) - 3, x.orders - (k : Int) - 1, x.queue⟩ :: t := by
      unfold lsT
      rw [if_pos hl]
      congr 2
      · omega
      · omega
    have e4 : uT u qn m (k + 1) = u := by unfold uT; rw [if_pos hl]
    rw [e3, e4]
    refine (take_less (i := 0) L hup2 x.price 3 ⟨by omega, by omega⟩ (by simp) hst hf (l := ⟨x.price, x.qty - 3 * (k : Int), x.orders - (k : Int), x.queue⟩) rfl ⟨by omega, by simp; omega⟩ (by simp; omega) ⟨by simp; omega, by simp; omega⟩).mono ?_
    rintro e w' ⟨rfl, L', hs⟩
    exact ⟨v, rfl, L', hs⟩
  · have e3 : lsT x t m (k + 1) = t := by unfold lsT; rw [if_neg hl]
    have e4 : uT u qn m (k + 1) = clrU u qn := by unfold uT; rw [if_neg hl]
    rw [e3, e4]
    refine (take_last (i := 0) L hup2 x.price 3 ⟨by omega, by omega⟩ (by simp) hst hf (l := ⟨x.price, x.qty - 3 * (k : Int), x.orders - (k : Int), x.queue⟩) rfl ⟨by omega, by simp; omega⟩ (by simp; omega) (by simp; omega) hu 0 qn (by omega) (by omega) (by simp; omega)).mono ?_
    rintro e w' ⟨rfl, v', L', hs⟩
    rw [Nat.zero_mul, Nat.zero_add] at L'
    exact ⟨v', rfl, L', hs⟩
end
end Lad
end Go.Proofs.Ytbhidcfhpkljbaa
