/- This text proves plain laws of a book's side: how its levels and queues stand to its orders, and how they turn. It has no conditions but those that it states. -/
import Derived.Test.YtdhbioaoholcbaaBkA
namespace Go.Proofs.Ytdhbioaoholcbaa
set_option linter.unusedVariables false
namespace Bk
open Lad (Up Stands keys keyF busy setU clrU keys_at up_pw up_set up_insert up_erase busy_set busy_clr setU_lt clrU_lt)
open Fif (up up_same up_ne)
def atp (p : Int) (xs : List Sl) : List Sl := xs.filter fun x => decide (x.2.price = p)
def sumq : List Sl → Int
  | [] => 0
  | x :: l => x.2.qty + sumq l
theorem sumq_app (a b : List Sl) : sumq (a ++ b) = sumq a + sumq b := by
  induction a with
  | nil => simp [sumq]
  | cons x l ih => simp [sumq, ih]; omega
theorem sumq_le (l : List Sl) (M : Int) (h : ∀ x ∈ l, x.2.qty ≤ M) (h0 : 0 ≤ M) : sumq l ≤ M * (l.length : Int) := by
  induction l with
  | nil => simp [sumq]
  | cons x l ih =>
    have h1 := h x (by simp)
    have h2 := ih (fun y hy => h y (by simp [hy]))
    simp only [sumq, List.length_cons]
    have : M * ((l.length + 1 : Nat) : Int) = M * (l.length : Int) + M := by rw [Int.natCast_add, Int.mul_add]; simp
    omega
theorem sumq_nonneg (l : List Sl) (h : ∀ x ∈ l, 0 ≤ x.2.qty) : 0 ≤ sumq l := by
  induction l with
  | nil => simp [sumq]
  | cons x l ih =>
    have h1 := h x (by simp)
    have h2 := ih (fun y hy => h y (by simp [hy]))
    simp only [sumq]
    omega
theorem atp_app (p : Int) (a b : List Sl) : atp p (a ++ b) = atp p a ++ atp p b := List.filter_append ..
theorem atp_cons_pos (x : Sl) (b : List Sl) : atp x.2.price (x :: b) = x :: atp x.2.price b := by simp [atp]
theorem atp_cons_neg {p : Int} {x : Sl} (b : List Sl) (h : x.2.price ≠ p) : atp p (x :: b) = atp p b := by simp [atp, h]
/-- A level that tells of the orders at its price. -/
structure LV (most : Nat) (xs : List Sl) (L : Nat → List Nat) (l : Lvl) : Prop where
  orders : l.orders = ((atp l.price xs).length : Int)
  qty : l.qty = sumq (atp l.price xs)
  some : 1 ≤ l.orders
  rng : 1 ≤ l.price ∧ l.price ≤ 1099511627776
  q0 : 0 ≤ l.queue ∧ l.queue < (most : Int)
  list : L l.queue.toNat = (atp l.price xs).map (·.1)
structure SI (n : Int) (most : Nat) (xs : List Sl) (ls : List Lvl) (u : Nat → Nat) (L : Nat → List Nat) : Prop where
  up : Up n ls
  lv : ∀ l ∈ ls, LV most xs L l
  all : ∀ x ∈ xs, ∃ l ∈ ls, l.price = x.2.price
  qs : (ls.map (·.queue)).Nodup
  bz : ∀ j : Nat, busy u j = true ↔ (j : Int) ∈ ls.map (·.queue)
  emp : ∀ j : Nat, (j : Int) ∉ ls.map (·.queue) → L j = []
  ul : ∀ j, j < 4 → u j < 2 ^ 64
  len : ls.length ≤ most
theorem si_start (n : Int) (most : Nat) : SI n most [] [] (fun _ => 0) (fun _ => []) :=
  ⟨fun i j _ h => absurd h (by simp), by simp, by simp, by simp, fun j => by simp [busy], fun _ _ => rfl, fun _ _ => by simp, by simp⟩
section
variable {n : Int} {most : Nat} {xs : List Sl} {ls : List Lvl} {u : Nat → Nat} {L : Nat → List Nat}
theorem up_prices {a b : Lvl} (S : Up n ls) (ha : a ∈ ls) (hb : b ∈ ls) (h : a.price = b.price) : a = b := by
  obtain ⟨i, hi, rfl⟩ := List.mem_iff_getElem.1 ha
  obtain ⟨j, hj, rfl⟩ := List.mem_iff_getElem.1 hb
  have hk : keys n ls i = keys n ls j := by rw [keys_at hi, keys_at hj, h]
  rcases Nat.lt_trichotomy i j with e | e | e
  · have := S i j e hj
    omega
  · subst e; rfl
  · have := S j i e hi
    omega
theorem mem_set_iff {i : Nat} {l x y : Lvl} (hup : Up n ls) (hl : ls[i]? = some l) (h : y ∈ ls.set i x) : y = x ∨ (y ∈ ls ∧ y.price ≠ l.price) := by
  obtain ⟨hi, rfl⟩ := List.getElem?_eq_some_iff.1 hl
  obtain ⟨j, hj, rfl⟩ := List.mem_iff_getElem.1 h
  rw [List.length_set] at hj
  rw [List.getElem_set]
  by_cases e : i = j
  · rw [if_pos e]; exact .inl rfl
  · rw [if_neg e]
    refine .inr ⟨List.getElem_mem hj, fun hp => ?_⟩
    have hk : keys n ls i = keys n ls j := by rw [keys_at hi, keys_at hj, hp]
    rcases Nat.lt_or_gt_of_ne e with e | e
    · have := hup i j e hj
      omega
    · have := hup j i e hi
      omega
theorem queue_ne {a b : Lvl} (hq : (ls.map (·.queue)).Nodup) (ha : a ∈ ls) (hb : b ∈ ls) (h : a.price ≠ b.price) : a.queue ≠ b.queue := by
  obtain ⟨i, hi, rfl⟩ := List.mem_iff_getElem.1 ha
  obtain ⟨j, hj, rfl⟩ := List.mem_iff_getElem.1 hb
  intro e
  have hij : i = j := by
    have h1 := List.pairwise_iff_getElem.1 hq
    rcases Nat.lt_trichotomy i j with e1 | e1 | e1
    · exact absurd (by rw [List.getElem_map, List.getElem_map]; exact e) (h1 i j (by simpa using hi) (by simpa using hj) e1)
    · exact e1
    · exact absurd (by rw [List.getElem_map, List.getElem_map]; exact e.symm) (h1 j i (by simpa using hj) (by simpa using hi) e1)
  subst hij
  exact h rfl
theorem map_set_same {i : Nat} {l x : Lvl} (hl : ls[i]? = some l) (hx : x.queue = l.queue) : (ls.set i x).map (·.queue) = ls.map (·.queue) := by
  obtain ⟨hi, rfl⟩ := List.getElem?_eq_some_iff.1 hl
  rw [List.map_set, hx]
  have h2 : (ls[i]).queue = (ls.map (·.queue))[i]'(by simpa using hi) := by simp
  rw [h2, List.set_getElem_self]
/-- An order comes to a level that is there. -/
theorem si_add (S : SI n most xs ls u L) {i : Nat} {l : Lvl} (hl : ls[i]? = some l) (k : Nat) (o : Ord) (ho : o.price = l.price) :
    SI n most (xs ++ [(k, o)]) (ls.set i ⟨l.price, l.qty + o.qty, l.orders + 1, l.queue⟩) u (up L l.queue.toNat (L l.queue.toNat ++ [k])) := by
  have hml : l ∈ ls := List.mem_of_getElem? hl
  have V := S.lv l hml
  have hmq := map_set_same (x := ⟨l.price, l.qty + o.qty, l.orders + 1, l.queue⟩) hl rfl
  have e1 : atp l.price (xs ++ [(k, o)]) = atp l.price xs ++ [(k, o)] := by
    rw [atp_app]
    congr 1
    simp [atp, ho]
  refine ⟨up_set S.up hl rfl, ?_, ?_, by rw [hmq]; exact S.qs, by rw [hmq]; exact S.bz, ?_, S.ul, by rw [List.length_set]; exact S.len⟩
  · intro y hy
    rcases mem_set_iff S.up hl hy with rfl | ⟨hy, hne⟩
    · refine ⟨?_, ?_, ?_, V.rng, V.q0, ?_⟩
      · show l.orders + 1 = _
        rw [e1, V.orders]; simp
      · show l.qty + o.qty = _
        rw [e1, V.qty, sumq_app]; simp [sumq]
      · have := V.some
        show 1 ≤ l.orders + 1
        omega
      · show up L l.queue.toNat _ l.queue.toNat = _
        rw [up_same, e1, V.list]; simp
    · have W := S.lv y hy
      have e2 : atp y.price (xs ++ [(k, o)]) = atp y.price xs := by
        rw [atp_app]
        have : atp y.price [(k, o)] = [] := by simp [atp, ho]; exact fun e => hne e.symm
        rw [this, List.append_nil]
      have hq := queue_ne S.qs hy hml hne
      refine ⟨by rw [e2]; exact W.orders, by rw [e2]; exact W.qty, W.some, W.rng, W.q0, ?_⟩
      rw [up_ne, e2]
      · exact W.list
      · have h1 := V.q0; have h2 := W.q0; omega
  · intro x hx
    rcases List.mem_append.1 hx with hx | hx
    · obtain ⟨y, hy, e⟩ := S.all x hx
      by_cases hp : y.price = l.price
      · exact ⟨⟨l.price, l.qty + o.qty, l.orders + 1, l.queue⟩, List.mem_of_getElem? (i := i) (by rw [List.getElem?_set_self (List.getElem?_eq_some_iff.1 hl).1]), by show l.price = _; rw [← hp]; exact e⟩
      · refine ⟨y, ?_, e⟩
        obtain ⟨j, hj, rfl⟩ := List.mem_iff_getElem.1 hy
        refine List.mem_iff_getElem.2 ⟨j, by rw [List.length_set]; exact hj, ?_⟩
        rw [List.getElem_set, if_neg]
        rintro rfl
        obtain ⟨hi, rfl⟩ := List.getElem?_eq_some_iff.1 hl
        exact hp rfl
    · obtain rfl := List.mem_singleton.1 hx
      exact ⟨⟨l.price, l.qty + o.qty, l.orders + 1, l.queue⟩, List.mem_of_getElem? (i := i) (by rw [List.getElem?_set_self (List.getElem?_eq_some_iff.1 hl).1]), ho.symm⟩
  · intro j hj
    rw [hmq] at hj
    rw [up_ne]
    · exact S.emp j hj
    · rintro rfl
      exact hj (List.mem_map.2 ⟨l, hml, by have := V.q0; omega⟩)
theorem mem_ins {i : Nat} {x y : Lvl} : y ∈ ls.take i ++ x :: ls.drop i ↔ y = x ∨ y ∈ ls := by
  have h : y ∈ ls ↔ y ∈ ls.take i ∨ y ∈ ls.drop i := by rw [← List.mem_append, List.take_append_drop]
  rw [h, List.mem_append, List.mem_cons]
  constructor
  · rintro (h | h | h)
    · exact .inr (.inl h)
    · exact .inl h
    · exact .inr (.inr h)
  · rintro (h | h | h)
    · exact .inr (.inl h)
    · exact .inl h
    · exact .inr (.inr h)
theorem not_there {p : Int} {i : Nat} (hup : Up n ls) (hst : Stands (keys n ls) ls.length (keyF n p) i) (hnf : ¬ (i < ls.length ∧ keys n ls i = keyF n p)) : ∀ y ∈ ls, y.price ≠ p := by
  intro y hy e
  obtain ⟨j, hj, rfl⟩ := List.mem_iff_getElem.1 hy
  have k1 := keys_at (side := n) hj
  rw [e] at k1
  rcases Nat.lt_or_ge j i with h | h
  · have := hst.lo j h
    omega
  · rcases Nat.lt_or_ge i j with h2 | h2
    · have h3 := hup i j h2 hj
      have h4 := hst.hi i (Nat.le_refl _) (by omega)
      omega
    · have : i = j := by omega
      subst this
      exact hnf ⟨hj, k1⟩
/-- An order comes, and a level for it. -/
theorem si_fresh (S : SI n most xs ls u L) {i qn k : Nat} {o : Ord} (hp : 1 ≤ o.price ∧ o.price ≤ 1099511627776) (hst : Stands (keys n ls) ls.length (keyF n o.price) i) (hnf : ¬ (i < ls.length ∧ keys n ls i = keyF n o.price)) (hq : qn < most) (hfree : busy u qn = false) (hroom : ls.length < most) :
    SI n most (xs ++ [(k, o)]) (ls.take i ++ ⟨o.price, o.qty, 1, qn⟩ :: ls.drop i) (setU u qn) (up L qn (L qn ++ [k])) := by
  have hnt := not_there S.up hst hnf
  have hnx : ∀ x ∈ xs, x.2.price ≠ o.price := fun x hx e => by
    obtain ⟨l, hl, e2⟩ := S.all x hx
    exact hnt l hl (e2.trans e)
  have hnq : (qn : Int) ∉ ls.map (·.queue) := fun h => by
    have := (S.bz qn).2 h
    rw [hfree] at this
    cases this
  have hL : L qn = [] := S.emp qn hnq
  have hperm : ((ls.take i ++ ⟨o.price, o.qty, 1, qn⟩ :: ls.drop i : List Lvl).map (·.queue)).Perm ((qn : Int) :: ls.map (·.queue)) := by
    have h1 : (ls.take i ++ ⟨o.price, o.qty, 1, qn⟩ :: ls.drop i : List Lvl).Perm (⟨o.price, o.qty, 1, qn⟩ :: (ls.take i ++ ls.drop i)) := List.perm_middle
    rw [List.take_append_drop] at h1
    exact h1.map _
  have hae : atp o.price xs = [] := by
    unfold atp
    rw [List.filter_eq_nil_iff]
    intro x hx
    simpa using hnx x hx
  have e1 : atp o.price (xs ++ [(k, o)]) = [(k, o)] := by
    rw [atp_app, hae]
    simp [atp]
  refine ⟨up_insert S.up hst hnf _ rfl, ?_, ?_, ?_, ?_, ?_, setU_lt S.ul _, ?_⟩
  · intro y hy
    rcases mem_ins.1 hy with rfl | hy
    · refine ⟨?_, ?_, by simp, hp, ⟨by simp, by simpa using hq⟩, ?_⟩
      · rw [e1]; rfl
      · rw [e1]; simp [sumq]
      · rw [e1]; simp [up_same, hL]
    · have W := S.lv y hy
      have hne := hnt y hy
      have e2 : atp y.price (xs ++ [(k, o)]) = atp y.price xs := by
        rw [atp_app]
        have : atp y.price [(k, o)] = [] := by simp [atp]; exact fun e => hne e.symm
        rw [this, List.append_nil]
      refine ⟨by rw [e2]; exact W.orders, by rw [e2]; exact W.qty, W.some, W.rng, W.q0, ?_⟩
      rw [up_ne, e2]
      · exact W.list
      · rintro e
        exact hnq (List.mem_map.2 ⟨y, hy, by have := W.q0; omega⟩)
  · intro x hx
    rcases List.mem_append.1 hx with hx | hx
    · obtain ⟨y, hy, e⟩ := S.all x hx
      exact ⟨y, mem_ins.2 (.inr hy), e⟩
    · obtain rfl := List.mem_singleton.1 hx
      exact ⟨_, mem_ins.2 (.inl rfl), rfl⟩
  · exact hperm.nodup_iff.2 (List.nodup_cons.2 ⟨hnq, S.qs⟩)
  · intro j
    rw [hperm.mem_iff, List.mem_cons, busy_set, Bool.or_eq_true, S.bz j, decide_eq_true_eq]
    constructor
    · rintro (h | h)
      · exact .inr h
      · exact .inl (by omega)
    · rintro (h | h)
      · exact .inr (by omega)
      · exact .inl h
  · intro j hj
    rw [hperm.mem_iff, List.mem_cons, not_or] at hj
    rw [up_ne]
    · exact S.emp j hj.2
    · intro e
      exact hj.1 (by rw [e])
  · have := hst.le
    simp only [List.length_append, List.length_take, List.length_cons, List.length_drop]
    omega
end
end Bk
end Go.Proofs.Ytdhbioaoholcbaa
