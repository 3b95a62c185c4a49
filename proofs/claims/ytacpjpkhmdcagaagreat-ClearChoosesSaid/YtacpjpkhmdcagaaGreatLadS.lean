/- This text proves how the bits of a ladder's used queues turn: plain laws. It has no conditions but those that it states. This text proves what the document's Better answers, and how keys and prices stand to each other. It has no conditions but those that it states. This text proves plain laws of levels in order: what is put in its place keeps the order. It has no conditions but those that it states. -/
import Derived.Test.YtacpjpkhmdcagaaGreatLadT
namespace Go.Proofs.YtacpjpkhmdcagaaGreat
set_option linter.unusedVariables false
namespace Lad
theorem clr_bit (n r j : Nat) (hn : n < 2 ^ 64) (hr : r < 64) : (clr n r).testBit j = (n.testBit j && decide (j ≠ r)) := by
  have h2 : 2 ^ r < 2 ^ 64 := Nat.pow_lt_pow_right (by decide) hr
  have e : 18446744073709551615 - 2 ^ r = 2 ^ 64 - (2 ^ r + 1) := by omega
  unfold clr
  rw [Nat.testBit_and, e, Nat.testBit_two_pow_sub_succ h2, Nat.testBit_two_pow]
  by_cases hj : j < 64
  · by_cases hjr : j = r
    · subst hjr; simp
    · have : ¬ r = j := fun e => hjr e.symm
      simp [hj, hjr, this]
  · have h3 : n.testBit j = false := Nat.testBit_lt_two_pow (Nat.lt_of_lt_of_le hn (Nat.pow_le_pow_right (by decide) (by omega)))
    rw [h3]; simp
theorem clr_lt (n r : Nat) (hn : n < 2 ^ 64) : clr n r < 2 ^ 64 := by
  unfold clr
  exact Nat.lt_of_le_of_lt Nat.and_le_left hn
theorem clrU_lt {u : Nat → Nat} (hu : ∀ j, j < 4 → u j < 2 ^ 64) (q : Nat) : ∀ j, j < 4 → clrU u q j < 2 ^ 64 := by
  intro j hj
  unfold clrU
  split
  · exact clr_lt _ _ (hu j hj)
  · exact hu j hj
theorem setU_lt {u : Nat → Nat} (hu : ∀ j, j < 4 → u j < 2 ^ 64) (q : Nat) : ∀ j, j < 4 → setU u q j < 2 ^ 64 := by
  intro j hj
  unfold setU
  split
  · exact Nat.or_lt_two_pow (hu j hj) (Nat.pow_lt_pow_right (by decide) (Nat.mod_lt _ (by decide)))
  · exact hu j hj
theorem busy_clr {u : Nat → Nat} (hu : ∀ j, j < 4 → u j < 2 ^ 64) (q j : Nat) (hj : j < 256) : busy (clrU u q) j = (busy u j && decide (j ≠ q)) := by
  unfold busy clrU
  by_cases h : j / 64 = q / 64
  · rw [if_pos h, clr_bit _ _ _ (hu _ (by omega)) (Nat.mod_lt _ (by decide))]
    have : (j % 64 ≠ q % 64) ↔ (j ≠ q) := by omega
    simp only [this]
  · rw [if_neg h]
    have : j ≠ q := fun e => h (by rw [e])
    simp [this]
theorem busy_set {u : Nat → Nat} (q j : Nat) : busy (setU u q) j = (busy u j || decide (j = q)) := by
  unfold busy setU
  by_cases h : j / 64 = q / 64
  · rw [if_pos h, Nat.testBit_or, Nat.testBit_two_pow]
    have : (q % 64 = j % 64) ↔ (j = q) := by omega
    simp only [this]
  · rw [if_neg h]
    have : j ≠ q := fun e => h (by rw [e])
    simp [this]
end Lad
end Go.Proofs.YtacpjpkhmdcagaaGreat
namespace Go.Proofs.YtacpjpkhmdcagaaGreat
set_option linter.unusedVariables false
open Go.RowKit
namespace Lad
set_option maxHeartbeats 1000000
set_option maxRecDepth 10000
theorem key_inj {side a b : Int} (hs : side = 0 ∨ side = 1) (ha : 1 ≤ a ∧ a ≤ 4611686018427387904) (hb : 1 ≤ b ∧ b ≤ 4611686018427387904) (h : keyF side a = keyF side b) : a = b := by
  rcases hs with rfl | rfl
  · have hk : ∀ x : Int, 1 ≤ x ∧ x ≤ 4611686018427387904 → keyF 0 x = -x := fun x hx => by
      unfold keyF
      rw [if_pos rfl]
      unfold wrap64
      omega
    rw [hk a ha, hk b hb] at h
    omega
  · unfold keyF at h
    rw [if_neg (by decide), if_neg (by decide)] at h
    exact h
end Lad
end Go.Proofs.YtacpjpkhmdcagaaGreat
namespace Go.Proofs.YtacpjpkhmdcagaaGreat
set_option linter.unusedVariables false
namespace Lad
theorem up_pw (side : Int) (ls : List Lvl) : Up side ls ↔ ls.Pairwise fun a b => keyF side a.price < keyF side b.price := by
  rw [List.pairwise_iff_getElem]
  constructor
  · intro h i j hi hj hij
    have := h i j hij hj
    rwa [keys_at hi, keys_at hj] at this
  · intro h i j hij hj
    rw [keys_at (show i < ls.length by omega), keys_at hj]
    exact h i j (by omega) hj hij
theorem up_insert {side k : Int} {ls : List Lvl} {i : Nat} (hup : Up side ls) (hst : Stands (keys side ls) ls.length k i) (hnf : ¬ (i < ls.length ∧ keys side ls i = k)) (x : Lvl) (hx : keyF side x.price = k) : Up side (ls.take i ++ x :: ls.drop i) := by
  have h := (up_pw side ls).1 hup
  rw [← List.take_append_drop i ls, List.pairwise_append] at h
  obtain ⟨h1, h2, h3⟩ := h
  have hlo : ∀ a ∈ ls.take i, keyF side a.price < k := by
    intro a ha
    obtain ⟨j, hj, rfl⟩ := List.mem_iff_getElem.1 ha
    have hj' : j < i ∧ j < ls.length := by rw [List.length_take] at hj; omega
    have := hst.lo j hj'.1
    rw [keys_at hj'.2] at this
    simpa using this
  have hhi : ∀ a ∈ ls.drop i, k < keyF side a.price := by
    intro a ha
    obtain ⟨j, hj, rfl⟩ := List.mem_iff_getElem.1 ha
    have hj' : i + j < ls.length := by rw [List.length_drop] at hj; omega
    have h4 := hst.hi (i + j) (by omega) hj'
    have h5 : k ≠ keys side ls (i + j) := by
      intro e
      rcases Nat.eq_zero_or_pos j with h0 | h0
      · subst h0
        exact hnf ⟨hj', e.symm⟩
      · have h6 := hup i (i + j) (by omega) hj'
        have h7 := hst.hi i (Nat.le_refl _) (by omega)
        omega
    rw [keys_at hj'] at h4 h5
    have h8 : (ls.drop i)[j] = ls[i + j] := by simp
    rw [h8]
    omega
  refine (up_pw side _).2 (List.pairwise_append.2 ⟨h1, List.pairwise_cons.2 ⟨fun a ha => by rw [hx]; exact hhi a ha, h2⟩, fun a ha b hb => ?_⟩)
  rcases List.mem_cons.1 hb with rfl | hb
  · rw [hx]; exact hlo a ha
  · exact h3 a ha b hb
/-- A level that turns but keeps its price keeps the order; one that goes does so too. -/
theorem up_set {side : Int} {ls : List Lvl} {i : Nat} {l x : Lvl} (hup : Up side ls) (hl : ls[i]? = some l) (hx : x.price = l.price) : Up side (ls.set i x) := by
  have e : keys side (ls.set i x) = keys side ls := by
    funext j
    unfold keys
    obtain ⟨hi, rfl⟩ := List.getElem?_eq_some_iff.1 hl
    rw [List.map_set, hx]
    have : (ls.map fun l => keyF side l.price).set i (keyF side (ls[i]).price) = ls.map fun l => keyF side l.price := by
      have h2 : keyF side (ls[i]).price = (ls.map fun l => keyF side l.price)[i]'(by simpa using hi) := by simp
      rw [h2, List.set_getElem_self]
    rw [this]
  intro a b hab hb
  rw [List.length_set] at hb
  rw [e]
  exact hup a b hab hb
theorem up_erase {side : Int} {ls : List Lvl} {i : Nat} (hup : Up side ls) : Up side (ls.eraseIdx i) :=
  (up_pw side _).2 (((up_pw side ls).1 hup).sublist (List.eraseIdx_sublist ls i))
theorem nodup_len {α : Type} [BEq α] [LawfulBEq α] : ∀ (l m : List α), l.Nodup → (∀ a ∈ l, a ∈ m) → l.length ≤ m.length
  | [], _, _, _ => Nat.zero_le _
  | a :: t, m, hn, hs => by
    have hn' := List.nodup_cons.1 hn
    have ha := hs a (by simp)
    have ih := nodup_len t (m.erase a) hn'.2 (fun b hb => by
      have hne : b ≠ a := fun e => hn'.1 (e ▸ hb)
      exact (List.mem_erase_of_ne hne).2 (hs b (by simp [hb])))
    have hl := List.length_erase_of_mem ha
    have hp := List.length_pos_of_mem ha
    simp only [List.length_cons]
    omega
theorem least_free (u : Nat → Nat) : ∀ n, (∀ j, j < n → busy u j = true) ∨ ∃ q, q < n ∧ busy u q = false ∧ ∀ j, j < q → busy u j = true
  | 0 => .inl (fun j h => absurd h (by omega))
  | n + 1 => by
    rcases least_free u n with h | ⟨q, h1, h2⟩
    · cases hb : busy u n with
      | false => exact .inr ⟨n, by omega, hb, h⟩
      | true =>
        refine .inl (fun j hj => ?_)
        by_cases e : j = n
        · rw [e]; exact hb
        · exact h j (by omega)
    · exact .inr ⟨q, by omega, h2⟩
/-- There is a least free queue, and it is no greater than the number of those in use. -/
theorem low_free {u : Nat → Nat} {qs : List Int} (hb : ∀ j : Nat, busy u j = true → (j : Int) ∈ qs) : ∃ q, q ≤ qs.length ∧ busy u q = false ∧ ∀ j, j < q → busy u j = true := by
  rcases least_free u (qs.length + 1) with h | ⟨q, h1, h2⟩
  · have hn : ((List.range (qs.length + 1)).map fun j : Nat => (j : Int)).Nodup := by
      refine List.Pairwise.map _ (fun a b hab => ?_) List.nodup_range
      exact fun e => hab (by omega)
    have h3 := nodup_len _ qs hn (fun a ha => by
      obtain ⟨j, hj, rfl⟩ := List.mem_map.1 ha
      exact hb j (h j (by simpa using hj)))
    simp only [List.length_map, List.length_range] at h3
    omega
  · exact ⟨q, by omega, h2⟩
end Lad
end Go.Proofs.YtacpjpkhmdcagaaGreat
