/- This text holds what is kept while orders of three come to a ladder: plain laws. It has no conditions but those that it states. -/
import Derived.Test.YtbhidcfhpkljbaaLadS
namespace Go.Proofs.Ytbhidcfhpkljbaa
set_option linter.unusedVariables false
namespace Lad
structure Kept (side : Int) (ps : List Int) (ls : List Lvl) (u : Nat → Nat) : Prop where
  up : Up side ls
  rng : ∀ l ∈ ls, 1 ≤ l.price ∧ l.price ≤ 4611686018427387904
  cnt : ∀ l ∈ ls, l.orders = (ps.count l.price : Int) ∧ l.qty = 3 * l.orders
  all : ∀ p ∈ ps, ∃ l ∈ ls, l.price = p
  pos : ∀ l ∈ ls, l.price ∈ ps
  qs : (ls.map (·.queue)).Nodup
  bz : ∀ j : Nat, busy u j = true ↔ (j : Int) ∈ ls.map (·.queue)
  q0 : ∀ l ∈ ls, 0 ≤ l.queue ∧ l.queue < 40
  ul : ∀ j, j < 4 → u j < 2 ^ 64
theorem kept_add {side : Int} {ps : List Int} {ls : List Lvl} {u : Nat → Nat} (K : Kept side ps ls u) {i : Nat} {l : Lvl} (hl : ls[i]? = some l) :
    Kept side (ps ++ [l.price]) (ls.set i ⟨l.price, l.qty + 3, l.orders + 1, l.queue⟩) u := by
  obtain ⟨hi, hge⟩ := List.getElem?_eq_some_iff.1 hl
  have hml : l ∈ ls := List.mem_of_getElem? hl
  have hmem : ∀ y ∈ ls.set i ⟨l.price, l.qty + 3, l.orders + 1, l.queue⟩, y = ⟨l.price, l.qty + 3, l.orders + 1, l.queue⟩ ∨ (y ∈ ls ∧ y.price ≠ l.price) := by
    intro y hy
    obtain ⟨j, hj, rfl⟩ := List.mem_iff_getElem.1 hy
    rw [List.length_set] at hj
    by_cases e : j = i
    · subst e
      left; simp
    · right
      have h1 : (ls.set i (⟨l.price, l.qty + 3, l.orders + 1, l.queue⟩ : Lvl))[j]'(by rw [List.length_set]; exact hj) = ls[j] := by
        rw [List.getElem_set_ne (fun h => e h.symm)]
      rw [h1]
      refine ⟨List.getElem_mem hj, fun h2 => ?_⟩
      have k1 := keys_at (side := side) hi
      have k2 := keys_at (side := side) hj
      rw [hge] at k1
      rw [h2] at k2
      rcases Nat.lt_or_gt_of_ne e with h | h
      · have := K.up j i h hi; omega
      · have := K.up i j h hj; omega
  have hq : (ls.set i (⟨l.price, l.qty + 3, l.orders + 1, l.queue⟩ : Lvl)).map (·.queue) = ls.map (·.queue) := by
    rw [List.map_set]
    have h2 : l.queue = (ls.map (·.queue))[i]'(by simpa using hi) := by simp [hge]
    show (ls.map (·.queue)).set i l.queue = _
    rw [h2, List.set_getElem_self]
  refine ⟨up_set K.up hl rfl, ?_, ?_, ?_, ?_, by rw [hq]; exact K.qs, by rw [hq]; exact K.bz, ?_, K.ul⟩
  · intro y hy
    rcases hmem y hy with rfl | ⟨h, _⟩
    · exact K.rng l hml
    · exact K.rng y h
  · intro y hy
    rcases hmem y hy with rfl | ⟨h, hne⟩
    · obtain ⟨c1, c2⟩ := K.cnt l hml
      simp only [List.count_append, List.count_cons_self, List.count_nil]
      exact ⟨by omega, by omega⟩
    · obtain ⟨c1, c2⟩ := K.cnt y h
      rw [List.count_append, List.count_eq_zero_of_not_mem (a := y.price) (l := [l.price]) (by simpa using hne)]
      exact ⟨by omega, c2⟩
  · intro p hp
    rcases List.mem_append.1 hp with h | h
    · obtain ⟨y, hy, rfl⟩ := K.all p h
      by_cases e : y.price = l.price
      · exact ⟨_, List.mem_set hi _, by simp [e]⟩
      · obtain ⟨j, hj, rfl⟩ := List.mem_iff_getElem.1 hy
        have hne : i ≠ j := fun h => e (by subst h; rw [hge])
        exact ⟨ls[j], List.mem_iff_getElem.2 ⟨j, by rw [List.length_set]; exact hj, by rw [List.getElem_set_ne hne]⟩, rfl⟩
    · rw [List.mem_singleton.1 h]
      exact ⟨_, List.mem_set hi _, rfl⟩
  · intro y hy
    rcases hmem y hy with rfl | ⟨h, _⟩
    · simp
    · exact List.mem_append.2 (.inl (K.pos y h))
  · intro y hy
    rcases hmem y hy with rfl | ⟨h, _⟩
    · exact K.q0 l hml
    · exact K.q0 y h
theorem mem_ins {ls : List Lvl} {i : Nat} {x y : Lvl} : y ∈ ls.take i ++ x :: ls.drop i ↔ y = x ∨ y ∈ ls := by
  have h : y ∈ ls ↔ y ∈ ls.take i ∨ y ∈ ls.drop i := by rw [← List.mem_append, List.take_append_drop]
  rw [h, List.mem_append, List.mem_cons]
  constructor
  · rintro (h | h | h)
    · exact .inr (.inl h)
    · exact .inl h
    · exact .inr (.inr h)
  · rintro (h | h | h)
    · exact .inr (.inl h)
    · exact .inl h
    · exact .inr (.inr h)
theorem not_there {side p : Int} {ls : List Lvl} {i : Nat} (hup : Up side ls) (hst : Stands (keys side ls) ls.length (keyF side p) i) (hnf : ¬ (i < ls.length ∧ keys side ls i = keyF side p)) : ∀ y ∈ ls, y.price ≠ p := by
  intro y hy e
  obtain ⟨j, hj, rfl⟩ := List.mem_iff_getElem.1 hy
  have k1 := keys_at (side := side) hj
  rw [e] at k1
  rcases Nat.lt_or_ge j i with h | h
  · have := hst.lo j h; omega
  · rcases Nat.eq_or_lt_of_le h with h | h
    · exact hnf ⟨by omega, by rw [h]; exact k1⟩
    · have h2 := hup i j h hj
      have h3 := hst.hi i (Nat.le_refl _) (by omega)
      omega
theorem kept_new {side p : Int} {ps : List Int} {ls : List Lvl} {u : Nat → Nat} (K : Kept side ps ls u) {i qn : Nat} (hp : 1 ≤ p ∧ p ≤ 4611686018427387904) (hst : Stands (keys side ls) ls.length (keyF side p) i) (hnf : ¬ (i < ls.length ∧ keys side ls i = keyF side p)) (hq : qn < 40) (hfree : busy u qn = false) :
    Kept side (ps ++ [p]) (ls.take i ++ ⟨p, 3, 1, qn⟩ :: ls.drop i) (setU u qn) := by
  have hnt := not_there K.up hst hnf
  have hnp : p ∉ ps := fun h => by
    obtain ⟨l, hl, e⟩ := K.all p h
    exact hnt l hl e
  have hnq : (qn : Int) ∉ ls.map (·.queue) := fun h => by
    rw [(K.bz qn).2 h] at hfree
    cases hfree
  have hperm : ((ls.take i ++ (⟨p, 3, 1, qn⟩ : Lvl) :: ls.drop i).map (·.queue)).Perm ((qn : Int) :: ls.map (·.queue)) := by
    have h1 : (ls.take i ++ (⟨p, 3, 1, qn⟩ : Lvl) :: ls.drop i).Perm (⟨p, 3, 1, qn⟩ :: (ls.take i ++ ls.drop i)) := List.perm_middle
    rw [List.take_append_drop] at h1
    exact h1.map _
  refine ⟨up_insert K.up hst hnf _ rfl, ?_, ?_, ?_, ?_, ?_, ?_, ?_, setU_lt K.ul _⟩
  · intro y hy
    rcases mem_ins.1 hy with rfl | h
    · exact hp
    · exact K.rng y h
  · intro y hy
    rcases mem_ins.1 hy with rfl | h
    · simp [List.count_append, List.count_eq_zero_of_not_mem hnp]
    · obtain ⟨c1, c2⟩ := K.cnt y h
      have hne := hnt y h
      rw [List.count_append, List.count_eq_zero_of_not_mem (a := y.price) (l := [p]) (by simpa using hne)]
      exact ⟨by omega, c2⟩
  · intro z hz
    rcases List.mem_append.1 hz with h | h
    · obtain ⟨y, hy, e⟩ := K.all z h
      exact ⟨y, mem_ins.2 (.inr hy), e⟩
    · rw [List.mem_singleton.1 h]
      exact ⟨_, mem_ins.2 (.inl rfl), rfl⟩
  · intro y hy
    rcases mem_ins.1 hy with rfl | h
    · simp
    · exact List.mem_append.2 (.inl (K.pos y h))
  · exact hperm.nodup_iff.2 (List.nodup_cons.2 ⟨hnq, K.qs⟩)
  · intro j
    rw [hperm.mem_iff, List.mem_cons, busy_set, Bool.or_eq_true, K.bz j, decide_eq_true_eq]
    constructor
    · rintro (h | h)
      · exact .inr h
      · exact .inl (by omega)
    · rintro (h | h)
      · exact .inr (by omega)
      · exact .inl h
  · intro y hy
    rcases mem_ins.1 hy with rfl | h
    · exact ⟨by simp, by simp; omega⟩
    · exact K.q0 y h
end Lad
end Go.Proofs.Ytbhidcfhpkljbaa
