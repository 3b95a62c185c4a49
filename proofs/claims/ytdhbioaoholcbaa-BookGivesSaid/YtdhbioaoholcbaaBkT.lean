/- This text proves plain laws of a book's side: how its levels and queues turn when an order goes, or is made less. It has no conditions but those that it states. -/
import Derived.Test.YtdhbioaoholcbaaBkS
namespace Go.Proofs.Ytdhbioaoholcbaa
set_option linter.unusedVariables false
namespace Bk
open Lad (Up Stands keys keyF busy setU clrU keys_at up_pw up_set up_insert up_erase busy_set busy_clr setU_lt clrU_lt)
open Fif (up up_same up_ne)
section
variable {n : Int} {most : Nat} {a b : List Sl} {k : Nat} {o : Ord} {ls : List Lvl} {u : Nat → Nat} {L : Nat → List Nat}
theorem atp_mid {p : Int} (h : p = o.price) : atp p (a ++ (k, o) :: b) = atp p a ++ (k, o) :: atp p b := by
  subst h
  rw [atp_app]
  congr 1
  simp [atp]
theorem atp_mid_ne {p : Int} (h : o.price ≠ p) : atp p (a ++ (k, o) :: b) = atp p (a ++ b) := by
  rw [atp_app, atp_app]
  congr 1
  simp [atp, h]
/-- Where an order's slot stands in its queue. -/
theorem si_queue (S : SI n most (a ++ (k, o) :: b) ls u L) {l : Lvl} (hl : l ∈ ls) (hp : l.price = o.price) : L l.queue.toNat = (atp l.price a).map (·.1) ++ k :: (atp l.price b).map (·.1) := by
  rw [(S.lv l hl).list, atp_mid hp]
  simp
/-- The level of an order. -/
theorem si_level (S : SI n most (a ++ (k, o) :: b) ls u L) : ∃ (i : Nat) (l : Lvl), ls[i]? = some l ∧ l.price = o.price := by
  obtain ⟨l, hl, e⟩ := S.all (k, o) (by simp)
  obtain ⟨i, hi, rfl⟩ := List.mem_iff_getElem.1 hl
  exact ⟨i, _, List.getElem?_eq_getElem hi, e⟩
theorem mem_mid {α : Type} {a b : List α} {x y : α} (h : y ∈ a ++ b) : y ∈ a ++ x :: b := by
  rcases List.mem_append.1 h with h | h
  · exact List.mem_append.2 (.inl h)
  · exact List.mem_append.2 (.inr (List.mem_cons_of_mem _ h))
/-- One of several orders of a level goes. -/
theorem si_less (S : SI n most (a ++ (k, o) :: b) ls u L) {i : Nat} {l : Lvl} (hl : ls[i]? = some l) (hp : l.price = o.price) (h2 : 2 ≤ l.orders) :
    SI n most (a ++ b) (ls.set i ⟨l.price, l.qty - o.qty, l.orders - 1, l.queue⟩) u (up L l.queue.toNat ((atp l.price a).map (·.1) ++ (atp l.price b).map (·.1))) := by
  have hml : l ∈ ls := List.mem_of_getElem? hl
  have V := S.lv l hml
  have hmq := map_set_same (x := ⟨l.price, l.qty - o.qty, l.orders - 1, l.queue⟩) hl rfl
  have hmid := atp_mid (a := a) (b := b) (k := k) hp
  have hst : ∀ y ∈ ls, y.price ≠ l.price → y ∈ ls.set i ⟨l.price, l.qty - o.qty, l.orders - 1, l.queue⟩ := fun y hy hne => by
    obtain ⟨j, hj, rfl⟩ := List.mem_iff_getElem.1 hy
    refine List.mem_iff_getElem.2 ⟨j, by rw [List.length_set]; exact hj, ?_⟩
    rw [List.getElem_set, if_neg]
    rintro rfl
    obtain ⟨hi, rfl⟩ := List.getElem?_eq_some_iff.1 hl
    exact hne rfl
  refine ⟨up_set S.up hl rfl, ?_, ?_, by rw [hmq]; exact S.qs, by rw [hmq]; exact S.bz, ?_, S.ul, by rw [List.length_set]; exact S.len⟩
  · intro y hy
    rcases mem_set_iff S.up hl hy with rfl | ⟨hy, hne⟩
    · refine ⟨?_, ?_, ?_, V.rng, V.q0, ?_⟩
      · show l.orders - 1 = _
        rw [V.orders, hmid, atp_app]; simp; omega
      · show l.qty - o.qty = _
        rw [V.qty, hmid, atp_app, sumq_app, sumq_app]; simp only [sumq]; omega
      · show 1 ≤ l.orders - 1
        omega
      · show up L l.queue.toNat _ l.queue.toNat = _
        rw [up_same, atp_app]; simp
    · have W := S.lv y hy
      have e2 : atp y.price (a ++ b) = atp y.price (a ++ (k, o) :: b) := (atp_mid_ne (fun e => hne (by rw [← e, hp]))).symm
      have hq := queue_ne S.qs hy hml hne
      refine ⟨by rw [e2]; exact W.orders, by rw [e2]; exact W.qty, W.some, W.rng, W.q0, ?_⟩
      rw [up_ne, e2]
      · exact W.list
      · have h1 := V.q0; have h2 := W.q0; omega
  · intro x hx
    obtain ⟨y, hy, e⟩ := S.all x (mem_mid hx)
    by_cases hpe : y.price = l.price
    · exact ⟨⟨l.price, l.qty - o.qty, l.orders - 1, l.queue⟩, List.mem_of_getElem? (i := i) (by rw [List.getElem?_set_self (List.getElem?_eq_some_iff.1 hl).1]), by show l.price = _; rw [← hpe]; exact e⟩
    · exact ⟨y, hst y hy hpe, e⟩
  · intro j hj
    rw [hmq] at hj
    rw [up_ne]
    · exact S.emp j hj
    · rintro rfl
      exact hj (List.mem_map.2 ⟨l, hml, by have := V.q0; omega⟩)
/-- An order is made less. -/
theorem si_part (S : SI n most (a ++ (k, o) :: b) ls u L) {i : Nat} {l : Lvl} (hl : ls[i]? = some l) (hp : l.price = o.price) (z : Int) :
    SI n most (a ++ (k, { o with qty := o.qty - z }) :: b) (ls.set i ⟨l.price, l.qty - z, l.orders, l.queue⟩) u L := by
  have hml : l ∈ ls := List.mem_of_getElem? hl
  have V := S.lv l hml
  have hmq := map_set_same (x := ⟨l.price, l.qty - z, l.orders, l.queue⟩) hl rfl
  have hmid := atp_mid (a := a) (b := b) (k := k) hp
  have hmid2 := atp_mid (p := l.price) (a := a) (b := b) (k := k) (o := { o with qty := o.qty - z }) hp
  have hst : ∀ y ∈ ls, y.price ≠ l.price → y ∈ ls.set i ⟨l.price, l.qty - z, l.orders, l.queue⟩ := fun y hy hne => by
    obtain ⟨j, hj, rfl⟩ := List.mem_iff_getElem.1 hy
    refine List.mem_iff_getElem.2 ⟨j, by rw [List.length_set]; exact hj, ?_⟩
    rw [List.getElem_set, if_neg]
    rintro rfl
    obtain ⟨hi, rfl⟩ := List.getElem?_eq_some_iff.1 hl
    exact hne rfl
  refine ⟨up_set S.up hl rfl, ?_, ?_, by rw [hmq]; exact S.qs, by rw [hmq]; exact S.bz, by rw [hmq]; exact S.emp, S.ul, by rw [List.length_set]; exact S.len⟩
  · intro y hy
    rcases mem_set_iff S.up hl hy with rfl | ⟨hy, hne⟩
    · refine ⟨?_, ?_, V.some, V.rng, V.q0, ?_⟩
      · show l.orders = _
        rw [V.orders, hmid, hmid2]; simp
      · show l.qty - z = _
        rw [V.qty, hmid, hmid2, sumq_app, sumq_app]; simp only [sumq]; omega
      · show L l.queue.toNat = _
        rw [V.list, hmid, hmid2]; simp
    · have W := S.lv y hy
      have e2 : atp y.price (a ++ (k, { o with qty := o.qty - z }) :: b) = atp y.price (a ++ (k, o) :: b) := (atp_mid_ne (o := { o with qty := o.qty - z }) (fun e => hne (by rw [← e, hp]))).trans (atp_mid_ne (fun e => hne (by rw [← e, hp]))).symm
      exact ⟨by rw [e2]; exact W.orders, by rw [e2]; exact W.qty, W.some, W.rng, W.q0, by rw [e2]; exact W.list⟩
  · intro x hx
    have hx' : ∃ x' ∈ a ++ (k, o) :: b, x'.2.price = x.2.price := by
      rcases List.mem_append.1 hx with h | h
      · exact ⟨x, List.mem_append.2 (.inl h), rfl⟩
      · rcases List.mem_cons.1 h with rfl | h
        · exact ⟨(k, o), by simp, rfl⟩
        · exact ⟨x, List.mem_append.2 (.inr (List.mem_cons_of_mem _ h)), rfl⟩
    obtain ⟨x', hx', e'⟩ := hx'
    obtain ⟨y, hy, e⟩ := S.all x' hx'
    rw [e'] at e
    by_cases hpe : y.price = l.price
    · exact ⟨⟨l.price, l.qty - z, l.orders, l.queue⟩, List.mem_of_getElem? (i := i) (by rw [List.getElem?_set_self (List.getElem?_eq_some_iff.1 hl).1]), by show l.price = _; rw [← hpe]; exact e⟩
    · exact ⟨y, hst y hy hpe, e⟩
/-- A level's last order goes, and with it the level. -/
theorem si_last (S : SI n most (a ++ (k, o) :: b) ls u L) (hm : most ≤ 200) {i : Nat} {l : Lvl} (hl : ls[i]? = some l) (hp : l.price = o.price) (h1 : l.orders = 1) :
    SI n most (a ++ b) (ls.eraseIdx i) (clrU u l.queue.toNat) (up L l.queue.toNat ((atp l.price a).map (·.1) ++ (atp l.price b).map (·.1))) := by
  have hml : l ∈ ls := List.mem_of_getElem? hl
  have V := S.lv l hml
  obtain ⟨hi, hge⟩ := List.getElem?_eq_some_iff.1 hl
  have hmid := atp_mid (a := a) (b := b) (k := k) hp
  have hcount := V.orders
  rw [h1, hmid] at hcount
  simp only [List.length_append, List.length_cons] at hcount
  have hA : atp l.price a = [] := List.eq_nil_of_length_eq_zero (by omega)
  have hB : atp l.price b = [] := List.eq_nil_of_length_eq_zero (by omega)
  have hperm : (l :: ls.eraseIdx i).Perm ls := by
    rw [List.eraseIdx_eq_take_drop_succ]
    have e : ls = ls.take i ++ l :: ls.drop (i + 1) := by
      rw [← hge, ← List.drop_eq_getElem_cons hi, List.take_append_drop]
    refine List.perm_middle.symm.trans ?_
    rw [← e]
  have hpq : (l.queue :: (ls.eraseIdx i).map (·.queue)).Perm (ls.map (·.queue)) := hperm.map _
  have hnd := hpq.nodup_iff.2 S.qs
  obtain ⟨hnq, hnd⟩ := List.nodup_cons.1 hnd
  have hpr : ∀ y ∈ ls.eraseIdx i, y ∈ ls ∧ y.price ≠ l.price := fun y hy => by
    have hy' : y ∈ ls := hperm.mem_iff.1 (List.mem_cons_of_mem _ hy)
    refine ⟨hy', fun e => ?_⟩
    have := up_prices S.up hy' hml e
    subst this
    exact hnq (List.mem_map.2 ⟨y, hy, rfl⟩)
  have hq0 := V.q0
  refine ⟨up_erase S.up, ?_, ?_, hnd, ?_, ?_, clrU_lt S.ul _, ?_⟩
  · intro y hy
    obtain ⟨hy, hne⟩ := hpr y hy
    have W := S.lv y hy
    have e2 : atp y.price (a ++ b) = atp y.price (a ++ (k, o) :: b) := (atp_mid_ne (fun e => hne (by rw [← e, hp]))).symm
    have hq := queue_ne S.qs hy hml hne
    refine ⟨by rw [e2]; exact W.orders, by rw [e2]; exact W.qty, W.some, W.rng, W.q0, ?_⟩
    rw [up_ne, e2]
    · exact W.list
    · have h1 := V.q0; have h2 := W.q0; omega
  · intro x hx
    obtain ⟨y, hy, e⟩ := S.all x (mem_mid hx)
    have hne : y ≠ l := by
      rintro rfl
      have h0 : atp y.price (a ++ b) = [] := by rw [atp_app, hA, hB]; rfl
      unfold atp at h0
      rw [List.filter_eq_nil_iff] at h0
      have := h0 x hx
      simp [e] at this
    refine ⟨y, ?_, e⟩
    have := hperm.mem_iff.2 hy
    rcases List.mem_cons.1 this with h | h
    · exact absurd h hne
    · exact h
  · intro j
    have hb := S.bz j
    rw [← hpq.mem_iff, List.mem_cons] at hb
    by_cases hj : j < 256
    · rw [busy_clr S.ul _ j hj, Bool.and_eq_true, hb, decide_eq_true_eq]
      constructor
      · rintro ⟨h | h, h2⟩
        · omega
        · exact h
      · intro h
        refine ⟨.inr h, fun e => hnq ?_⟩
        have : l.queue = (j : Int) := by omega
        rw [this]
        exact h
    · have e : busy (clrU u l.queue.toNat) j = busy u j := by
        unfold busy clrU
        rw [if_neg (by omega)]
      rw [e, hb]
      constructor
      · rintro (h | h)
        · omega
        · exact h
      · exact .inr
  · intro j hj
    by_cases e : j = l.queue.toNat
    · subst e
      rw [up_same, hA, hB]
      rfl
    · rw [up_ne _ _ e]
      refine S.emp j (fun h => ?_)
      rw [← hpq.mem_iff, List.mem_cons] at h
      rcases h with h | h
      · omega
      · exact hj h
  · rw [List.length_eraseIdx_of_lt hi]
    have := S.len
    omega
end
end Bk
end Go.Proofs.Ytdhbioaoholcbaa
