/- This text proves plain laws on lists of orders: a side's list by price and time, and what it sums up to. It has no conditions but those that it states. -/
import Derived.Test.YtdhbioaoholcbaaBkT
namespace Go.Proofs.Ytdhbioaoholcbaa
set_option linter.unusedVariables false
namespace Bk
/-- Is a price better than another one? -/
def bet (n a b : Int) : Bool := decide ((n = 0 ∧ b < a) ∨ (n = 1 ∧ a < b))
def insO (n : Int) (o : Ord) (l : List Ord) : List Ord := l.takeWhile (fun x => !bet n o.price x.price) ++ o :: l.dropWhile (fun x => !bet n o.price x.price)
def sdO (n : Int) (os : List Ord) : List Ord := os.filter fun o => decide (o.side = n)
/-- A side's orders, by price and time. -/
def srt (n : Int) (os : List Ord) : List Ord := (sdO n os).foldl (fun acc o => insO n o acc) []
def atO (n p : Int) (os : List Ord) : List Ord := os.filter fun o => decide (o.side = n ∧ o.price = p)
def qsum : List Ord → Int
  | [] => 0
  | x :: l => x.qty + qsum l
theorem qsum_app (a b : List Ord) : qsum (a ++ b) = qsum a + qsum b := by
  induction a with
  | nil => simp [qsum]
  | cons x l ih => simp [qsum, ih]; omega
theorem qsum_perm {a b : List Ord} (h : a.Perm b) : qsum a = qsum b := by
  induction h with
  | nil => rfl
  | cons x _ ih => simp [qsum, ih]
  | swap x y l => simp [qsum]; omega
  | trans _ _ ih1 ih2 => exact ih1.trans ih2
theorem bet_self (n a : Int) : bet n a a = false := by
  unfold bet
  simp
theorem bet_anti {n a b : Int} (h : bet n a b = true) : bet n b a = false := by
  unfold bet at *
  simp only [decide_eq_true_eq, decide_eq_false_iff_not] at *
  omega
theorem ins_perm (n : Int) (o : Ord) (l : List Ord) : (insO n o l).Perm (o :: l) := by
  unfold insO
  refine List.perm_middle.trans (List.Perm.cons o ?_)
  rw [List.takeWhile_append_dropWhile]
theorem fold_perm (n : Int) : ∀ (l acc : List Ord), (l.foldl (fun acc o => insO n o acc) acc).Perm (l ++ acc)
  | [], acc => List.Perm.refl _
  | o :: l, acc => ((fold_perm n l (insO n o acc)).trans ((ins_perm n o acc).append_left l)).trans List.perm_middle
theorem srt_perm (n : Int) (os : List Ord) : (srt n os).Perm (sdO n os) := by
  have := fold_perm n (sdO n os) []
  rw [List.append_nil] at this
  exact this
theorem srt_snoc (n : Int) (os : List Ord) (o : Ord) : srt n (os ++ [o]) = if o.side = n then insO n o (srt n os) else srt n os := by
  unfold srt sdO
  rw [List.filter_append, List.foldl_append]
  by_cases h : o.side = n <;> simp [h]
theorem while_none {l : List Ord} {p : Ord → Bool} (h : ∀ x ∈ l, p x = false) : l.takeWhile p = [] ∧ l.dropWhile p = l := by
  cases l with
  | nil => exact ⟨rfl, rfl⟩
  | cons a l =>
    have := h a (by simp)
    simp [this]
theorem ins_flat {n : Int} {F : Int → List Ord} {o : Ord} : ∀ {ps : List Int}, ps.Pairwise (fun a b => bet n a b = true) → (∀ p ∈ ps, ∀ x ∈ F p, x.price = p) → o.price ∈ ps →
    insO n o (ps.flatMap F) = ps.flatMap (fun p => if p = o.price then F p ++ [o] else F p)
  | [], _, _, h => by cases h
  | p :: ps, hps, hF, ho => by
    rw [List.pairwise_cons] at hps
    obtain ⟨hp, hps⟩ := hps
    have hF0 := hF p (by simp)
    have hF1 : ∀ q ∈ ps, ∀ x ∈ F q, x.price = q := fun q hq => hF q (by simp [hq])
    have hpass : ∀ x ∈ F p, (!bet n o.price x.price) = true := fun x hx => by
      rw [hF0 x hx]
      by_cases e : p = o.price
      · rw [e, bet_self]; rfl
      · have hm : o.price ∈ ps := by
          rcases List.mem_cons.1 ho with h | h
          · exact absurd h.symm e
          · exact h
        rw [bet_anti (hp _ hm)]
        rfl
    rw [List.flatMap_cons, List.flatMap_cons]
    unfold insO
    rw [List.takeWhile_append_of_pos hpass, List.dropWhile_append_of_pos hpass]
    by_cases e : p = o.price
    · rw [if_pos e]
      have hno : ∀ x ∈ ps.flatMap F, (!bet n o.price x.price) = false := fun x hx => by
        obtain ⟨q, hq, hxq⟩ := List.mem_flatMap.1 hx
        rw [hF1 q hq x hxq, ← e, hp q hq]
        rfl
      obtain ⟨h1, h2⟩ := while_none hno
      rw [h1, h2]
      have h3 : (ps.flatMap fun p => if p = o.price then F p ++ [o] else F p) = ps.flatMap F := by
        have : ∀ q ∈ ps, (if q = o.price then F q ++ [o] else F q) = F q := fun q hq => by
          rw [if_neg]
          intro e2
          have h4 := hp q hq
          rw [e2, ← e, bet_self] at h4
          cases h4
        have h5 : (ps.map fun p => if p = o.price then F p ++ [o] else F p) = ps.map F := List.map_congr_left this
        rw [List.flatMap_def, List.flatMap_def, h5]
      rw [h3]
      simp
    · rw [if_neg e]
      have hm : o.price ∈ ps := by
        rcases List.mem_cons.1 ho with h | h
        · exact absurd h.symm e
        · exact h
      have ih := ins_flat hps hF1 hm
      unfold insO at ih
      rw [← ih]
      simp
theorem atO_app (n p : Int) (a b : List Ord) : atO n p (a ++ b) = atO n p a ++ atO n p b := List.filter_append ..
theorem atO_price {n p : Int} {os : List Ord} {x : Ord} (h : x ∈ atO n p os) : x.side = n ∧ x.price = p := by
  unfold atO at h
  simpa using (List.mem_filter.1 h).2
theorem fold_flat {n : Int} {ps : List Int} (hps : ps.Pairwise (fun a b => bet n a b = true)) : ∀ (l pre : List Ord), (∀ o ∈ l, o.side = n → o.price ∈ ps) →
    (sdO n l).foldl (fun acc o => insO n o acc) (ps.flatMap fun p => atO n p pre) = ps.flatMap fun p => atO n p (pre ++ l)
  | [], pre, _ => by rw [List.append_nil]; rfl
  | o :: l, pre, hc => by
    have ih := fold_flat hps l (pre ++ [o]) (fun x hx => hc x (by simp [hx]))
    rw [List.append_assoc, List.singleton_append] at ih
    rw [← ih]
    by_cases e : o.side = n
    · have h1 : sdO n (o :: l) = o :: sdO n l := by simp [sdO, e]
      rw [h1, List.foldl_cons, ins_flat hps (fun p _ x hx => (atO_price hx).2) (hc o (by simp) e)]
      congr 1
      have h2 : ∀ p, (if p = o.price then atO n p pre ++ [o] else atO n p pre) = atO n p (pre ++ [o]) := fun p => by
        rw [atO_app]
        by_cases e2 : p = o.price
        · rw [if_pos e2]
          simp [atO, e, e2]
        · rw [if_neg e2]
          have : ¬ o.price = p := fun h => e2 h.symm
          simp [atO, this]
      rw [funext h2]
    · have h1 : sdO n (o :: l) = sdO n l := by simp [sdO, e]
      have h2 : ∀ p, atO n p (pre ++ [o]) = atO n p pre := fun p => by
        rw [atO_app]
        simp [atO, e]
      rw [h1, funext h2]
/-- A side's list, level by level. -/
theorem srt_flat {n : Int} {ps : List Int} (hps : ps.Pairwise (fun a b => bet n a b = true)) {os : List Ord} (hc : ∀ o ∈ os, o.side = n → o.price ∈ ps) : srt n os = ps.flatMap fun p => atO n p os := by
  have h := fold_flat hps os [] hc
  have h0 : (ps.flatMap fun p => atO n p []) = [] := by
    rw [List.flatMap_eq_nil_iff]
    exact fun _ _ => rfl
  rw [h0] at h
  exact h
theorem qsum_flat {F : Int → List Ord} : ∀ ps : List Int, qsum (ps.flatMap F) = (ps.map fun p => qsum (F p)).sum
  | [] => rfl
  | p :: ps => by rw [List.flatMap_cons, qsum_app, qsum_flat ps]; simp
end Bk
end Go.Proofs.Ytdhbioaoholcbaa
