/- This text proves plain laws on the price of an auction: the least one of some prices, and that no price in a band trades more. It has no conditions but those that it states. -/
import Derived.Test.YtacpjpkhmdcagaaGreatClT
namespace Go.Proofs.YtacpjpkhmdcagaaGreat
set_option linter.unusedVariables false
namespace Cl
open Cu (dem sup dem_mono sup_mono qsum_cong)
/-- One price is ahead of another one. -/
def Lt (r : Int) (a b : Pr) : Prop := b.volume < a.volume ∨ (a.volume = b.volume ∧ (a.odds < b.odds ∨ (a.odds = b.odds ∧ (farW a.price r < farW b.price r ∨ (farW a.price r = farW b.price r ∧ a.price < b.price)))))
theorem less_iff (a b : Pr) (r : Int) : lessI a b r = true ↔ Lt r a b := by
  rw [less_eq]
  unfold Lt
  generalize farW a.price r = f
  generalize farW b.price r = g
  by_cases h1 : a.volume = b.volume
  · by_cases h2 : a.odds = b.odds
    · by_cases h3 : f = g
      · simp [h1, h2, h3]
      · simp [h1, h2, h3]
    · simp [h1, h2]
  · simp [h1]
theorem ord_iff (a b : Pr) (r : Int) : ordI a b r < 0 ↔ Lt r a b := by
  rw [← less_iff]
  unfold lessI
  exact decide_eq_true_iff.symm
theorem lt_trans {r : Int} {a b c : Pr} (h1 : Lt r a b) (h2 : Lt r b c) : Lt r a c := by
  unfold Lt at *
  omega
theorem lt_le {r : Int} {a b c : Pr} (h1 : ¬ Lt r b a) (h2 : Lt r b c) : Lt r a c := by
  unfold Lt at *
  omega
theorem lt_tie {r : Int} {a b : Pr} (h1 : ¬ Lt r a b) (h2 : ¬ Lt r b a) : a.price = b.price := by
  unfold Lt at *
  omega
theorem lt_vol {r : Int} {a b : Pr} (h : ¬ Lt r a b) : a.volume ≤ b.volume ∧ (a.volume = b.volume → b.odds ≤ a.odds) := by
  unfold Lt at *
  omega
theorem step_lt (r : Int) (m y : Pr) : stepF r m y = y ∧ Lt r y m ∨ stepF r m y = m ∧ ¬ Lt r y m := by
  unfold stepF
  by_cases h : ordI y m r < 0
  · rw [if_pos h]; exact .inl ⟨rfl, (ord_iff _ _ _).1 h⟩
  · rw [if_neg h]; exact .inr ⟨rfl, fun h2 => h ((ord_iff _ _ _).2 h2)⟩
theorem fold_min (r : Int) : ∀ (l : List Pr) (x : Pr), (l.foldl (stepF r) x = x ∨ l.foldl (stepF r) x ∈ l) ∧ ¬ Lt r x (l.foldl (stepF r) x) ∧ ∀ y ∈ l, ¬ Lt r y (l.foldl (stepF r) x)
  | [], x => ⟨.inl rfl, fun h => by unfold Lt at h; simp only [List.foldl_nil] at h; omega, fun y hy => by cases hy⟩
  | y :: l, x => by
    rw [List.foldl_cons]
    obtain ⟨h1, h2, h3⟩ := fold_min r l (stepF r x y)
    generalize l.foldl (stepF r) (stepF r x y) = m at *
    rcases step_lt r x y with ⟨e, hl⟩ | ⟨e, hl⟩
    · rw [e] at h1 h2
      refine ⟨.inr ?_, fun h => h2 (lt_trans hl h), fun z hz => ?_⟩
      · rcases h1 with h1 | h1
        · rw [h1]; exact List.mem_cons_self ..
        · exact List.mem_cons_of_mem _ h1
      · rcases List.mem_cons.1 hz with rfl | hz
        · exact h2
        · exact h3 z hz
    · rw [e] at h1 h2
      refine ⟨?_, h2, fun z hz => ?_⟩
      · rcases h1 with h1 | h1
        · exact .inl h1
        · exact .inr (List.mem_cons_of_mem _ h1)
      · rcases List.mem_cons.1 hz with rfl | hz
        · exact fun h => h2 (lt_le hl h)
        · exact h3 z hz
theorem minF_min (r : Int) {l : List Pr} (h : l ≠ []) : minF r l ∈ l ∧ ∀ y ∈ l, ¬ Lt r y (minF r l) := by
  cases l with
  | nil => exact absurd rfl h
  | cons x l =>
    obtain ⟨h1, h2, h3⟩ := fold_min r l x
    refine ⟨?_, fun y hy => ?_⟩
    · rcases h1 with h1 | h1
      · show l.foldl (stepF r) x ∈ x :: l
        rw [h1]; exact List.mem_cons_self ..
      · exact List.mem_cons_of_mem _ h1
    · rcases List.mem_cons.1 hy with rfl | hy
      · exact h2
      · exact h3 y hy
/-- The least one, of prices that a book has. -/
theorem best_of {os : List Ord} {r : Int} {u : List Int} (h : u ≠ []) : ∃ x ∈ u, minF r (u.map (prO os)) = prO os x ∧ ∀ y ∈ u, ¬ Lt r (prO os y) (prO os x) := by
  obtain ⟨h1, h2⟩ := minF_min r (l := u.map (prO os)) (by simpa using h)
  obtain ⟨x, hx, e⟩ := List.mem_map.1 h1
  exact ⟨x, hx, e.symm, fun y hy => by rw [e]; exact h2 _ (List.mem_map_of_mem hy)⟩
theorem al_ne {lo hi near : Int} {os : List Ord} {u : List Int} (h : Al lo hi near os u) : u ≠ [] := fun e => by
  have := (h.mem near).2 (.inr rfl)
  rw [e] at this
  cases this
/-- The price that is chosen of all, if it lies in a band, is chosen in that band. -/
theorem stays {os : List Ord} {r lo hi : Int} {u v : List Int} {p : Pr} (hu : Alx 1 1099511627776 r os u) (hv : Alx lo hi r os v) (h1 : 1 ≤ lo) (h2 : hi ≤ 1099511627776) (h3 : lo ≤ r) (h4 : r ≤ hi) (hc : chB os r u = (p, true)) (h5 : lo ≤ p.price) (h6 : p.price ≤ hi) : chB os r v = (p, true) := by
  have e1 : max lo 1 = lo := by omega
  have e2 : min hi 1099511627776 = hi := by omega
  have e3 : min (max r lo) hi = r := by omega
  have e4 : min (max r (max 1 1)) (min 1099511627776 1099511627776) = r := by omega
  unfold Alx at hu hv
  rw [e1, e2, e3] at hv
  rw [e4] at hu
  rcases hu with ⟨_, hu⟩ | ⟨h, _⟩
  case inr => omega
  rcases hv with ⟨_, hv⟩ | ⟨h, _⟩
  case inr => omega
  obtain ⟨x, hx, ex, hxm⟩ := best_of (os := os) (r := r) (al_ne hu)
  obtain ⟨y, hy, ey, hym⟩ := best_of (os := os) (r := r) (al_ne hv)
  have hpx : p = prO os x ∧ (prO os x).volume ≠ 0 := by
    unfold chB at hc
    rw [ex] at hc
    by_cases h0 : (prO os x).volume = 0
    · rw [if_pos h0] at hc
      have := (Prod.mk.injEq _ _ _ _).mp hc
      cases this.2
    · rw [if_neg h0] at hc
      exact ⟨((Prod.mk.injEq _ _ _ _).mp hc).1.symm, h0⟩
  have hpp : p.price = x := by rw [hpx.1]; rfl
  have hxv : x ∈ v := by
    refine (hv.mem x).2 ?_
    rcases (hu.mem x).1 hx with ⟨o, k1, k2, k3⟩ | k
    · exact .inl ⟨o, k1, k2, by omega⟩
    · exact .inr k
  have hyu : y ∈ u := by
    refine (hu.mem y).2 ?_
    rcases (hv.mem y).1 hy with ⟨o, k1, k2, k3⟩ | k
    · exact .inl ⟨o, k1, k2, by omega⟩
    · exact .inr k
  have hxy : x = y := lt_tie (hym x hxv) (hxm y hyu)
  subst hxy
  unfold chB
  rw [ey, if_neg hpx.2, ← hpx.1]
/-! ### the most volume -/
theorem dem_cong {os : List Ord} {p q : Int} (h : ∀ o ∈ os, p ≤ o.price ↔ q ≤ o.price) : dem os p = dem os q := by
  unfold dem
  refine qsum_cong (fun o ho => ?_)
  have := h o ho
  exact decide_eq_decide.2 ⟨fun h1 => ⟨h1.1, this.1 h1.2⟩, fun h1 => ⟨h1.1, this.2 h1.2⟩⟩
theorem sup_cong {os : List Ord} {p q : Int} (h : ∀ o ∈ os, o.price ≤ p ↔ o.price ≤ q) : sup os p = sup os q := by
  unfold sup
  refine qsum_cong (fun o ho => ?_)
  have := h o ho
  exact decide_eq_decide.2 ⟨fun h1 => ⟨h1.1, this.1 h1.2⟩, fun h1 => ⟨h1.1, this.2 h1.2⟩⟩
theorem ex_min (P : Int → Prop) : ∀ {os : List Ord}, (∃ o ∈ os, P o.price) → ∃ o ∈ os, P o.price ∧ ∀ x ∈ os, P x.price → o.price ≤ x.price
  | [], ⟨o, h, _⟩ => by cases h
  | a :: os, h => by
    by_cases h2 : ∃ o ∈ os, P o.price
    · obtain ⟨o, k1, k2, k3⟩ := ex_min P h2
      by_cases ha : P a.price ∧ a.price ≤ o.price
      · exact ⟨a, List.mem_cons_self .., ha.1, fun x hx hp => by
          rcases List.mem_cons.1 hx with rfl | hx
          · omega
          · have := k3 x hx hp; omega⟩
      · exact ⟨o, List.mem_cons_of_mem _ k1, k2, fun x hx hp => by
          rcases List.mem_cons.1 hx with rfl | hx
          · have : ¬ x.price ≤ o.price := fun e => ha ⟨hp, e⟩
            omega
          · exact k3 x hx hp⟩
    · obtain ⟨o, k1, k2⟩ := h
      rcases List.mem_cons.1 k1 with rfl | k1
      · exact ⟨o, List.mem_cons_self .., k2, fun x hx hp => by
          rcases List.mem_cons.1 hx with rfl | hx
          · omega
          · exact absurd ⟨x, hx, hp⟩ h2⟩
      · exact absurd ⟨o, k1, k2⟩ h2
theorem ex_max (P : Int → Prop) : ∀ {os : List Ord}, (∃ o ∈ os, P o.price) → ∃ o ∈ os, P o.price ∧ ∀ x ∈ os, P x.price → x.price ≤ o.price
  | [], ⟨o, h, _⟩ => by cases h
  | a :: os, h => by
    by_cases h2 : ∃ o ∈ os, P o.price
    · obtain ⟨o, k1, k2, k3⟩ := ex_max P h2
      by_cases ha : P a.price ∧ o.price ≤ a.price
      · exact ⟨a, List.mem_cons_self .., ha.1, fun x hx hp => by
          rcases List.mem_cons.1 hx with rfl | hx
          · omega
          · have := k3 x hx hp; omega⟩
      · exact ⟨o, List.mem_cons_of_mem _ k1, k2, fun x hx hp => by
          rcases List.mem_cons.1 hx with rfl | hx
          · have : ¬ o.price ≤ x.price := fun e => ha ⟨hp, e⟩
            omega
          · exact k3 x hx hp⟩
    · obtain ⟨o, k1, k2⟩ := h
      rcases List.mem_cons.1 k1 with rfl | k1
      · exact ⟨o, List.mem_cons_self .., k2, fun x hx hp => by
          rcases List.mem_cons.1 hx with rfl | hx
          · omega
          · exact absurd ⟨x, hx, hp⟩ h2⟩
      · exact absurd ⟨o, k1, k2⟩ h2
theorem prO_vol (os : List Ord) (p : Int) : (prO os p).volume = min (dem os p) (sup os p) := rfl
theorem most_vol {os : List Ord} (hq : ∀ o ∈ os, 0 ≤ o.qty) {lo hi near : Int} {u : List Int} (h : Al lo hi near os u) (h1 : lo ≤ near) (h2 : near ≤ hi) {p : Int} (h3 : lo ≤ p) (h4 : p ≤ hi) : ∃ x ∈ u, (prO os p).volume ≤ (prO os x).volume := by
  by_cases hA : ∃ o ∈ os, p ≤ o.price ∧ o.price ≤ hi
  · obtain ⟨o, k1, k2, k3⟩ := ex_min (fun z => p ≤ z ∧ z ≤ hi) hA
    refine ⟨o.price, (h.mem _).2 (.inl ⟨o, k1, rfl, by omega⟩), ?_⟩
    have e1 : dem os p = dem os o.price := dem_cong (fun x hx => ⟨fun hp => by
      by_cases hh : x.price ≤ hi
      · exact k3 x hx ⟨hp, hh⟩
      · omega, fun hp => by omega⟩)
    have e2 := sup_mono hq k2.1
    rw [prO_vol, prO_vol, ← e1]
    omega
  · by_cases hB : ∃ o ∈ os, lo ≤ o.price ∧ o.price < p
    · obtain ⟨o, k1, k2, k3⟩ := ex_max (fun z => lo ≤ z ∧ z < p) hB
      refine ⟨o.price, (h.mem _).2 (.inl ⟨o, k1, rfl, by omega⟩), ?_⟩
      have e1 : sup os p = sup os o.price := sup_cong (fun x hx => ⟨fun hp => by
        by_cases hh : x.price < p
        · by_cases hl : lo ≤ x.price
          · exact k3 x hx ⟨hl, hh⟩
          · omega
        · exact absurd ⟨x, hx, by omega, by omega⟩ hA, fun hp => by omega⟩)
      have e2 := dem_mono hq (show o.price ≤ p by omega)
      rw [prO_vol, prO_vol, ← e1]
      omega
    · refine ⟨near, (h.mem _).2 (.inr rfl), ?_⟩
      have hno : ∀ x ∈ os, x.price < lo ∨ hi < x.price := fun x hx => by
        by_cases k1 : lo ≤ x.price
        · by_cases k2 : x.price ≤ hi
          · by_cases k3 : p ≤ x.price
            · exact absurd ⟨x, hx, k3, k2⟩ hA
            · exact absurd ⟨x, hx, k1, by omega⟩ hB
          · omega
        · omega
      have e1 : dem os p = dem os near := dem_cong (fun x hx => by have := hno x hx; omega)
      have e2 : sup os p = sup os near := sup_cong (fun x hx => by have := hno x hx; omega)
      rw [prO_vol, prO_vol, e1, e2]
      exact Int.le_refl _
theorem vol_nn {os : List Ord} (hq : ∀ o ∈ os, 0 ≤ o.qty) (p : Int) : 0 ≤ (prO os p).volume := by
  rw [prO_vol]
  have h1 : 0 ≤ dem os p := Cu.qsum_nn (fun o ho => hq o (List.mem_filter.1 ho).1)
  have h2 : 0 ≤ sup os p := Cu.qsum_nn (fun o ho => hq o (List.mem_filter.1 ho).1)
  omega
/-- What ClearMost says of the price that is chosen. -/
theorem most {os : List Ord} (hq : ∀ o ∈ os, 0 ≤ o.qty) {r lo hi p : Int} {u : List Int} (hu : Alx lo hi r os u) (h1 : 1 ≤ lo) (h2 : hi ≤ 1099511627776) (h3 : lo ≤ p) (h4 : p ≤ hi) :
    (chB os r u = (⟨0, 0, 0⟩, false) ∧ (prO os p).volume = 0) ∨ ∃ x, chB os r u = (prO os x, true) ∧ lo ≤ x ∧ x ≤ hi ∧ (prO os p).volume ≤ (prO os x).volume ∧ ((∃ o ∈ os, o.price = p) → (prO os p).volume = (prO os x).volume → (prO os x).odds ≤ (prO os p).odds) := by
  have e1 : max lo 1 = lo := by omega
  have e2 : min hi 1099511627776 = hi := by omega
  unfold Alx at hu
  rw [e1, e2] at hu
  rcases hu with ⟨hlh, hu⟩ | ⟨h, _⟩
  case inr => omega
  have hn1 : lo ≤ min (max r lo) hi := by omega
  have hn2 : min (max r lo) hi ≤ hi := by omega
  obtain ⟨x, hx, ex, hxm⟩ := best_of (os := os) (r := r) (al_ne hu)
  obtain ⟨y, hy, hyv⟩ := most_vol hq hu hn1 hn2 h3 h4
  have hv := (lt_vol (hxm y hy)).1
  have hnn := vol_nn hq p
  unfold chB
  rw [ex]
  by_cases h0 : (prO os x).volume = 0
  · rw [if_pos h0]
    exact .inl ⟨rfl, by omega⟩
  · rw [if_neg h0]
    have hxb : lo ≤ x ∧ x ≤ hi := by
      rcases (hu.mem x).1 hx with ⟨o, k1, k2, k3⟩ | k
      · exact k3
      · rw [k]; exact ⟨hn1, hn2⟩
    refine .inr ⟨x, rfl, hxb.1, hxb.2, by omega, fun ⟨o, k1, k2⟩ hve => ?_⟩
    exact (lt_vol (hxm p ((hu.mem p).2 (.inl ⟨o, k1, k2, h3, h4⟩)))).2 hve
end Cl
end Go.Proofs.YtacpjpkhmdcagaaGreat
