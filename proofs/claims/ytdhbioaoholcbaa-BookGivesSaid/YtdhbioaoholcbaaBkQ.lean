/- This text proves how a side's levels tell of a list of orders: plain laws. It has no conditions but those that it states. -/
import Derived.Test.YtdhbioaoholcbaaBkP
import Derived.Test.YtdhbioaoholcbaaBkC
import Derived.Test.YtdhbioaoholcbaaBkL
import Derived.Test.YtdhbioaoholcbaaLadS
namespace Go.Proofs.Ytdhbioaoholcbaa
set_option linter.unusedVariables false
open Go.RowKit
namespace Bk
open Lad (keyF keys keys_at Up up_pw anyP fndP wsum sumL)
def osOf (ss : List Sl) : List Ord := ss.map (·.2)
theorem sumq_map : ∀ xs : List Sl, sumq xs = qsum (xs.map (·.2))
  | [] => rfl
  | x :: xs => by simp [sumq, qsum, sumq_map xs]
theorem atp_map (n : Nat) (p : Int) (ss : List Sl) : (atp p (sid n ss)).map (·.2) = atO (n : Int) p (osOf ss) := by
  unfold atp sid atO osOf
  rw [List.filter_filter]
  induction ss with
  | nil => rfl
  | cons x l ih =>
    by_cases h1 : x.2.side = (n : Int) <;> by_cases h2 : x.2.price = p <;> simp_all
theorem bet_key {n a b : Int} (hn : n = 0 ∨ n = 1) (ha : 1 ≤ a ∧ a ≤ 1099511627776) (hb : 1 ≤ b ∧ b ≤ 1099511627776) (h : keyF n a < keyF n b) : bet n a b = true := by
  unfold keyF at h
  unfold bet
  simp only [decide_eq_true_eq]
  rcases hn with rfl | rfl
  · rw [if_pos rfl, if_pos rfl] at h
    unfold wrap64 at h
    exact .inl ⟨rfl, by omega⟩
  · rw [if_neg (by decide), if_neg (by decide)] at h
    exact .inr ⟨rfl, h⟩
theorem key_bet {n a b : Int} (hn : n = 0 ∨ n = 1) (ha : 1 ≤ a ∧ a ≤ 1099511627776) (hb : -4611686018427387904 < b ∧ b ≤ 9223372036854775807) : decide (keyF n a ≤ keyF n b) = !bet n b a := by
  unfold keyF bet
  rcases hn with rfl | rfl
  · rw [if_pos rfl, if_pos rfl]
    unfold wrap64
    rw [← decide_not]
    refine decide_eq_decide.2 ⟨fun h => ?_, fun h => ?_⟩ <;> omega
  · rw [if_neg (by decide), if_neg (by decide)]
    rw [← decide_not]
    refine decide_eq_decide.2 ⟨fun h => ?_, fun h => ?_⟩ <;> omega
section
variable {n : Nat} {most : Nat} {ss : List Sl} {ls : List Lvl} {u : Nat → Nat} {L : Nat → List Nat}
theorem ls_bet (hn : n < 2) (S : SI (n : Int) most (sid n ss) ls u L) : (ls.map (·.price)).Pairwise (fun a b => bet (n : Int) a b = true) := by
  refine List.pairwise_map.2 (((up_pw (n : Int) ls).1 S.up).imp_of_mem fun {a b} ha hb h => bet_key (by omega) (S.lv a ha).rng (S.lv b hb).rng h)
theorem ls_cover (S : SI (n : Int) most (sid n ss) ls u L) : ∀ o ∈ osOf ss, o.side = (n : Int) → o.price ∈ ls.map (·.price) := by
  intro o ho e
  obtain ⟨x, hx, rfl⟩ := List.mem_map.1 ho
  obtain ⟨l, hl, h⟩ := S.all x (List.mem_filter.2 ⟨hx, by simpa using e⟩)
  exact List.mem_map.2 ⟨l, hl, h⟩
theorem ls_srt (hn : n < 2) (S : SI (n : Int) most (sid n ss) ls u L) : srt (n : Int) (osOf ss) = ls.flatMap fun l => atO (n : Int) l.price (osOf ss) := by
  rw [srt_flat (ls_bet hn S) (ls_cover S), List.flatMap_map]
theorem lv_at (S : SI (n : Int) most (sid n ss) ls u L) {l : Lvl} (hl : l ∈ ls) : l.qty = qsum (atO (n : Int) l.price (osOf ss)) := by
  rw [(S.lv l hl).qty, sumq_map, atp_map]
/-- The first order of a side: it heads the first level's queue. -/
theorem ls_front (hn : n < 2) (S : SI (n : Int) most (sid n ss) ls u L) {l : Lvl} {t : List Lvl} (h : ls = l :: t) : ∃ (k : Nat) (o : Ord) (q : List Nat) (r : List Ord), L l.queue.toNat = k :: q ∧ (k, o) ∈ ss ∧ o.price = l.price ∧ o.side = (n : Int) ∧ srt (n : Int) (osOf ss) = o :: r := by
  have hl : l ∈ ls := by rw [h]; simp
  have V := S.lv l hl
  have h1 := V.orders
  have h2 := V.some
  cases ha : atp l.price (sid n ss) with
  | nil => rw [ha] at h1; simp at h1; omega
  | cons x xs =>
    have hx : x ∈ atp l.price (sid n ss) := by rw [ha]; simp
    have hx2 := List.mem_filter.1 hx
    have hx3 := List.mem_filter.1 hx2.1
    have hm := atp_map n l.price ss
    rw [ha, List.map_cons] at hm
    refine ⟨x.1, x.2, xs.map (·.1), xs.map (·.2) ++ t.flatMap fun l => atO (n : Int) l.price (osOf ss), by rw [V.list, ha]; rfl, hx3.1, by simpa using hx2.2, by simpa using hx3.2, ?_⟩
    rw [ls_srt hn S, h, List.flatMap_cons, ← hm]
    simp
theorem ls_none (hn : n < 2) (S : SI (n : Int) most (sid n ss) [] u L) : srt (n : Int) (osOf ss) = [] := by
  rw [ls_srt hn S]
  rfl
theorem ls_any (S : SI (n : Int) most (sid n ss) ls u L) (p : Int) : anyP p ls = (osOf ss).any fun o => decide (o.side = (n : Int) ∧ o.price = p) := by
  rw [Bool.eq_iff_iff]
  unfold anyP
  rw [List.any_eq_true, List.any_eq_true]
  constructor
  · rintro ⟨l, hl, h⟩
    simp only [decide_eq_true_eq] at h
    have V := S.lv l hl
    have h1 := V.orders
    have h2 := V.some
    cases ha : atp l.price (sid n ss) with
    | nil => rw [ha] at h1; simp at h1; omega
    | cons x xs =>
      have hx : x ∈ atp l.price (sid n ss) := by rw [ha]; simp
      have hx2 := List.mem_filter.1 hx
      have hx3 := List.mem_filter.1 hx2.1
      refine ⟨x.2, List.mem_map.2 ⟨x, hx3.1, rfl⟩, ?_⟩
      have e1 : x.2.price = l.price := by simpa using hx2.2
      have e2 : x.2.side = (n : Int) := by simpa using hx3.2
      simp [e1, e2, h]
  · rintro ⟨o, ho, h⟩
    simp only [decide_eq_true_eq] at h
    obtain ⟨l, hl, e⟩ := List.mem_map.1 (ls_cover S o ho h.1)
    exact ⟨l, hl, by simpa [h.2] using e⟩
theorem ls_at (S : SI (n : Int) most (sid n ss) ls u L) (p : Int) : (fndP p ls).qty = qsum (atO (n : Int) p (osOf ss)) := by
  unfold fndP
  cases h : ls.find? fun l => decide (l.price = p) with
  | some l =>
    have h1 := List.find?_some h
    simp only [decide_eq_true_eq] at h1
    have := lv_at S (List.mem_of_find?_eq_some h)
    rw [h1] at this
    exact this
  | none =>
    have h0 : anyP p ls = false := by
      unfold anyP
      rw [List.any_eq_false]
      exact fun y hy => by simpa using List.find?_eq_none.1 h y hy
    rw [ls_any S, List.any_eq_false] at h0
    have : atO (n : Int) p (osOf ss) = [] := by
      unfold atO
      rw [List.filter_eq_nil_iff]
      exact h0
    rw [this]
    rfl
theorem sum_flat {F : Lvl → List Ord} {c : Lvl → Bool} (hq : ∀ l ∈ ls, l.qty = qsum (F l)) : sumL (ls.filter c) = qsum ((ls.filter c).flatMap F) := by
  induction ls with
  | nil => rfl
  | cons l t ih =>
    have ih := ih (fun x hx => hq x (by simp [hx]))
    by_cases h : c l = true
    · rw [List.filter_cons_of_pos h]
      simp [sumL, qsum_app, ih, hq l (by simp)]
    · rw [List.filter_cons_of_neg h]
      exact ih
theorem flat_filter {F : Lvl → List Ord} {c : Lvl → Bool} {d : Ord → Bool} (h : ∀ l ∈ ls, ∀ x ∈ F l, d x = c l) : (ls.filter c).flatMap F = (ls.flatMap F).filter d := by
  induction ls with
  | nil => rfl
  | cons l t ih =>
    have ih := ih (fun x hx => h x (by simp [hx]))
    have hl := h l (by simp)
    rw [List.flatMap_cons, List.filter_append, ← ih]
    by_cases hc : c l = true
    · have h5 : (F l).filter d = F l := List.filter_eq_self.2 (fun x hx => by rw [hl x hx, hc])
      rw [List.filter_cons_of_pos hc, List.flatMap_cons, h5]
    · have h5 : (F l).filter d = [] := List.filter_eq_nil_iff.2 (fun x hx => by rw [hl x hx]; exact hc)
      rw [List.filter_cons_of_neg hc, h5]
      simp
/-- What a side has up to a limit. -/
def worthO (n lim : Int) (os : List Ord) : Int := qsum (os.filter fun o => decide (o.side = n) && !bet n lim o.price)
theorem ls_worth (hn : n < 2) (S : SI (n : Int) most (sid n ss) ls u L) {p : Int} (hp : -4611686018427387904 < p ∧ p ≤ 9223372036854775807) : wsum (n : Int) p ls = worthO (n : Int) p (osOf ss) := by
  unfold wsum
  rw [sum_flat (F := fun l => atO (n : Int) l.price (osOf ss)) (fun l hl => lv_at S hl), flat_filter (d := fun o => !bet (n : Int) p o.price) (fun l hl x hx => by
    rw [(atO_price hx).2]
    exact (key_bet (by omega) (S.lv l hl).rng hp).symm), ← ls_srt hn S]
  unfold worthO
  rw [qsum_perm ((srt_perm (n : Int) (osOf ss)).filter _)]
  unfold sdO
  rw [List.filter_filter]
  congr 2
  funext o
  rw [Bool.and_comm]
/-- The prices of a side, each once, in the order in which they came. -/
def dst (l : List Int) : List Int := l.foldl (fun acc p => if p ∈ acc then acc else acc ++ [p]) []
theorem dst_fold : ∀ (l acc : List Int), acc.Nodup → (l.foldl (fun acc p => if p ∈ acc then acc else acc ++ [p]) acc).Nodup ∧ ∀ q, q ∈ l.foldl (fun acc p => if p ∈ acc then acc else acc ++ [p]) acc ↔ q ∈ acc ∨ q ∈ l
  | [], acc, h => ⟨h, fun q => by simp⟩
  | p :: l, acc, h => by
    rw [List.foldl_cons]
    by_cases hp : p ∈ acc
    · rw [if_pos hp]
      obtain ⟨h1, h2⟩ := dst_fold l acc h
      refine ⟨h1, fun q => ?_⟩
      rw [h2, List.mem_cons]
      constructor
      · rintro (h | h)
        · exact .inl h
        · exact .inr (.inr h)
      · rintro (h | rfl | h)
        · exact .inl h
        · exact .inl hp
        · exact .inr h
    · rw [if_neg hp]
      obtain ⟨h1, h2⟩ := dst_fold l (acc ++ [p]) (by
        rw [List.nodup_append]
        exact ⟨h, by simp, fun a ha b hb e => by rw [List.mem_singleton] at hb; subst hb; subst e; exact hp ha⟩)
      refine ⟨h1, fun q => ?_⟩
      rw [h2]
      simp only [List.mem_append, List.mem_cons, List.not_mem_nil, or_false]
      exact or_assoc
theorem dst_nodup (l : List Int) : (dst l).Nodup := (dst_fold l [] List.nodup_nil).1
theorem dst_mem (l : List Int) (q : Int) : q ∈ dst l ↔ q ∈ l := by
  refine ((dst_fold l [] List.nodup_nil).2 q).trans ?_
  simp
def prices (n : Int) (os : List Ord) : List Int := (sdO n os).map (·.price)
theorem ls_count (hn : n < 2) (S : SI (n : Int) most (sid n ss) ls u L) : ls.length = (dst (prices (n : Int) (osOf ss))).length := by
  have hnd : (ls.map (·.price)).Nodup := (ls_bet hn S).imp (fun {a b} h e => by rw [e, bet_self] at h; cases h)
  have hp : (ls.map (·.price)).Perm (dst (prices (n : Int) (osOf ss))) := (List.perm_ext_iff_of_nodup hnd (dst_nodup _)).2 fun q => by
    rw [dst_mem]
    constructor
    · intro hq
      obtain ⟨l, hl, rfl⟩ := List.mem_map.1 hq
      have h1 : anyP l.price ls = true := by
        unfold anyP
        rw [List.any_eq_true]
        exact ⟨l, hl, by simp⟩
      rw [ls_any S, List.any_eq_true] at h1
      obtain ⟨o, ho, h2⟩ := h1
      simp only [decide_eq_true_eq] at h2
      exact List.mem_map.2 ⟨o, List.mem_filter.2 ⟨ho, by simpa using h2.1⟩, h2.2⟩
    · intro hq
      obtain ⟨o, ho, rfl⟩ := List.mem_map.1 hq
      have h1 := List.mem_filter.1 ho
      exact ls_cover S o h1.1 (by simpa using h1.2)
  have := hp.length_eq
  rw [List.length_map] at this
  exact this
end
/-- Does a price fit in a side's levels? -/
def fitsO (most : Nat) (n p : Int) (os : List Ord) : Bool := decide (n = 0 ∨ n = 1) && (os.any (fun o => decide (o.side = n ∧ o.price = p)) || decide ((dst (prices n os)).length < most))
end Bk
end Go.Proofs.Ytdhbioaoholcbaa
