/- This text proves plain laws on lists of orders: a side's list by price and time, and what it sums up to. It has no conditions but those that it states. This text proves how a side's levels tell of a list of orders: plain laws. It has no conditions but those that it states. -/
import Derived.Test.YtacpjpkhmdcagaaGreatBkW
import Derived.Test.YtacpjpkhmdcagaaGreatBkC
import Derived.Test.YtacpjpkhmdcagaaGreatBkL
import Derived.Test.YtacpjpkhmdcagaaGreatLadS
namespace Go.Proofs.YtacpjpkhmdcagaaGreat
set_option linter.unusedVariables false
namespace Bk
/-- Is a price better than another one? -/
def bet (n a b : Int) : Bool := decide ((n = 0 ∧ b < a) ∨ (n = 1 ∧ a < b))
def insO (n : Int) (o : Ord) (l : List Ord) : List Ord := l.takeWhile (fun x => !bet n o.price x.price) ++ o :: l.dropWhile (fun x => !bet n o.price x.price)
def sdO (n : Int) (os : List Ord) : List Ord := os.filter fun o => decide (o.side = n)
/-- A side's orders, by price and time. -/
def srt (n : Int) (os : List Ord) : List Ord := (sdO n os).foldl (fun acc o => insO n o acc) []
def atO (n p : Int) (os : List Ord) : List Ord := os.filter fun o => decide (o.side = n ∧ o.price = p)
def qsum : List Ord → Int
  | [] => 0
  | x :: l => x.qty + qsum l
theorem qsum_app (a b : List Ord) : qsum (a ++ b) = qsum a + qsum b := by
  induction a with
  | nil => simp [qsum]
  | cons x l ih => simp [qsum, ih]; omega
theorem qsum_perm {a b : List Ord} (h : a.Perm b) : qsum a = qsum b := by
  induction h with
  | nil => rfl
  | cons x _ ih => simp [qsum, ih]
  | swap x y l => simp [qsum]; omega
  | trans _ _ ih1 ih2 => exact ih1.trans ih2
theorem bet_self (n a : Int) : bet n a a = false := by
  unfold bet
  simp
theorem bet_anti {n a b : Int} (h : bet n a b = true) : bet n b a = false := by
  unfold bet at *
  simp only [decide_eq_true_eq, decide_eq_false_iff_not] at *
  omega
theorem ins_perm (n : Int) (o : Ord) (l : List Ord) : (insO n o l).Perm (o :: l) := by
  unfold insO
  refine List.perm_middle.trans (List.Perm.cons o ?_)
  rw [List.takeWhile_append_dropWhile]
theorem fold_perm (n : Int) : ∀ (l acc : List Ord), (l.foldl (fun acc o => insO n o acc) acc).Perm (l ++ acc)
  | [], acc => List.Perm.refl _
  | o :: l, acc => ((fold_perm n l (insO n o acc)).trans ((ins_perm n o acc).append_left l)).trans List.perm_middle
theorem srt_perm (n : Int) (os : List Ord) : (srt n os).Perm (sdO n os) := by
  have := fold_perm n (sdO n os) []
  rw [List.append_nil] at this
  exact this
theorem srt_snoc (n : Int) (os : List Ord) (o : Ord) : srt n (os ++ [o]) = if o.side = n then insO n o (srt n os) else srt n os := by
  unfold srt sdO
  rw [List.filter_append, List.foldl_append]
  by_cases h : o.side = n <;> simp [h]
theorem while_none {l : List Ord} {p : Ord → Bool} (h : ∀ x ∈ l, p x = false) : l.takeWhile p = [] ∧ l.dropWhile p = l := by
  cases l with
  | nil => exact ⟨rfl, rfl⟩
  | cons a l =>
    have := h a (by simp)
    simp [this]
theorem ins_flat {n : Int} {F : Int → List Ord} {o : Ord} : ∀ {ps : List Int}, ps.Pairwise (fun a b => bet n a b = true) → (∀ p ∈ ps, ∀ x ∈ F p, x.price = p) → o.price ∈ ps →
    insO n o (ps.flatMap F) = ps.flatMap (fun p => if p = o.price then F p ++ [o] else F p)
  | [], _, _, h => by cases h
  | p :: ps, hps, hF, ho => by
    rw [List.pairwise_cons] at hps
    obtain ⟨hp, hps⟩ := hps
    have hF0 := hF p (by simp)
    have hF1 : ∀ q ∈ ps, ∀ x ∈ F q, x.price = q := fun q hq => hF q (by simp [hq])
    have hpass : ∀ x ∈ F p, (!bet n o.price x.price) = true := fun x hx => by
      rw [hF0 x hx]
      by_cases e : p = o.price
      · rw [e, bet_self]; rfl
      · have hm : o.price ∈ ps := by
          rcases List.mem_cons.1 ho with h | h
          · exact absurd h.symm e
          · exact h
        rw [bet_anti (hp _ hm)]
        rfl
    rw [List.flatMap_cons, List.flatMap_cons]
    unfold insO
    rw [List.takeWhile_append_of_pos hpass, List.dropWhile_append_of_pos hpass]
    by_cases e : p = o.price
    · rw [if_pos e]
      have hno : ∀ x ∈ ps.flatMap F, (!bet n o.price x.price) = false := fun x hx => by
        obtain ⟨q, hq, hxq⟩ := List.mem_flatMap.1 hx
        rw [hF1 q hq x hxq, ← e, hp q hq]
        rfl
      obtain ⟨h1, h2⟩ := while_none hno
      rw [h1, h2]
      have h3 : (ps.flatMap fun p => if p = o.price then F p ++ [o] else F p) = ps.flatMap F := by
        have : ∀ q ∈ ps, (if q = o.price then F q ++ [o] else F q) = F q := fun q hq => by
          rw [if_neg]
          intro e2
          have h4 := hp q hq
          rw [e2, ← e, bet_self] at h4
          cases h4
        have h5 : (ps.map fun p => if p = o.price then F p ++ [o] else F p) = ps.map F := List.map_congr_left this
        rw [List.flatMap_def, List.flatMap_def, h5]
      rw [h3]
      simp
    · rw [if_neg e]
      have hm : o.price ∈ ps := by
        rcases List.mem_cons.1 ho with h | h
        · exact absurd h.symm e
        · exact h
      have ih := ins_flat hps hF1 hm
      unfold insO at ih
      rw [← ih]
      simp
theorem atO_app (n p : Int) (a b : List Ord) : atO n p (a ++ b) = atO n p a ++ atO n p b := List.filter_append ..
theorem atO_price {n p : Int} {os : List Ord} {x : Ord} (h : x ∈ atO n p os) : x.side = n ∧ x.price = p := by
  unfold atO at h
  simpa using (List.mem_filter.1 h).2
theorem fold_flat {n : Int} {ps : List Int} (hps : ps.Pairwise (fun a b => bet n a b = true)) : ∀ (l pre : List Ord), (∀ o ∈ l, o.side = n → o.price ∈ ps) →
    (sdO n l).foldl (fun acc o => insO n o acc) (ps.flatMap fun p => atO n p pre) = ps.flatMap fun p => atO n p (pre ++ l)
  | [], pre, _ => by rw [List.append_nil]; rfl
  | o :: l, pre, hc => by
    have ih := fold_flat hps l (pre ++ [o]) (fun x hx => hc x (by simp [hx]))
    rw [List.append_assoc, List.singleton_append] at ih
    rw [← ih]
    by_cases e : o.side = n
    · have h1 : sdO n (o :: l) = o :: sdO n l := by simp [sdO, e]
      rw [h1, List.foldl_cons, ins_flat hps (fun p _ x hx => (atO_price hx).2) (hc o (by simp) e)]
      congr 1
      have h2 : ∀ p, (if p = o.price then atO n p pre ++ [o] else atO n p pre) = atO n p (pre ++ [o]) := fun p => by
        rw [atO_app]
        by_cases e2 : p = o.price
        · rw [if_pos e2]
          simp [atO, e, e2]
        · rw [if_neg e2]
          have : ¬ o.price = p := fun h => e2 h.symm
          simp [atO, this]
      rw [funext h2]
    · have h1 : sdO n (o :: l) = sdO n l := by simp [sdO, e]
      have h2 : ∀ p, atO n p (pre ++ [o]) = atO n p pre := fun p => by
        rw [atO_app]
        simp [atO, e]
      rw [h1, funext h2]
/-- A side's list, level by level. -/
theorem srt_flat {n : Int} {ps : List Int} (hps : ps.Pairwise (fun a b => bet n a b = true)) {os : List Ord} (hc : ∀ o ∈ os, o.side = n → o.price ∈ ps) : srt n os = ps.flatMap fun p => atO n p os := by
  have h := fold_flat hps os [] hc
  have h0 : (ps.flatMap fun p => atO n p []) = [] := by
    rw [List.flatMap_eq_nil_iff]
    exact fun _ _ => rfl
  rw [h0] at h
  exact h
theorem qsum_flat {F : Int → List Ord} : ∀ ps : List Int, qsum (ps.flatMap F) = (ps.map fun p => qsum (F p)).sum
  | [] => rfl
  | p :: ps => by rw [List.flatMap_cons, qsum_app, qsum_flat ps]; simp
end Bk
end Go.Proofs.YtacpjpkhmdcagaaGreat
namespace Go.Proofs.YtacpjpkhmdcagaaGreat
set_option linter.unusedVariables false
open Go.RowKit
namespace Bk
open Lad (keyF keys keys_at Up up_pw anyP fndP wsum sumL)
def osOf (ss : List Sl) : List Ord := ss.map (·.2)
theorem sumq_map : ∀ xs : List Sl, sumq xs = qsum (xs.map (·.2))
  | [] => rfl
  | x :: xs => by simp [sumq, qsum, sumq_map xs]
theorem atp_map (n : Nat) (p : Int) (ss : List Sl) : (atp p (sid n ss)).map (·.2) = atO (n : Int) p (osOf ss) := by
  unfold atp sid atO osOf
  rw [List.filter_filter]
  induction ss with
  | nil => rfl
  | cons x l ih =>
    by_cases h1 : x.2.side = (n : Int) <;> by_cases h2 : x.2.price = p <;> simp_all
theorem bet_key {n a b : Int} (hn : n = 0 ∨ n = 1) (ha : 1 ≤ a ∧ a ≤ 1099511627776) (hb : 1 ≤ b ∧ b ≤ 1099511627776) (h : keyF n a < keyF n b) : bet n a b = true := by
  unfold keyF at h
  unfold bet
  simp only [decide_eq_true_eq]
  rcases hn with rfl | rfl
  · rw [if_pos rfl, if_pos rfl] at h
    unfold wrap64 at h
    exact .inl ⟨rfl, by omega⟩
  · rw [if_neg (by decide), if_neg (by decide)] at h
    exact .inr ⟨rfl, h⟩
theorem key_bet {n a b : Int} (hn : n = 0 ∨ n = 1) (ha : 1 ≤ a ∧ a ≤ 1099511627776) (hb : -4611686018427387904 < b ∧ b ≤ 9223372036854775807) : decide (keyF n a ≤ keyF n b) = !bet n b a := by
  unfold keyF bet
  rcases hn with rfl | rfl
  · rw [if_pos rfl, if_pos rfl]
    unfold wrap64
    rw [← decide_not]
    refine decide_eq_decide.2 ⟨fun h => ?_, fun h => ?_⟩ <;> omega
  · rw [if_neg (by decide), if_neg (by decide)]
    rw [← decide_not]
    refine decide_eq_decide.2 ⟨fun h => ?_, fun h => ?_⟩ <;> omega
section
variable {n : Nat} {most : Nat} {ss : List Sl} {ls : List Lvl} {u : Nat → Nat} {L : Nat → List Nat}
theorem ls_bet (hn : n < 2) (S : SI (n : Int) most (sid n ss) ls u L) : (ls.map (·.price)).Pairwise (fun a b => bet (n : Int) a b = true) := by
  refine List.pairwise_map.2 (((up_pw (n : Int) ls).1 S.up).imp_of_mem fun {a b} ha hb h => bet_key (by omega) (S.lv a ha).rng (S.lv b hb).rng h)
theorem ls_cover (S : SI (n : Int) most (sid n ss) ls u L) : ∀ o ∈ osOf ss, o.side = (n : Int) → o.price ∈ ls.map (·.price) := by
  intro o ho e
  obtain ⟨x, hx, rfl⟩ := List.mem_map.1 ho
  obtain ⟨l, hl, h⟩ := S.all x (List.mem_filter.2 ⟨hx, by simpa using e⟩)
  exact List.mem_map.2 ⟨l, hl, h⟩
theorem ls_srt (hn : n < 2) (S : SI (n : Int) most (sid n ss) ls u L) : srt (n : Int) (osOf ss) = ls.flatMap fun l => atO (n : Int) l.price (osOf ss) := by
  rw [srt_flat (ls_bet hn S) (ls_cover S), List.flatMap_map]
theorem lv_at (S : SI (n : Int) most (sid n ss) ls u L) {l : Lvl} (hl : l ∈ ls) : l.qty = qsum (atO (n : Int) l.price (osOf ss)) := by
  rw [(S.lv l hl).qty, sumq_map, atp_map]
/-- The first order of a side: it heads the first level's queue. -/
theorem ls_front (hn : n < 2) (S : SI (n : Int) most (sid n ss) ls u L) {l : Lvl} {t : List Lvl} (h : ls = l :: t) : ∃ (k : Nat) (o : Ord) (q : List Nat) (r : List Ord), L l.queue.toNat = k :: q ∧ (k, o) ∈ ss ∧ o.price = l.price ∧ o.side = (n : Int) ∧ srt (n : Int) (osOf ss) = o :: r := by
  have hl : l ∈ ls := by rw [h]; simp
  have V := S.lv l hl
  have h1 := V.orders
  have h2 := V.some
  cases ha : atp l.price (sid n ss) with
  | nil => rw [ha] at h1; simp at h1; omega
  | cons x xs =>
    have hx : x ∈ atp l.price (sid n ss) := by rw [ha]; simp
    have hx2 := List.mem_filter.1 hx
    have hx3 := List.mem_filter.1 hx2.1
    have hm := atp_map n l.price ss
    rw [ha, List.map_cons] at hm
    refine ⟨x.1, x.2, xs.map (·.1), xs.map (·.2) ++ t.flatMap fun l => atO (n : Int) l.price (osOf ss), by rw [V.list, ha]; rfl, hx3.1, by simpa using hx2.2, by simpa using hx3.2, ?_⟩
    rw [ls_srt hn S, h, List.flatMap_cons, ← hm]
    simp
theorem ls_none (hn : n < 2) (S : SI (n : Int) most (sid n ss) [] u L) : srt (n : Int) (osOf ss) = [] := by
  rw [ls_srt hn S]
  rfl
theorem ls_any (S : SI (n : Int) most (sid n ss) ls u L) (p : Int) : anyP p ls = (osOf ss).any fun o => decide (o.side = (n : Int) ∧ o.price = p) := by
  rw [Bool.eq_iff_iff]
  unfold anyP
  rw [List.any_eq_true, List.any_eq_true]
  constructor
  · rintro ⟨l, hl, h⟩
    simp only [decide_eq_true_eq] at h
    have V := S.lv l hl
    have h1 := V.orders
    have h2 := V.some
    cases ha : atp l.price (sid n ss) with
    | nil => rw [ha] at h1; simp at h1; omega
    | cons x xs =>
      have hx : x ∈ atp l.price (sid n ss) := by rw [ha]; simp
      have hx2 := List.mem_filter.1 hx
      have hx3 := List.mem_filter.1 hx2.1
      refine ⟨x.2, List.mem_map.2 ⟨x, hx3.1, rfl⟩, ?_⟩
      have e1 : x.2.price = l.price := by simpa using hx2.2
      have e2 : x.2.side = (n : Int) := by simpa using hx3.2
      simp [e1, e2, h]
  · rintro ⟨o, ho, h⟩
    simp only [decide_eq_true_eq] at h
    obtain ⟨l, hl, e⟩ := List.mem_map.1 (ls_cover S o ho h.1)
    exact ⟨l, hl, by simpa [h.2] using e⟩
theorem ls_at (S : SI (n : Int) most (sid n ss) ls u L) (p : Int) : (fndP p ls).qty = qsum (atO (n : Int) p (osOf ss)) := by
  unfold fndP
  cases h : ls.find? fun l => decide (l.price = p) with
  | some l =>
    have h1 := List.find?_some h
    simp only [decide_eq_true_eq] at h1
    have := lv_at S (List.mem_of_find?_eq_some h)
    rw [h1] at this
    exact this
  | none =>
    have h0 : anyP p ls = false := by
      unfold anyP
      rw [List.any_eq_false]
      exact fun y hy => by simpa using List.find?_eq_none.1 h y hy
    rw [ls_any S, List.any_eq_false] at h0
    have : atO (n : Int) p (osOf ss) = [] := by
      unfold atO
      rw [List.filter_eq_nil_iff]
      exact h0
    rw [this]
    rfl
theorem sum_flat {F : Lvl → List Ord} {c : Lvl → Bool} (hq : ∀ l ∈ ls, l.qty = qsum (F l)) : sumL (ls.filter c) = qsum ((ls.filter c).flatMap F) := by
  induction ls with
  | nil => rfl
  | cons l t ih =>
    have ih := ih (fun x hx => hq x (by simp [hx]))
    by_cases h : c l = true
    · rw [List.filter_cons_of_pos h]
      simp [sumL, qsum_app, ih, hq l (by simp)]
    · rw [List.filter_cons_of_neg h]
      exact ih
theorem flat_filter {F : Lvl → List Ord} {c : Lvl → Bool} {d : Ord → Bool} (h : ∀ l ∈ ls, ∀ x ∈ F l, d x = c l) : (ls.filter c).flatMap F = (ls.flatMap F).filter d := by
  induction ls with
  | nil => rfl
  | cons l t ih =>
    have ih := ih (fun x hx => h x (by simp [hx]))
    have hl := h l (by simp)
    rw [List.flatMap_cons, List.filter_append, ← ih]
    by_cases hc : c l = true
    · have h5 : (F l).filter d = F l := List.filter_eq_self.2 (fun x hx => by rw [hl x hx, hc])
      rw [List.filter_cons_of_pos hc, List.flatMap_cons, h5]
    · have h5 : (F l).filter d = [] := List.filter_eq_nil_iff.2 (fun x hx => by rw [hl x hx]; exact hc)
      rw [List.filter_cons_of_neg hc, h5]
      simp
/-- What a side has up to a limit. -/
def worthO (n lim : Int) (os : List Ord) : Int := qsum (os.filter fun o => decide (o.side = n) && !bet n lim o.price)
theorem ls_worth (hn : n < 2) (S : SI (n : Int) most (sid n ss) ls u L) {p : Int} (hp : -4611686018427387904 < p ∧ p ≤ 9223372036854775807) : wsum (n : Int) p ls = worthO (n : Int) p (osOf ss) := by
  unfold wsum
  rw [sum_flat (F := fun l => atO (n : Int) l.price (osOf ss)) (fun l hl => lv_at S hl), flat_filter (d := fun o => !bet (n : Int) p o.price) (fun l hl x hx => by
    rw [(atO_price hx).2]
    exact (key_bet (by omega) (S.lv l hl).rng hp).symm), ← ls_srt hn S]
  unfold worthO
  rw [qsum_perm ((srt_perm (n : Int) (osOf ss)).filter _)]
  unfold sdO
  rw [List.filter_filter]
  congr 2
  funext o
  rw [Bool.and_comm]
/-- The prices of a side, each once, in the order in which they came. -/
def dst (l : List Int) : List Int := l.foldl (fun acc p => if p ∈ acc then acc else acc ++ [p]) []
theorem dst_fold : ∀ (l acc : List Int), acc.Nodup → (l.foldl (fun acc p => if p ∈ acc then acc else acc ++ [p]) acc).Nodup ∧ ∀ q, q ∈ l.foldl (fun acc p => if p ∈ acc then acc else acc ++ [p]) acc ↔ q ∈ acc ∨ q ∈ l
  | [], acc, h => ⟨h, fun q => by simp⟩
  | p :: l, acc, h => by
    rw [List.foldl_cons]
    by_cases hp : p ∈ acc
    · rw [if_pos hp]
      obtain ⟨h1, h2⟩ := dst_fold l acc h
      refine ⟨h1, fun q => ?_⟩
      rw [h2, List.mem_cons]
      constructor
      · rintro (h | h)
        · exact .inl h
        · exact .inr (.inr h)
      · rintro (h | rfl | h)
        · exact .inl h
        · exact .inl hp
        · exact .inr h
    · rw [if_neg hp]
      obtain ⟨h1, h2⟩ := dst_fold l (acc ++ [p]) (by
        rw [List.nodup_append]
        exact ⟨h, by simp, fun a ha b hb e => by rw [List.mem_singleton] at hb; subst hb; subst e; exact hp ha⟩)
      refine ⟨h1, fun q => ?_⟩
      rw [h2]
      simp only [List.mem_append, List.mem_cons, List.not_mem_nil, or_false]
      exact or_assoc
theorem dst_nodup (l : List Int) : (dst l).Nodup := (dst_fold l [] List.nodup_nil).1
theorem dst_mem (l : List Int) (q : Int) : q ∈ dst l ↔ q ∈ l := by
  refine ((dst_fold l [] List.nodup_nil).2 q).trans ?_
  simp
def prices (n : Int) (os : List Ord) : List Int := (sdO n os).map (·.price)
theorem ls_count (hn : n < 2) (S : SI (n : Int) most (sid n ss) ls u L) : ls.length = (dst (prices (n : Int) (osOf ss))).length := by
  have hnd : (ls.map (·.price)).Nodup := (ls_bet hn S).imp (fun {a b} h e => by rw [e, bet_self] at h; cases h)
  have hp : (ls.map (·.price)).Perm (dst (prices (n : Int) (osOf ss))) := (List.perm_ext_iff_of_nodup hnd (dst_nodup _)).2 fun q => by
    rw [dst_mem]
    constructor
    · intro hq
      obtain ⟨l, hl, rfl⟩ := List.mem_map.1 hq
      have h1 : anyP l.price ls = true := by
        unfold anyP
        rw [List.any_eq_true]
        exact ⟨l, hl, by simp⟩
      rw [ls_any S, List.any_eq_true] at h1
      obtain ⟨o, ho, h2⟩ := h1
      simp only [decide_eq_true_eq] at h2
      exact List.mem_map.2 ⟨o, List.mem_filter.2 ⟨ho, by simpa using h2.1⟩, h2.2⟩
    · intro hq
      obtain ⟨o, ho, rfl⟩ := List.mem_map.1 hq
      have h1 := List.mem_filter.1 ho
      exact ls_cover S o h1.1 (by simpa using h1.2)
  have := hp.length_eq
  rw [List.length_map] at this
  exact this
end
/-- Does a price fit in a side's levels? -/
def fitsO (most : Nat) (n p : Int) (os : List Ord) : Bool := decide (n = 0 ∨ n = 1) && (os.any (fun o => decide (o.side = n ∧ o.price = p)) || decide ((dst (prices n os)).length < most))
end Bk
end Go.Proofs.YtacpjpkhmdcagaaGreat
