/- This text proves plain laws on the orders that an incoming order leaves: none of them cross, none is there twice, and how many there are. It has no conditions but those that it states. This text proves plain laws on a book behind an order that came: that it is not crossed, and that what rests is found. It has no conditions but those that it states. This text proves plain laws for MatchEnters: an order rests just where the document says so. It has no conditions but those that it states. -/
import Derived.Test.YtbnappiaomiciaaGreatMaV
namespace Go.Proofs.YtbnappiaomiciaaGreat
set_option linter.unusedVariables false
namespace Ma
open Bk (bet srt sdO fndI roomO addF addO frontO rmI redO redF rdI less crossO sided inRng fitsO prices dst okO)
open Sw (Tk Fl mk mkP wrs trd appF Pok rchO)
/-- Are two orders one and the same, but for the quantity? -/
def Alike (y x : Ord) : Prop := y.id = x.id ∧ y.side = x.side ∧ y.price = x.price
theorem rd_sub {id z : Int} {os : List Ord} {x : Ord} (h : x ∈ rdI id z os) : ∃ y ∈ os, Alike y x := by
  unfold rdI at h
  obtain ⟨y, hy, rfl⟩ := List.mem_map.1 h
  refine ⟨y, hy, ?_⟩
  split
  · exact ⟨rfl, rfl, rfl⟩
  · exact ⟨rfl, rfl, rfl⟩
theorem rm_sub {id : Int} {os : List Ord} {x : Ord} (h : x ∈ rmI id os) : x ∈ os ∧ x.id ≠ id := by
  unfold rmI at h
  obtain ⟨h1, h2⟩ := List.mem_filter.1 h
  exact ⟨h1, by simpa using h2⟩
theorem redO_sub {id z : Int} {os : List Ord} {x : Ord} (h : x ∈ redO id z os) : ∃ y ∈ os, Alike y x := by
  unfold redO at h
  split at h
  · exact ⟨x, h, rfl, rfl, rfl⟩
  · split at h
    · exact ⟨x, h, rfl, rfl, rfl⟩
    · split at h
      · exact ⟨x, (rm_sub h).1, rfl, rfl, rfl⟩
      · exact rd_sub h
theorem appF_sub : ∀ (fs : List Fl) (os : List Ord), ∀ x ∈ (appF fs os).2, ∃ y ∈ os, Alike y x
  | [], os, x, h => ⟨x, h, rfl, rfl, rfl⟩
  | f :: l, os, x, h => by
    unfold appF at h
    split at h
    · split at h
      · obtain ⟨y, hy, h1⟩ := appF_sub l _ x h
        exact ⟨y, (rm_sub hy).1, h1⟩
      · exact ⟨x, h, rfl, rfl, rfl⟩
    · split at h
      · obtain ⟨y, hy, h1⟩ := appF_sub l _ x h
        obtain ⟨z, hz, h2⟩ := redO_sub hy
        exact ⟨z, hz, h2.1.trans h1.1, h2.2.1.trans h1.2.1, h2.2.2.trans h1.2.2⟩
      · exact ⟨x, h, rfl, rfl, rfl⟩
/-- Fills that go with orders in a row: each with its order, whole but for the last one. -/
structure Goes (fs : List Fl) (l os : List Ord) : Prop where
  len : fs.length ≤ l.length
  ok : ∀ i (h1 : i < fs.length) (h2 : i < l.length), fs[i].id = l[i].id ∧ 1 ≤ fs[i].qty ∧ fs[i].qty ≤ l[i].qty ∧ (fs[i].gone = true → fs[i].qty = l[i].qty)
  full : ∀ i (h : i + 1 < fs.length) (h' : i < l.length), fs[i].qty = l[i].qty
  ids : (l.map (·.id)).Nodup
  nod : (os.map (·.id)).Nodup
  fnd : ∀ o ∈ l, fndI o.id os = some o
theorem fnd_in {id : Int} {os : List Ord} {o : Ord} (h : fndI id os = some o) : o ∈ os ∧ o.id = id := by
  unfold fndI at h
  exact ⟨List.mem_of_find?_eq_some h, by simpa using List.find?_some h⟩
/-- The first fill's step. -/
def stepO (f : Fl) (os : List Ord) : List Ord := if f.gone = true then rmI f.id os else redO f.id f.qty os
theorem rm_nod {id : Int} {os : List Ord} (h : (os.map (·.id)).Nodup) : ((rmI id os).map (·.id)).Nodup := h.sublist (List.Sublist.map _ List.filter_sublist)
theorem rd_ids (id z : Int) (os : List Ord) : (rdI id z os).map (·.id) = os.map (·.id) := by
  unfold rdI
  rw [List.map_map]
  refine List.map_congr_left (fun o _ => ?_)
  show (if o.id = id then less o z else o).id = o.id
  split <;> rfl
theorem Goes.step {f : Fl} {fs : List Fl} {o : Ord} {l os : List Ord} (G : Goes (f :: fs) (o :: l) os) : appF (f :: fs) os = appF fs (stepO f os) ∧ Goes fs l (stepO f os) ∧ (f.qty = o.qty → stepO f os = rmI o.id os) ∧ (f.qty ≠ o.qty → stepO f os = rdI o.id f.qty os ∧ fs = []) := by
  obtain ⟨h1, h2, h3, h4⟩ := G.ok 0 (by simp) (by simp)
  simp only [List.getElem_cons_zero] at h1 h2 h3 h4
  have hfo : fndI f.id os = some o := by rw [h1]; exact G.fnd o (by simp)
  have hids := G.ids
  rw [List.map_cons, List.nodup_cons] at hids
  have hne : ∀ x ∈ l, x.id ≠ f.id := fun x hx e => hids.1 (by rw [← h1, ← e]; exact List.mem_map.2 ⟨x, hx, rfl⟩)
  have hwh : f.qty = o.qty → stepO f os = rmI o.id os := fun e => by
    unfold stepO
    split
    · rw [h1]
    · unfold redO
      rw [hfo]
      simp only
      rw [if_neg (by omega), if_pos e, h1]
  have hpt : f.qty ≠ o.qty → stepO f os = rdI o.id f.qty os ∧ fs = [] := fun e => by
    refine ⟨?_, ?_⟩
    · unfold stepO
      rw [if_neg (fun hg => e (h4 hg))]
      unfold redO
      rw [hfo]
      simp only
      rw [if_neg (by omega), if_neg e, h1]
    · cases fs with
      | nil => rfl
      | cons g fs' =>
        have := G.full 0 (by simp) (by simp)
        simp only [List.getElem_cons_zero] at this
        exact absurd this e
  refine ⟨?_, ⟨by simpa using G.len, fun i a b => ?_, fun i a b => ?_, hids.2, ?_, fun x hx => ?_⟩, hwh, hpt⟩
  · unfold stepO
    conv => lhs; unfold appF
    by_cases hg : f.gone = true
    · rw [if_pos hg, if_pos hg, hfo]
      rfl
    · rw [if_neg hg, if_neg hg]
      have : (redF f.id f.qty os).1 = 0 := by
        unfold redF
        rw [hfo]
        simp only
        rw [if_neg (by omega)]
      rw [if_pos this]
  · have := G.ok (i + 1) (by simpa using a) (by simpa using b)
    simpa using this
  · have := G.full (i + 1) (by simpa using a) (by simpa using b)
    simpa using this
  · by_cases e : f.qty = o.qty
    · rw [hwh e]; exact rm_nod G.nod
    · rw [(hpt e).1, rd_ids]; exact G.nod
  · by_cases e : f.qty = o.qty
    · rw [hwh e, ← h1, Sw.fnd_rm (hne x hx)]; exact G.fnd x (by simp [hx])
    · rw [(hpt e).1, ← h1, Sw.fnd_rd (hne x hx)]; exact G.fnd x (by simp [hx])
theorem appF_none {id : Int} {fs : List Fl} {os : List Ord} (h : ∀ y ∈ os, y.id ≠ id) : ∀ x ∈ (appF fs os).2, x.id ≠ id := fun x hx e => by
  obtain ⟨y, hy, h1⟩ := appF_sub fs os x hx
  exact h y hy (h1.1.trans e)
/-- A whole fill's order is gone. -/
theorem Goes.gone : ∀ {fs : List Fl} {l os : List Ord}, Goes fs l os → ∀ i (h1 : i < fs.length) (h2 : i < l.length), fs[i].qty = l[i].qty → ∀ x ∈ (appF fs os).2, x.id ≠ l[i].id
  | [], l, os, G, i, h1, _, _ => absurd h1 (Nat.not_lt_zero _)
  | f :: fs, [], os, G, i, _, h2, _ => absurd h2 (Nat.not_lt_zero _)
  | f :: fs, o :: l, os, G, i, h1, h2, he => by
    obtain ⟨s1, s2, s3, s4⟩ := G.step
    rw [s1]
    cases i with
    | zero =>
      simp only [List.getElem_cons_zero] at he ⊢
      refine appF_none (fun y hy => ?_)
      rw [s3 he] at hy
      exact (rm_sub hy).2
    | succ i =>
      simp only [List.getElem_cons_succ] at he ⊢
      exact s2.gone i (by simpa using h1) (by simpa using h2) he
/-- How many orders are left. -/
theorem Goes.count : ∀ {fs : List Fl} {l os : List Ord}, Goes fs l os → (appF fs os).2.length + fs.length ≤ os.length + 1
  | [], l, os, G => by simp [appF]
  | f :: fs, [], os, G => by have := G.len; simp at this
  | f :: fs, o :: l, os, G => by
    obtain ⟨s1, s2, s3, s4⟩ := G.step
    rw [s1]
    have ih := s2.count
    by_cases e : f.qty = o.qty
    · rw [s3 e] at ih ⊢
      have hm := (fnd_in (G.fnd o (by simp))).1
      have := Bk.rm_len G.nod hm
      simp only [List.length_cons]
      omega
    · obtain ⟨h1, h2⟩ := s4 e
      subst h2
      rw [h1]
      simp [appF, rdI]
/-- What is on the other side is left alone. -/
theorem Goes.own {s : Int} : ∀ {fs : List Fl} {l os : List Ord}, Goes fs l os → (∀ o ∈ l, o.side ≠ s) → sdO s (appF fs os).2 = sdO s os
  | [], l, os, G, _ => by simp [appF]
  | f :: fs, [], os, G, _ => by have := G.len; simp at this
  | f :: fs, o :: l, os, G, hs => by
    obtain ⟨s1, s2, s3, s4⟩ := G.step
    rw [s1, s2.own (fun x hx => hs x (by simp [hx]))]
    have ho := hs o (by simp)
    obtain ⟨hm, _⟩ := fnd_in (G.fnd o (by simp))
    have huni : ∀ x ∈ os, x.id = o.id → x = o := fun x hx e => by
      have h1 := Bk.fnd_mem G.nod hx
      have h2 := Bk.fnd_mem G.nod hm
      rw [e] at h1
      rw [h1] at h2
      exact Option.some.inj h2
    by_cases e : f.qty = o.qty
    · rw [s3 e]
      unfold sdO rmI
      rw [List.filter_filter]
      refine List.filter_congr (fun x hx => ?_)
      by_cases hid : x.id = o.id
      · rw [huni x hx hid]
        simp [ho]
      · simp [hid]
    · rw [(s4 e).1]
      unfold sdO rdI
      rw [List.filter_map]
      have h1 : (os.filter ((fun x => decide (x.side = s)) ∘ fun x => if x.id = o.id then less x f.qty else x)) = os.filter (fun x => decide (x.side = s)) := by
        refine List.filter_congr (fun x hx => ?_)
        simp only [Function.comp]
        split <;> rfl
      rw [h1]
      have : ∀ x ∈ os.filter (fun x => decide (x.side = s)), (if x.id = o.id then less x f.qty else x) = x := fun x hx => by
        obtain ⟨h2, h3⟩ := List.mem_filter.1 hx
        rw [if_neg]
        intro h4
        rw [huni x h2 h4] at h3
        simp [ho] at h3
      rw [List.map_congr_left this, List.map_id']
end Ma
end Go.Proofs.YtbnappiaomiciaaGreat
namespace Go.Proofs.YtbnappiaomiciaaGreat
set_option linter.unusedVariables false
namespace Ma
open Bk (bet srt sdO fndI roomO addF addO frontO rmI redO redF rdI less crossO sided inRng fitsO prices dst okO)
open Sw (Tk Fl mk mkP wrs trd appF Pok rchO)
theorem meets_none : ∀ {fs : List Fl} {l : List Ord}, meetsO fs l = none → ∀ i (h : i < l.length), ∃ h1 : i < fs.length, fs[i].qty = l[i].qty
  | _, [], _, i, h => absurd h (Nat.not_lt_zero _)
  | [], o :: l, h, _, _ => by simp [meetsO] at h
  | f :: fs, o :: l, h, i, hi => by
    unfold meetsO at h
    split at h
    · rename_i hc
      cases i with
      | zero => exact ⟨by simp, hc.2⟩
      | succ i =>
        obtain ⟨h1, h2⟩ := meets_none h i (by simpa using hi)
        exact ⟨by simpa using h1, by simpa using h2⟩
    · cases h
theorem meets_some : ∀ {fs : List Fl} {l : List Ord} {p : Int}, meetsO fs l = some p → ∃ m, ∃ h : m < l.length, p = l[m].price ∧ ∀ i (hi : i < m), ∃ h1 : i < fs.length, fs[i].qty = (l[i]'(Nat.lt_trans hi h)).qty
  | fs, [], p, h => by cases fs <;> simp [meetsO] at h
  | [], o :: l, p, h => by
    simp only [meetsO, Option.some.injEq] at h
    exact ⟨0, by simp, h.symm, fun i hi => absurd hi (Nat.not_lt_zero _)⟩
  | f :: fs, o :: l, p, h => by
    unfold meetsO at h
    split at h
    · rename_i hc
      obtain ⟨m, hm, h1, h2⟩ := meets_some h
      refine ⟨m + 1, by simpa using hm, by simpa using h1, fun i hi => ?_⟩
      cases i with
      | zero => exact ⟨by simp, hc.2⟩
      | succ i =>
        obtain ⟨h3, h4⟩ := h2 i (by omega)
        exact ⟨by simpa using h3, by simpa using h4⟩
    · simp only [Option.some.injEq] at h
      exact ⟨0, by simp, h.symm, fun i hi => absurd hi (Nat.not_lt_zero _)⟩
theorem front_mem {n : Int} {os : List Ord} {x : Ord} (h : frontO n os = some x) : x ∈ os ∧ x.side = n := by
  unfold frontO at h
  split at h
  · have h1 : x ∈ srt n os := List.mem_of_head? h
    have h2 := (Bk.srt_perm n os).mem_iff.1 h1
    obtain ⟨h3, h4⟩ := List.mem_filter.1 h2
    exact ⟨h3, by simpa using h4⟩
  · cases h
theorem Good.goes {N most : Nat} {os : List Ord} {e : En} (G : Good N most os e) (hok : ∀ o ∈ os, 1 ≤ o.qty) (hn : (os.map (·.id)).Nodup) : Goes (mkP (tkE e) os).1 (srt (1 - e.o.side) os) os := by
  have P := G.pok hok
  refine ⟨P.len, fun i h1 h2 => ?_, fun i h1 h2 => P.full i h1 h2, ?_, hn, fun o ho => ?_⟩
  · have F := P.fill i h1 h2
    exact ⟨F.id, F.pos, F.le, F.whole⟩
  · exact (((Bk.srt_perm _ os).map (·.id)).nodup_iff).2 (hn.sublist (List.Sublist.map _ List.filter_sublist))
  · exact Bk.fnd_mem hn (Sw.srt_mem ho)
/-- What is left of the other side is worse than where the order rests. -/
theorem left_open {s edge : Int} (hs : s = 0 ∨ s = 1) {fs : List Fl} {os : List Ord} (G : Goes fs (srt (1 - s) os) os) (ho : openF s edge (meetsO fs (srt (1 - s) os)) = true) : ∀ y ∈ (appF fs os).2, y.side = 1 - s → bet s y.price edge = true := by
  intro y hy hside
  obtain ⟨z, hz, e1, e2, e3⟩ := appF_sub fs os y hy
  have hzs : z ∈ srt (1 - s) os := (Bk.srt_perm _ os).mem_iff.2 (List.mem_filter.2 ⟨hz, by simp [e2, hside]⟩)
  obtain ⟨j, hj, hje⟩ := List.getElem_of_mem hzs
  have hno : ∀ h1 : j < fs.length, fs[j].qty ≠ (srt (1 - s) os)[j].qty := fun h1 he => by
    have := G.gone j h1 hj he y hy
    rw [hje] at this
    exact this e1.symm
  have hfair : (srt (1 - s) os).Pairwise (Bk.Fair (1 - s) (fun _ _ => True)) := Bk.srt_fair (List.pairwise_of_forall (fun _ _ => trivial))
  cases hm : meetsO fs (srt (1 - s) os) with
  | none =>
    obtain ⟨h1, h2⟩ := meets_none hm j hj
    exact absurd h2 (hno h1)
  | some q =>
    rw [hm] at ho
    obtain ⟨m, hml, hq, hfull⟩ := meets_some hm
    have hbq : bet s q edge = true := ho
    have hjm : ¬ j < m := fun h => by
      obtain ⟨h1, h2⟩ := hfull j h
      exact hno h1 h2
    have hbet : bet (1 - s) y.price q = false := by
      rw [← e3, ← hje, hq]
      rcases Nat.lt_or_ge m j with h | h
      · exact (List.pairwise_iff_getElem.1 hfair m j hml hj h).1
      · have : j = m := by omega
        subst this
        exact Bk.bet_self _ _
    unfold bet at hbq hbet ⊢
    have h1 := of_decide_eq_true hbq
    have h2 := of_decide_eq_false hbet
    exact decide_eq_true (by omega)
theorem fnd_no {id : Int} {os : List Ord} (h : ∀ x ∈ os, x.id ≠ id) : fndI id os = none := by
  unfold fndI
  exact List.find?_eq_none.2 (fun x hx => by simp [h x hx])
end Ma
end Go.Proofs.YtbnappiaomiciaaGreat
namespace Go.Proofs.YtbnappiaomiciaaGreat
set_option linter.unusedVariables false
namespace Ma
open Bk (bet srt sdO fndI roomO addF addO frontO rmI redO redF rdI less crossO sided inRng fitsO prices dst okO)
open Sw (Tk Fl mk mkP wrs trd appF Pok rchO)
theorem rm_keeps {id : Int} {os : List Ord} {x : Ord} (h : x ∈ os) (hne : x.id ≠ id) : x ∈ rmI id os := by
  unfold rmI
  exact List.mem_filter.2 ⟨h, by simpa using hne⟩
theorem rd_keeps {id z : Int} {os : List Ord} {x : Ord} (h : x ∈ os) : ∃ y ∈ rdI id z os, Alike x y := by
  unfold rdI
  refine ⟨if x.id = id then less x z else x, List.mem_map.2 ⟨x, h, rfl⟩, ?_⟩
  split
  · exact ⟨rfl, rfl, rfl⟩
  · exact ⟨rfl, rfl, rfl⟩
theorem Alike.trans {a b c : Ord} (h : Alike a b) (g : Alike b c) : Alike a c := ⟨h.1.trans g.1, h.2.1.trans g.2.1, h.2.2.trans g.2.2⟩
/-- An order that no fill makes whole stays. -/
theorem Goes.stays : ∀ {fs : List Fl} {l os : List Ord}, Goes fs l os → ∀ x ∈ os, (∀ i (h1 : i < fs.length) (h2 : i < l.length), l[i].id = x.id → fs[i].qty ≠ l[i].qty) → ∃ y ∈ (appF fs os).2, Alike x y
  | [], l, os, G, x, hx, _ => ⟨x, by simpa [appF] using hx, rfl, rfl, rfl⟩
  | f :: fs, [], os, G, x, hx, _ => by have := G.len; simp at this
  | f :: fs, o :: l, os, G, x, hx, hno => by
    obtain ⟨s1, s2, s3, s4⟩ := G.step
    rw [s1]
    have hno' : ∀ i (h1 : i < fs.length) (h2 : i < l.length), l[i].id = x.id → fs[i].qty ≠ l[i].qty := fun i h1 h2 e => by
      have := hno (i + 1) (by simpa using h1) (by simpa using h2)
      simpa using this (by simpa using e)
    by_cases e : f.qty = o.qty
    · have hne : x.id ≠ o.id := fun e2 => by
        have := hno 0 (by simp) (by simp)
        simp only [List.getElem_cons_zero] at this
        exact this e2.symm e
      rw [s3 e] at s2 ⊢
      exact s2.stays x (rm_keeps hx hne) hno'
    · obtain ⟨h1, h2⟩ := s4 e
      subst h2
      rw [h1]
      obtain ⟨y, hy, ha⟩ := rd_keeps (id := o.id) (z := f.qty) hx
      exact ⟨y, by simpa [appF] using hy, ha⟩
theorem meets_at : ∀ {fs : List Fl} {l : List Ord} {p : Int}, meetsO fs l = some p → ∃ m, ∃ h : m < l.length, p = l[m].price ∧ ∀ h1 : m < fs.length, ¬ (fs[m].id = l[m].id ∧ fs[m].qty = l[m].qty)
  | fs, [], p, h => by cases fs <;> simp [meetsO] at h
  | [], o :: l, p, h => by
    simp only [meetsO, Option.some.injEq] at h
    exact ⟨0, by simp, h.symm, fun h1 => by simp at h1⟩
  | f :: fs, o :: l, p, h => by
    unfold meetsO at h
    split at h
    · obtain ⟨m, hm, h1, h2⟩ := meets_at h
      exact ⟨m + 1, by simpa using hm, by simpa using h1, fun h3 => by simpa using h2 (by simpa using h3)⟩
    · rename_i hc
      simp only [Option.some.injEq] at h
      exact ⟨0, by simp, h.symm, fun h3 => by simpa using hc⟩
theorem front_best {n : Int} (hn : n = 0 ∨ n = 1) {os : List Ord} {y : Ord} (hy : y ∈ os) (hs : y.side = n) : ∃ x, frontO n os = some x ∧ bet n y.price x.price = false := by
  have hm : y ∈ srt n os := (Bk.srt_perm n os).mem_iff.2 (List.mem_filter.2 ⟨hy, by simp [hs]⟩)
  have hf : (srt n os).Pairwise (Bk.Fair n (fun _ _ => True)) := Bk.srt_fair (List.pairwise_of_forall (fun _ _ => trivial))
  unfold frontO
  rw [if_pos hn]
  cases hl : srt n os with
  | nil => rw [hl] at hm; cases hm
  | cons x l =>
    refine ⟨x, rfl, ?_⟩
    rw [hl] at hm hf
    rcases List.mem_cons.1 hm with rfl | h
    · exact Bk.bet_self _ _
    · exact ((List.pairwise_cons.1 hf).1 y h).1
/-- Where an order rests is open just if what is left of the other side does not reach it. -/
theorem open_front {s edge : Int} (hs : s = 0 ∨ s = 1) (he : 1 ≤ edge) {fs : List Fl} {os : List Ord} (G : Goes fs (srt (1 - s) os) os) : openF s edge (meetsO fs (srt (1 - s) os)) = !rchO s edge (appF fs os).2 := by
  have hs1 : 1 - s = 0 ∨ 1 - s = 1 := by omega
  have he0 : decide (edge ≠ 0) = true := decide_eq_true (by omega)
  cases ho : openF s edge (meetsO fs (srt (1 - s) os)) with
  | true =>
    have hop := left_open hs G ho
    unfold rchO
    rw [decide_eq_true hs, Bool.true_and]
    cases hf : frontO (1 - s) (appF fs os).2 with
    | none => rfl
    | some x =>
      obtain ⟨h1, h2⟩ := front_mem hf
      have := hop x h1 h2
      simp only [Option.isSome_some, Option.getD_some, Bool.true_and]
      unfold wrs
      rw [he0, this]
      rfl
  | false =>
    cases hm : meetsO fs (srt (1 - s) os) with
    | none => rw [hm] at ho; cases ho
    | some q =>
      rw [hm] at ho
      have hbq : bet s q edge = false := ho
      obtain ⟨m, hml, hq, hno⟩ := meets_at hm
      have hmem : (srt (1 - s) os)[m] ∈ srt (1 - s) os := List.getElem_mem hml
      have hin : (srt (1 - s) os)[m] ∈ sdO (1 - s) os := (Bk.srt_perm _ os).mem_iff.1 hmem
      obtain ⟨hin1, hin2⟩ := List.mem_filter.1 hin
      obtain ⟨y, hy, a1, a2, a3⟩ := G.stays _ hin1 (fun i h1 h2 e => by
        have him : i = m := by
          have hnd := G.ids
          have hi : i < ((srt (1 - s) os).map (·.id)).length := by rw [List.length_map]; exact h2
          have hm' : m < ((srt (1 - s) os).map (·.id)).length := by rw [List.length_map]; exact hml
          refine (List.getElem_inj (h₀ := hi) (h₁ := hm') hnd).1 ?_
          rw [List.getElem_map, List.getElem_map]
          exact e
        subst him
        exact fun e2 => hno h1 ⟨(G.ok i h1 h2).1, e2⟩)
      obtain ⟨x, hx, hb⟩ := front_best hs1 hy (a2.symm.trans (by simpa using hin2))
      rw [← a3, ← hq] at hb
      unfold rchO
      rw [decide_eq_true hs, hx, Bool.true_and]
      simp only [Option.isSome_some, Option.getD_some, Bool.true_and]
      have : bet s x.price edge = false := by
        unfold bet at hbq hb ⊢
        have h1 := of_decide_eq_false hbq
        have h2 := of_decide_eq_false hb
        exact decide_eq_false (by omega)
      unfold wrs
      rw [this, Bool.and_false]
      rfl
/-- Does an order rest, as the document says it? -/
def restsR (os : List Ord) (e : En) (p : List Fl × Int × Int) : Bool :=
  decide (p.2.1 ≠ 0 ∧ p.2.2 ≠ 3 ∧ staysF e = true ∧ 1 ≤ edgeF e ∧ edgeF e ≤ 1099511627776 ∧ beyF e.o.side e.lo e.hi (edgeF e) = false) && !rchO e.o.side (edgeF e) (appF p.1 os).2
theorem rests_eq {os : List Ord} {e : En} {p : List Fl × Int × Int} (hs : e.o.side = 0 ∨ e.o.side = 1) (G : Goes p.1 (srt (1 - e.o.side) os) os) : restsR os e p = restsF os e p := by
  unfold restsR restsF
  by_cases h : p.2.1 ≠ 0 ∧ p.2.2 ≠ 3 ∧ staysF e = true ∧ 1 ≤ edgeF e ∧ edgeF e ≤ 1099511627776 ∧ beyF e.o.side e.lo e.hi (edgeF e) = false
  · rw [decide_eq_true h, Bool.true_and, Bool.true_and, open_front hs h.2.2.2.1 G]
  · rw [decide_eq_false h, Bool.false_and, Bool.false_and]
theorem plan_goes {os : List Ord} {e : En} (hs : e.o.side = 0 ∨ e.o.side = 1) (hq : 1 ≤ e.o.qty) (hok : ∀ o ∈ os, 1 ≤ o.qty) (hn : (os.map (·.id)).Nodup) : Goes (mkP (tkE e) os).1 (srt (1 - e.o.side) os) os := by
  have P : Pok (tkE e) (srt (1 - e.o.side) os) e.o.qty (mkP (tkE e) os) := by
    unfold mkP
    rw [if_pos ⟨hs, hq⟩]
    exact Sw.mk_ok _ _ _ (by show 0 ≤ e.o.qty; omega) (fun o ho => hok o ((List.mem_filter.1 ((Bk.srt_perm _ _).mem_iff.1 ho)).1))
  refine ⟨P.len, fun i h1 h2 => ?_, fun i h1 h2 => P.full i h1 h2, ?_, hn, fun o ho => ?_⟩
  · have F := P.fill i h1 h2
    exact ⟨F.id, F.pos, F.le, F.whole⟩
  · exact (((Bk.srt_perm _ os).map (·.id)).nodup_iff).2 (hn.sublist (List.Sublist.map _ List.filter_sublist))
  · exact Bk.fnd_mem hn (Sw.srt_mem ho)
end Ma
end Go.Proofs.YtbnappiaomiciaaGreat
