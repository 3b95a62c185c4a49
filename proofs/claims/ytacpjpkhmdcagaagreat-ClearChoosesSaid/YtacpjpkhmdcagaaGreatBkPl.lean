/- This text proves plain laws for BookGives: which orders of a list a book takes, and in which order it gives them back. It has no conditions but those that it states. This text proves what 'place' of the law answers: the first place of an order in a list, or -1. It has no conditions but those that it states. -/
import Derived.Test.YtacpjpkhmdcagaaGreatBkV
namespace Go.Proofs.YtacpjpkhmdcagaaGreat
set_option linter.unusedVariables false
namespace Bk
theorem dst_len : ∀ (l acc : List Int), (l.foldl (fun acc p => if p ∈ acc then acc else acc ++ [p]) acc).length ≤ acc.length + l.length
  | [], acc => by simp
  | p :: l, acc => by
    rw [List.foldl_cons]
    have h := dst_len l (if p ∈ acc then acc else acc ++ [p])
    by_cases hp : p ∈ acc
    · rw [if_pos hp] at h ⊢
      simp only [List.length_cons]
      omega
    · rw [if_neg hp] at h ⊢
      simp only [List.length_append, List.length_cons, List.length_nil] at h ⊢
      omega
theorem room_small {N most : Nat} {os : List Ord} {n : Int} (p : Int) (hn : sided n = true) (h1 : os.length < N) (h2 : os.length < most) : roomO N most n p os = true := by
  have h3 := dst_len (prices n os) []
  have h4 : (prices n os).length ≤ os.length := by
    unfold prices sdO
    rw [List.length_map]
    exact List.length_filter_le _ _
  have h5 : (dst (prices n os)).length < most := by
    unfold dst
    simp only [List.length_nil] at h3
    omega
  unfold sided at hn
  rw [decide_eq_true_eq] at hn
  unfold roomO fitsO
  simp [hn, h5, h1]
def okB (o : Ord) : Bool := sided o.side && inRng o
/-- Where an order stands first. -/
def plc (l : List Ord) (o : Ord) : Nat := l.findIdx fun x => ordEq x o
theorem plc_at {l : List Ord} {k : Nat} (hk : k < l.length) (h : l[k] ∉ l.take k) : plc l l[k] = k := by
  unfold plc
  rw [List.findIdx_eq hk]
  refine ⟨ordEq_refl _, fun j hj => ?_⟩
  cases e : ordEq l[j] l[k] with
  | false => rfl
  | true =>
    have e2 := (ordEq_iff _ _).1 e
    exact absurd (List.mem_take_iff_getElem.2 ⟨j, by omega, e2⟩) h
theorem plc_lt {l : List Ord} {o : Ord} (h : o ∈ l) : plc l o < l.length := by
  unfold plc
  rw [List.findIdx_lt_length]
  exact ⟨o, h, ordEq_refl _⟩
theorem plc_take {l : List Ord} {o : Ord} {k : Nat} (h : o ∈ l.take k) : plc l o < k := by
  obtain ⟨j, hj, e⟩ := List.mem_take_iff_getElem.1 h
  have hjl : j < l.length := by omega
  have : plc l o ≤ j := by
    unfold plc
    rcases Nat.lt_or_ge j (l.findIdx fun x => ordEq x o) with h2 | h2
    · have h3 := List.not_of_lt_findIdx h2
      rw [e, ordEq_refl] at h3
      exact absurd h3 (by decide)
    · exact h2
  omega
/-- What has been added of the first k orders. -/
structure Adds (l : List Ord) (N most k : Nat) (os : List Ord) : Prop where
  sub : ∀ o ∈ os, o ∈ l.take k
  all : ∀ x ∈ l.take k, okB x = true → ∃ y ∈ os, y.id = x.id
  ord : os.Pairwise fun a b => plc l a < plc l b
  len : os.length ≤ k
  ok : ∀ o ∈ os, okB o = true
theorem adds_start (l : List Ord) (N most : Nat) : Adds l N most 0 [] := ⟨by simp, by simp, List.Pairwise.nil, Nat.le_refl _, by simp⟩
theorem fnd_some {id : Int} {os : List Ord} (h : ∃ y ∈ os, y.id = id) : (fndI id os).isSome = true := by
  unfold fndI
  rw [List.find?_isSome]
  obtain ⟨y, hy, e⟩ := h
  exact ⟨y, hy, by simpa using e⟩
theorem adds_step {l os : List Ord} {N most k : Nat} (A : Adds l N most k os) (hk : k < l.length) (hN : k < N) (hm : k < most) : Adds l N most (k + 1) (addO N most os l[k]) := by
  have ht : l.take (k + 1) = l.take k ++ [l[k]] := List.take_succ_eq_append_getElem hk
  have hl := A.len
  unfold addO
  by_cases hf : addF N most os l[k] = 0
  · rw [if_pos hf]
    have hs : sided l[k].side = true := by
      cases h : sided l[k].side with
      | true => rfl
      | false => unfold addF at hf; rw [if_pos h] at hf; cases hf
    have hr : inRng l[k] = true := by
      cases h : inRng l[k] with
      | true => rfl
      | false => unfold addF at hf; rw [if_neg (by rw [hs]; decide), if_pos h] at hf; cases hf
    have hn : (fndI l[k].id os).isSome = false := by
      cases h : (fndI l[k].id os).isSome with
      | false => rfl
      | true => unfold addF at hf; rw [if_neg (by rw [hs]; decide), if_neg (by rw [hr]; decide), if_pos h] at hf; cases hf
    have hok : okB l[k] = true := by unfold okB; rw [hs, hr]; rfl
    have hno : l[k] ∉ l.take k := fun hm => by
      have := fnd_some (A.all _ hm hok)
      rw [hn] at this
      cases this
    refine ⟨fun o ho => ?_, fun x hx hxo => ?_, ?_, by simp; omega, fun o ho => ?_⟩
    · rw [ht]
      rcases List.mem_append.1 ho with h | h
      · exact List.mem_append_left _ (A.sub o h)
      · exact List.mem_append_right _ h
    · rw [ht] at hx
      rcases List.mem_append.1 hx with h | h
      · obtain ⟨y, hy, e⟩ := A.all x h hxo
        exact ⟨y, List.mem_append_left _ hy, e⟩
      · rw [List.mem_singleton.1 h]
        exact ⟨l[k], by simp, rfl⟩
    · rw [List.pairwise_append]
      refine ⟨A.ord, List.pairwise_singleton _ _, fun a ha b hb => ?_⟩
      rw [List.mem_singleton.1 hb, plc_at hk hno]
      exact plc_take (A.sub a ha)
    · rcases List.mem_append.1 ho with h | h
      · exact A.ok o h
      · rw [List.mem_singleton.1 h]
        exact hok
  · rw [if_neg hf]
    refine ⟨fun o ho => ?_, fun x hx hxo => ?_, A.ord, by omega, A.ok⟩
    · rw [ht]
      exact List.mem_append_left _ (A.sub o ho)
    · rw [ht] at hx
      rcases List.mem_append.1 hx with h | h
      · exact A.all x h hxo
      · obtain rfl := List.mem_singleton.1 h
        unfold okB at hxo
        rw [Bool.and_eq_true] at hxo
        obtain ⟨h1, h2⟩ := hxo
        unfold addF at hf
        rw [if_neg (by rw [h1]; decide), if_neg (by rw [h2]; decide), room_small _ h1 (by omega) (by omega)] at hf
        cases hs : (fndI l[k].id os).isSome with
        | false => rw [hs] at hf; simp at hf
        | true =>
          unfold fndI at hs
          rw [List.find?_isSome] at hs
          obtain ⟨y, hy, e⟩ := hs
          exact ⟨y, hy, by simpa using e⟩
/-- A side's list: no later one is better, and at one price the earlier one comes first. -/
def Fair (n : Int) (R : Ord → Ord → Prop) (a b : Ord) : Prop := bet n b.price a.price = false ∧ (a.price = b.price → R a b)
theorem bet_trans {n a b c : Int} (h1 : bet n a b = true) (h2 : bet n c b = false) : bet n a c = true := by
  unfold bet at *
  simp only [decide_eq_true_eq, decide_eq_false_iff_not] at *
  omega
theorem tw_mem {p : Ord → Bool} : ∀ {l : List Ord}, ∀ x ∈ l.takeWhile p, p x = true
  | [], x, h => by simp at h
  | a :: l, x, h => by
    rw [List.takeWhile_cons] at h
    split at h
    · rename_i hp
      rcases List.mem_cons.1 h with rfl | h
      · exact hp
      · exact tw_mem x h
    · cases h
theorem dw_bet {n : Int} {R : Ord → Ord → Prop} {o : Ord} : ∀ {l : List Ord}, l.Pairwise (Fair n R) → ∀ x ∈ l.dropWhile (fun x => !bet n o.price x.price), bet n o.price x.price = true
  | [], _, x, h => by simp at h
  | a :: l, hl, x, h => by
    rw [List.pairwise_cons] at hl
    rw [List.dropWhile_cons] at h
    split at h
    · exact dw_bet hl.2 x h
    · rename_i hp
      have hb : bet n o.price a.price = true := by simpa using hp
      rcases List.mem_cons.1 h with rfl | h
      · exact hb
      · exact bet_trans hb (hl.1 x h).1
theorem ins_fair {n : Int} {R : Ord → Ord → Prop} {o : Ord} {l : List Ord} (hl : l.Pairwise (Fair n R)) (hR : ∀ x ∈ l, R x o) : (insO n o l).Pairwise (Fair n R) := by
  have hd := dw_bet (o := o) hl
  unfold insO
  refine List.pairwise_append.2 ⟨hl.sublist (List.takeWhile_sublist _), List.pairwise_cons.2 ⟨fun x hx => ?_, hl.sublist (List.dropWhile_sublist _)⟩, fun a ha b hb => ?_⟩
  · have h1 := hd x hx
    refine ⟨bet_anti h1, fun e => ?_⟩
    rw [e, bet_self] at h1
    cases h1
  · have ha1 : bet n o.price a.price = false := by simpa using tw_mem a ha
    rcases List.mem_cons.1 hb with rfl | hb
    · exact ⟨ha1, fun _ => hR a (List.takeWhile_subset _ ha)⟩
    · have h3 := hl
      rw [← List.takeWhile_append_dropWhile (p := fun x => !bet n o.price x.price) (l := l), List.pairwise_append] at h3
      exact h3.2.2 a ha b hb
theorem fold_fair {n : Int} {R : Ord → Ord → Prop} : ∀ (l acc : List Ord), acc.Pairwise (Fair n R) → l.Pairwise R → (∀ a ∈ acc, ∀ x ∈ l, R a x) → (l.foldl (fun acc o => insO n o acc) acc).Pairwise (Fair n R)
  | [], acc, h, _, _ => h
  | o :: l, acc, h, hl, hR => by
    rw [List.pairwise_cons] at hl
    rw [List.foldl_cons]
    refine fold_fair l _ (ins_fair h (fun x hx => hR x hx o (by simp))) hl.2 (fun a ha x hx => ?_)
    rcases List.mem_cons.1 ((ins_perm n o acc).mem_iff.1 ha) with rfl | h2
    · exact hl.1 x hx
    · exact hR a h2 x (by simp [hx])
theorem srt_fair {n : Int} {R : Ord → Ord → Prop} {os : List Ord} (h : os.Pairwise R) : (srt n os).Pairwise (Fair n R) := by
  unfold srt sdO
  exact fold_fair _ _ List.Pairwise.nil (h.sublist (List.filter_sublist ..)) (by simp)
/-- What the giving back keeps: side i, n orders of it given, the last one. -/
structure Give (l : List Ord) (i : Int) (n : Nat) (os : List Ord) (last : Ord) : Prop where
  ord : os.Pairwise fun a b => plc l a < plc l b
  mem : ∀ o ∈ os, o ∈ l
  ids : (os.map (·.id)).Nodup
  gone : ∀ o ∈ os, i ≤ o.side ∧ o.side ≤ 1
  len : os.length + n ≤ 60
  last : 0 < n → ∀ x ∈ sdO i os, bet i x.price last.price = false ∧ (x.price = last.price → plc l last < plc l x)
theorem fnd_mem {os : List Ord} {o : Ord} (hn : (os.map (·.id)).Nodup) (ho : o ∈ os) : fndI o.id os = some o := by
  unfold fndI
  induction os with
  | nil => cases ho
  | cons x os ih =>
    rw [List.map_cons, List.nodup_cons] at hn
    rw [List.find?_cons]
    rcases List.mem_cons.1 ho with rfl | h
    · simp
    · have : x.id ≠ o.id := fun e => hn.1 (by rw [e]; exact List.mem_map_of_mem h)
      simp [this]
      simpa using ih hn.2 h
theorem rm_len {os : List Ord} {o : Ord} (hn : (os.map (·.id)).Nodup) (ho : o ∈ os) : (rmI o.id os).length + 1 = os.length := by
  unfold rmI
  induction os with
  | nil => cases ho
  | cons x os ih =>
    rw [List.map_cons, List.nodup_cons] at hn
    rw [List.filter_cons]
    rcases List.mem_cons.1 ho with rfl | h
    · have : os.filter (fun y => !decide (y.id = o.id)) = os := by
        rw [List.filter_eq_self]
        intro y hy
        have : y.id ≠ o.id := fun e => hn.1 (by rw [← e]; exact List.mem_map_of_mem hy)
        simp [this]
      simp [this]
    · have : x.id ≠ o.id := fun e => hn.1 (by rw [e]; exact List.mem_map_of_mem h)
      simp only [this, decide_false, Bool.not_false, if_true, List.length_cons]
      have := ih hn.2 h
      omega
theorem give_step {l os r : List Ord} {i : Int} {n : Nat} {last o : Ord} (G : Give l i n os last) (h : srt i os = o :: r) :
    o ∈ os ∧ (0 < n → bet i o.price last.price = false ∧ (o.price = last.price → ¬ plc l o < plc l last)) ∧ plc l o < l.length ∧ fndI o.id os = some o ∧ (rmI o.id os).length + 1 = os.length ∧ Give l i (n + 1) (rmI o.id os) o := by
  have hp := srt_perm i os
  rw [h] at hp
  have hs : o ∈ sdO i os := hp.mem_iff.1 (by simp)
  have ho : o ∈ os := (List.mem_filter.1 hs).1
  have hrm : (rmI o.id os).Sublist os := List.filter_sublist ..
  refine ⟨ho, fun hn => ?_, plc_lt (G.mem o ho), fnd_mem G.ids ho, rm_len G.ids ho, ⟨G.ord.sublist hrm, fun x hx => G.mem x (hrm.subset hx), G.ids.sublist (hrm.map _), fun x hx => G.gone x (hrm.subset hx), ?_, fun _ x hx => ?_⟩⟩
  · obtain ⟨h1, h2⟩ := G.last hn o hs
    exact ⟨h1, fun e => by have := h2 e; omega⟩
  · have := rm_len G.ids ho
    have := G.len
    omega
  · have hf := srt_fair (n := i) G.ord
    rw [h, List.pairwise_cons] at hf
    have hx2 := List.mem_filter.1 hx
    have hx3 := List.mem_filter.1 hx2.1
    have hxs : x ∈ sdO i os := List.mem_filter.2 ⟨hx3.1, hx2.2⟩
    have hne : x ≠ o := fun e => by
      have := hx3.2
      rw [e] at this
      simp at this
    rcases List.mem_cons.1 (hp.mem_iff.2 hxs) with e | h3
    · exact absurd e hne
    · obtain ⟨h4, h5⟩ := hf.1 x h3
      exact ⟨h4, fun e => h5 e.symm⟩
theorem give_end {l os : List Ord} {i : Int} {n : Nat} {last last' : Ord} (G : Give l i n os last) (h : srt i os = [] ∨ n = 60) : Give l (i + 1) 0 os last' := by
  have hno : ∀ o ∈ os, o.side ≠ i := by
    intro o ho e
    rcases h with h | h
    · have hp := srt_perm i os
      rw [h] at hp
      have hs : o ∈ sdO i os := List.mem_filter.2 ⟨ho, by simpa using e⟩
      have := hp.mem_iff.2 hs
      cases this
    · have := G.len
      have h0 : os.length = 0 := by omega
      rw [List.length_eq_zero_iff.1 h0] at ho
      cases ho
  refine ⟨G.ord, G.mem, G.ids, fun o ho => ?_, by have := G.len; omega, fun h => by omega⟩
  have := G.gone o ho
  have := hno o ho
  omega
theorem give_start {l os : List Ord} {last : Ord} (A : Adds l 60 60 l.length os) (hl : l.length ≤ 60) (hn : (os.map (·.id)).Nodup) : Give l 0 0 os last := by
  refine ⟨A.ord, fun o ho => ?_, hn, fun o ho => ?_, by have := A.len; omega, fun h => by omega⟩
  · have := A.sub o ho
    rwa [List.take_length] at this
  · have := A.ok o ho
    unfold okB sided at this
    rw [Bool.and_eq_true, decide_eq_true_eq] at this
    omega
theorem give_none {l os : List Ord} {last : Ord} (G : Give l 2 0 os last) : os = [] := by
  cases os with
  | nil => rfl
  | cons o r =>
    have := G.gone o (by simp)
    omega
theorem Bs.ids {w : World} {c : Nat → Nat} {b N most k : Nat} {ss : List Sl} (B : Bs w c b N most k ss) : ((osOf ss).map (·.id)).Nodup := by
  obtain ⟨d, B, I⟩ := B
  have := I.ids
  unfold osOf
  rw [List.map_map]
  exact this
end Bk
end Go.Proofs.YtacpjpkhmdcagaaGreat
namespace Go.Proofs.YtacpjpkhmdcagaaGreat
set_option linter.unusedVariables false
open Go.RowKit
namespace Bk
set_option maxHeartbeats 2000000
set_option maxRecDepth 10000
theorem rd_rng {α : Type} {c : α → List Value} {w : World} {k : Nat} {A : Option Addr} {xs : List α} (h : Rd w k A (xs.map c)) {i : Nat} (hi : i < xs.length) :
    ∃ b off, A = some ⟨b, off, none⟩ ∧ w.rangeAt b (off + i * k) (c xs[i]) := by
  obtain ⟨b, off, e, hc⟩ := h.at hi
  exact ⟨b, off, e, fun j v hv => by rw [Nat.add_assoc]; exact hc j v hv⟩
theorem wpList_ne_ord {ops : Array Oper} {rest : List Oper} {o : Oper} {a : Act} {w : World} {Q : Exit → Act → World → Prop} (hgd : Region.wanted o (yielded ops a.tmps) = true) (x y : Operand) (u : TypeId) (ho : o.op = .binOp .neq 52 x y u)
    (p q : Ord) (hx : a.eval x = .agg p.arr) (hy : a.eval y = .agg q.arr) (h : wpList Tryz.prog ops Q rest (a.put o.dst (.bool (!ordEq p q))) w) : wpList Tryz.prog ops Q (o :: rest) a w :=
  wpList_step fun K hK => by
    rw [if_pos hgd]
    unfold Oper.wp execOp
    simp only [ho, hx, hy, Sem.run_bind, run_eqGuard_agg _ _ _ _ _ _ _ guardOrd, Result.andThen_ok, run_neq_struct, eqOrd]
    exact hK _ _ h
theorem q_eqi {ops : Array Oper} {C : World → Prop} {Q : Act → Prop} {a : Act} {o : Oper} {rest : List Oper} (hgd : Region.wanted o (yielded ops a.tmps) = true) (x y : Operand) (u : TypeId) (ho : o.op = .binOp .eql 2 x y u)
    (p q : Int) (hx : a.eval x = .int .i64 p) (hy : a.eval y = .int .i64 q) (b : Bool) (hb : decide (p = q) = b) (h : wpQuiet Tryz.prog ops C Q rest (a.put o.dst (.bool b))) : wpQuiet Tryz.prog ops C Q (o :: rest) a :=
  q_step hgd _ (fun w _ => by
    unfold Oper.quietAt execOp
    simp only [ho, hx, hy, Sem.run_bind]
    subst hb
    simp [go_sem]
    rfl) h
theorem q_lti {ops : Array Oper} {C : World → Prop} {Q : Act → Prop} {a : Act} {o : Oper} {rest : List Oper} (hgd : Region.wanted o (yielded ops a.tmps) = true) (x y : Operand) (u : TypeId) (ho : o.op = .binOp .lss 3 x y u)
    (p q : Int) (hx : a.eval x = .int .i64 p) (hy : a.eval y = .int .i64 q) (b : Bool) (hb : decide (p < q) = b) (h : wpQuiet Tryz.prog ops C Q rest (a.put o.dst (.bool b))) : wpQuiet Tryz.prog ops C Q (o :: rest) a :=
  q_step hgd _ (fun w _ => by
    unfold Oper.quietAt execOp
    simp only [ho, hx, hy, Sem.run_bind]
    subst hb
    simp [go_sem]
    done) h
def placeI (l : List Ord) (o : Ord) : Int := if plc l o < l.length then (plc l o : Int) else -1
end Bk
end Go.Proofs.YtacpjpkhmdcagaaGreat
