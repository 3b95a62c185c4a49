/- This text proves plain laws for BookGives: which orders of a list a book takes, and in which order it gives them back. It has no conditions but those that it states. This text proves what 'place' of the law answers: the first place of an order in a list, or -1. It has no conditions but those that it states. -/
import Derived.Test.YtbnappiaomiciaaGreatBkV
namespace Go.Proofs.YtbnappiaomiciaaGreat
set_option linter.unusedVariables false
namespace Bk
/-- A side's list: no later one is better, and at one price the earlier one comes first. -/
def Fair (n : Int) (R : Ord → Ord → Prop) (a b : Ord) : Prop := bet n b.price a.price = false ∧ (a.price = b.price → R a b)
theorem bet_trans {n a b c : Int} (h1 : bet n a b = true) (h2 : bet n c b = false) : bet n a c = true := by
  unfold bet at *
  simp only [decide_eq_true_eq, decide_eq_false_iff_not] at *
  omega
theorem tw_mem {p : Ord → Bool} : ∀ {l : List Ord}, ∀ x ∈ l.takeWhile p, p x = true
  | [], x, h => by simp at h
  | a :: l, x, h => by
    rw [List.takeWhile_cons] at h
    split at h
    · rename_i hp
      rcases List.mem_cons.1 h with rfl | h
      · exact hp
      · exact tw_mem x h
    · cases h
theorem dw_bet {n : Int} {R : Ord → Ord → Prop} {o : Ord} : ∀ {l : List Ord}, l.Pairwise (Fair n R) → ∀ x ∈ l.dropWhile (fun x => !bet n o.price x.price), bet n o.price x.price = true
  | [], _, x, h => by simp at h
  | a :: l, hl, x, h => by
    rw [List.pairwise_cons] at hl
    rw [List.dropWhile_cons] at h
    split at h
    · exact dw_bet hl.2 x h
    · rename_i hp
      have hb : bet n o.price a.price = true := by simpa using hp
      rcases List.mem_cons.1 h with rfl | h
      · exact hb
      · exact bet_trans hb (hl.1 x h).1
theorem ins_fair {n : Int} {R : Ord → Ord → Prop} {o : Ord} {l : List Ord} (hl : l.Pairwise (Fair n R)) (hR : ∀ x ∈ l, R x o) : (insO n o l).Pairwise (Fair n R) := by
  have hd := dw_bet (o := o) hl
  unfold insO
  refine List.pairwise_append.2 ⟨hl.sublist (List.takeWhile_sublist _), List.pairwise_cons.2 ⟨fun x hx => ?_, hl.sublist (List.dropWhile_sublist _)⟩, fun a ha b hb => ?_⟩
  · have h1 := hd x hx
    refine ⟨bet_anti h1, fun e => ?_⟩
    rw [e, bet_self] at h1
    cases h1
  · have ha1 : bet n o.price a.price = false := by simpa using tw_mem a ha
    rcases List.mem_cons.1 hb with rfl | hb
    · exact ⟨ha1, fun _ => hR a (List.takeWhile_subset _ ha)⟩
    · have h3 := hl
      rw [← List.takeWhile_append_dropWhile (p := fun x => !bet n o.price x.price) (l := l), List.pairwise_append] at h3
      exact h3.2.2 a ha b hb
theorem fold_fair {n : Int} {R : Ord → Ord → Prop} : ∀ (l acc : List Ord), acc.Pairwise (Fair n R) → l.Pairwise R → (∀ a ∈ acc, ∀ x ∈ l, R a x) → (l.foldl (fun acc o => insO n o acc) acc).Pairwise (Fair n R)
  | [], acc, h, _, _ => h
  | o :: l, acc, h, hl, hR => by
    rw [List.pairwise_cons] at hl
    rw [List.foldl_cons]
    refine fold_fair l _ (ins_fair h (fun x hx => hR x hx o (by simp))) hl.2 (fun a ha x hx => ?_)
    rcases List.mem_cons.1 ((ins_perm n o acc).mem_iff.1 ha) with rfl | h2
    · exact hl.1 x hx
    · exact hR a h2 x (by simp [hx])
theorem srt_fair {n : Int} {R : Ord → Ord → Prop} {os : List Ord} (h : os.Pairwise R) : (srt n os).Pairwise (Fair n R) := by
  unfold srt sdO
  exact fold_fair _ _ List.Pairwise.nil (h.sublist (List.filter_sublist ..)) (by simp)
theorem fnd_mem {os : List Ord} {o : Ord} (hn : (os.map (·.id)).Nodup) (ho : o ∈ os) : fndI o.id os = some o := by
  unfold fndI
  induction os with
  | nil => cases ho
  | cons x os ih =>
    rw [List.map_cons, List.nodup_cons] at hn
    rw [List.find?_cons]
    rcases List.mem_cons.1 ho with rfl | h
    · simp
    · have : x.id ≠ o.id := fun e => hn.1 (by rw [e]; exact List.mem_map_of_mem h)
      simp [this]
      simpa using ih hn.2 h
theorem rm_len {os : List Ord} {o : Ord} (hn : (os.map (·.id)).Nodup) (ho : o ∈ os) : (rmI o.id os).length + 1 = os.length := by
  unfold rmI
  induction os with
  | nil => cases ho
  | cons x os ih =>
    rw [List.map_cons, List.nodup_cons] at hn
    rw [List.filter_cons]
    rcases List.mem_cons.1 ho with rfl | h
    · have : os.filter (fun y => !decide (y.id = o.id)) = os := by
        rw [List.filter_eq_self]
        intro y hy
        have : y.id ≠ o.id := fun e => hn.1 (by rw [← e]; exact List.mem_map_of_mem hy)
        simp [this]
      simp [this]
    · have : x.id ≠ o.id := fun e => hn.1 (by rw [e]; exact List.mem_map_of_mem h)
      simp only [this, decide_false, Bool.not_false, if_true, List.length_cons]
      have := ih hn.2 h
      omega
theorem Bs.ids {w : World} {c : Nat → Nat} {b N most k : Nat} {ss : List Sl} (B : Bs w c b N most k ss) : ((osOf ss).map (·.id)).Nodup := by
  obtain ⟨d, B, I⟩ := B
  have := I.ids
  unfold osOf
  rw [List.map_map]
  exact this
end Bk
end Go.Proofs.YtbnappiaomiciaaGreat
namespace Go.Proofs.YtbnappiaomiciaaGreat
set_option linter.unusedVariables false
open Go.RowKit
namespace Bk
set_option maxHeartbeats 2000000
set_option maxRecDepth 10000
theorem q_lti {ops : Array Oper} {C : World → Prop} {Q : Act → Prop} {a : Act} {o : Oper} {rest : List Oper} (hgd : Region.wanted o (yielded ops a.tmps) = true) (x y : Operand) (u : TypeId) (ho : o.op = .binOp .lss 3 x y u)
    (p q : Int) (hx : a.eval x = .int .i64 p) (hy : a.eval y = .int .i64 q) (b : Bool) (hb : decide (p < q) = b) (h : wpQuiet Tryz.prog ops C Q rest (a.put o.dst (.bool b))) : wpQuiet Tryz.prog ops C Q (o :: rest) a :=
  q_step hgd _ (fun w _ => by
    unfold Oper.quietAt execOp
    simp only [ho, hx, hy, Sem.run_bind]
    subst hb
    simp [go_sem]
    done) h
end Bk
end Go.Proofs.YtbnappiaomiciaaGreat
