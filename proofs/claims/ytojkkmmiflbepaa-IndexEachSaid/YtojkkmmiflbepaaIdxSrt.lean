/- This text proves that the document's list of a symbol's rows is what the iterator hands over. It has no conditions but those that it states. -/
import Derived.Test.YtojkkmmiflbepaaIdxEach
import Derived.Test.YtojkkmmiflbepaaIdxAct
namespace Go.Proofs.Ytojkkmmiflbepaa
set_option linter.unusedVariables false
namespace Idx
def UpR (l : List R3) : Prop := l.Pairwise fun a b => a.id ≤ b.id
theorem ins_perm (r : R3) (l : List R3) : (insR r l).Perm (r :: l) := by
  unfold insR
  refine List.perm_middle.trans (List.Perm.cons r ?_)
  rw [List.takeWhile_append_dropWhile]
theorem drop_ge (r : R3) : ∀ {l : List R3}, UpR l → ∀ b ∈ l.dropWhile (fun x => decide (x.id < r.id)), r.id ≤ b.id
  | [], _, b, hb => by simp at hb
  | a :: l, h, b, hb => by
    unfold UpR at h
    rw [List.pairwise_cons] at h
    rw [List.dropWhile_cons] at hb
    split at hb
    · exact drop_ge r h.2 b hb
    · rename_i hn
      simp only [decide_eq_true_eq] at hn
      rcases List.mem_cons.1 hb with rfl | hb
      · omega
      · have := h.1 b hb
        omega
theorem take_lt (r : R3) : ∀ {l : List R3}, ∀ a ∈ l.takeWhile (fun x => decide (x.id < r.id)), a.id < r.id
  | [], a, ha => by simp at ha
  | b :: l, a, ha => by
    rw [List.takeWhile_cons] at ha
    split at ha
    · rename_i hn
      simp only [decide_eq_true_eq] at hn
      rcases List.mem_cons.1 ha with rfl | ha
      · exact hn
      · exact take_lt r a ha
    · cases ha
theorem ins_up {r : R3} {l : List R3} (h : UpR l) : UpR (insR r l) := by
  have hd := drop_ge r h
  unfold UpR insR at *
  refine List.pairwise_append.2 ⟨List.Pairwise.sublist (List.takeWhile_sublist _) h, List.pairwise_cons.2 ⟨hd, List.Pairwise.sublist (List.dropWhile_sublist _) h⟩, fun a ha b hb => ?_⟩
  have h1 := take_lt r a ha
  rcases List.mem_cons.1 hb with rfl | hb
  · omega
  · have := hd b hb
    omega
theorem fold_ins : ∀ (l acc : List R3), UpR acc → UpR (l.foldl (fun acc r => insR r acc) acc) ∧ (l.foldl (fun acc r => insR r acc) acc).Perm (l ++ acc)
  | [], acc, h => ⟨h, List.Perm.refl _⟩
  | r :: l, acc, h => by
    obtain ⟨h1, h2⟩ := fold_ins l (insR r acc) (ins_up h)
    exact ⟨h1, (h2.trans ((ins_perm r acc).append_left l)).trans List.perm_middle⟩
theorem of_up (L : List R3) (s : Int) : UpR (ofR L s) ∧ (ofR L s).Perm (L.filter fun r => decide (r.sym = s)) := by
  obtain ⟨h1, h2⟩ := fold_ins (L.filter fun r => decide (r.sym = s)) [] List.Pairwise.nil
  exact ⟨h1, by rw [List.append_nil] at h2; exact h2⟩
theorem of_ids (L : List R3) (s : Int) : (ofR L s).map R3.id = idsOf L s := by
  obtain ⟨h1, h2⟩ := of_up L s
  have tr : ∀ a b c : Int, leZ a b = true → leZ b c = true → leZ a c = true := fun a b c h1 h2 => by simp only [leZ, decide_eq_true_eq] at *; omega
  have to : ∀ a b : Int, (leZ a b || leZ b a) = true := fun a b => by simp only [leZ, Bool.or_eq_true, decide_eq_true_eq]; omega
  refine List.Perm.eq_of_pairwise (le := fun a b => leZ a b = true) (fun a b _ _ h1 h2 => ?_) (List.pairwise_map.2 (h1.imp (fun h => by simpa [leZ] using h))) (List.pairwise_mergeSort tr to _) ((h2.map R3.id).trans (List.mergeSort_perm _ leZ).symm)
  simp only [leZ, decide_eq_true_eq] at h1 h2
  omega
theorem look_self {L : List R3} (hu : Uniq L) {r : R3} (hr : r ∈ L) : look L r.sym r.id = some r := by
  unfold look
  induction L with
  | nil => cases hr
  | cons a l ih =>
    unfold Uniq at hu
    rw [List.pairwise_cons] at hu
    rw [List.find?_cons]
    rcases List.mem_cons.1 hr with rfl | hr'
    · simp [R3.is]
    · have hn := hu.1 r hr'
      have : R3.is r.sym r.id a = false := by simp only [R3.is, decide_eq_false_iff_not]; exact hn
      rw [this]
      exact ih hu.2 hr'
theorem of_pairs {L : List R3} (hu : Uniq L) (s : Int) : (ofR L s).map (fun r => (r.id, r.slot)) = pairs L s := by
  unfold pairs
  rw [← of_ids, List.map_map]
  refine List.map_congr_left (fun r hr => ?_)
  have h1 := List.mem_filter.1 ((of_up L s).2.mem_iff.1 hr)
  have h2 := look_self hu h1.1
  simp only [decide_eq_true_eq] at h1
  show (r.id, r.slot) = (r.id, slotR L s r.id)
  unfold slotR
  rw [← h1.2, h2]
  rfl
end Idx
end Go.Proofs.Ytojkkmmiflbepaa
