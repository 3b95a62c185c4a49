/- This text proves, in plain Lean, that the edits lead from one list to the other one, and how many messages they keep. It has no conditions but those that it states. -/
import Derived.Test.YtpopfjfmppmjdaaCmpAp
namespace Go.Proofs.Ytpopfjfmppmjdaa
set_option linter.unusedVariables false
open Go.RowKit
namespace Cmp
theorem eqM_comm (x y : Msg) : eqM x y = eqM y x := by
  rw [Bool.eq_iff_iff, eqM_iff, eqM_iff]
  exact ⟨fun h => h.symm, fun h => h.symm⟩
theorem lcs_nil (a : List Msg) : lcs a [] = 0 := by
  cases a with
  | nil => rw [lcs]
  | cons x l => rw [lcs]
theorem lcs_comm : ∀ (n : Nat) (a b : List Msg), a.length + b.length ≤ n → lcs a b = lcs b a
  | n, [], b, _ => by rw [lcs_nil, lcs]
  | n, x :: a, [], _ => by rw [lcs_nil, lcs]
  | 0, x :: a, y :: b, h => by simp at h
  | n + 1, x :: a, y :: b, h => by
    simp at h
    rw [lcs, lcs, eqM_comm y x, lcs_comm n a b (by omega), lcs_comm n a (y :: b) (by simp; omega), lcs_comm n (x :: a) b (by simp; omega), Nat.max_comm]
theorem lcs_self : ∀ a : List Msg, lcs a a = a.length
  | [] => by rw [lcs]; rfl
  | x :: a => by rw [lcs, if_pos (eqM_refl x), lcs_self a]; rfl
theorem lcs_le1 (a b : List Msg) : lcs a b ≤ a.length := lcs_le _ a b (Nat.le_refl _)
theorem lcs_le2 (a b : List Msg) : lcs a b ≤ b.length := by rw [lcs_comm _ a b (Nat.le_refl _)]; exact lcs_le1 b a
def kept (l : List Edt) : Nat := (l.filter (fun e => decide (e.op = 0))).length
theorem kept_cons (e : Edt) (l : List Edt) : kept (e :: l) = (if e.op = 0 then 1 else 0) + kept l := by
  unfold kept
  rw [List.filter_cons]
  by_cases h : e.op = 0
  · simp [h]; omega
  · simp [h]
theorem kept_snoc (l : List Edt) (e : Edt) : kept (l ++ [e]) = kept l + (if e.op = 0 then 1 else 0) := by
  unfold kept
  rw [List.filter_append]
  by_cases h : e.op = 0
  · simp [h]
  · simp [h]
theorem kept_le (l : List Edt) : kept l ≤ l.length := List.length_filter_le _ _
theorem opAt_eq {a b : List Msg} {i k : Nat} (h : opAt a b i k = 0) : eqAt a b i k = true := by
  unfold opAt at h
  by_cases e : eqAt a b i k = true
  · exact e
  · rw [if_neg e] at h
    split at h
    · omega
    · split at h <;> omega
theorem good_at (a b : List Msg) {i k : Nat} (hi : i ≤ a.length) (hk : k ≤ b.length) (h : ¬ (i = a.length ∧ k = b.length)) : good a b i k (edAt a b i k) = true := by
  have hs := step_in a b hi hk h
  unfold good edAt
  simp only [decide_true, Bool.true_and]
  rcases hs with ⟨h0, _, _⟩ | ⟨h1, h2⟩ | ⟨h1, h2⟩
  · simp [h0, opAt_eq h0]
  · simp [h1, h2]
  · simp [h1, h2]
theorem ap_ed (a b : List Msg) : ∀ (f i k : Nat), i ≤ a.length → k ≤ b.length → (a.length - i) + (b.length - k) ≤ f → ap a b (ed a b f i k) i k = true
  | 0, i, k, hi, hk, hf => by
    have h1 : i = a.length := by omega
    have h2 : k = b.length := by omega
    simp [ed, ap, h1, h2]
  | f + 1, i, k, hi, hk, hf => by
    by_cases h : i = a.length ∧ k = b.length
    · simp [ed, ap, h]
    · rw [ed_step _ _ _ _ _ h, ap, good_at a b hi hk h, Bool.true_and]
      have hs := step_in a b hi hk h
      rcases hs with ⟨h0, h2, h3⟩ | ⟨h0, h2⟩ | ⟨h0, h2⟩
      · simp only [edAt, h0]
        exact ap_ed a b f (i + 1) (k + 1) (by omega) (by omega) (by omega)
      · simp only [edAt, h0]
        exact ap_ed a b f (i + 1) k (by omega) (by omega) (by omega)
      · simp only [edAt, h0]
        exact ap_ed a b f i (k + 1) (by omega) (by omega) (by omega)
theorem T_op {a b : List Msg} {i k : Nat} (hi : i ≤ a.length) (hk : k ≤ b.length) (h : ¬ (i = a.length ∧ k = b.length)) :
    T a b i k = (if opAt a b i k = 0 then 1 else 0) + T a b (if opAt a b i k = 2 then i else i + 1) (if opAt a b i k = 1 then k else k + 1) := by
  have hs := step_in a b hi hk h
  rcases hs with ⟨h0, h2, h3⟩ | ⟨h0, h2⟩ | ⟨h0, h2⟩
  · have he := opAt_eq h0
    rw [eqAt_in h2 h3] at he
    rw [T_step a b i k h2 h3, if_pos he]
    simp [h0]
    omega
  · have hne : ¬ eqAt a b i k = true := fun e => by
      unfold opAt at h0
      rw [if_pos e] at h0
      omega
    simp only [h0]
    by_cases h3 : k < b.length
    · rw [T_step a b i k h2 h3, if_neg (by rw [← eqAt_in h2 h3]; exact hne)]
      unfold opAt at h0
      rw [if_neg hne, if_neg (by omega)] at h0
      split at h0
      · rename_i hh
        simp
        omega
      · omega
    · rw [T_end a b i k (.inr (by omega)), T_end _ _ _ _ (.inr (by simp; omega))]
      rfl
  · have hne : ¬ eqAt a b i k = true := fun e => by
      unfold opAt at h0
      rw [if_pos e] at h0
      omega
    simp only [h0]
    by_cases h3 : i < a.length
    · rw [T_step a b i k h3 h2, if_neg (by rw [← eqAt_in h3 h2]; exact hne)]
      unfold opAt at h0
      rw [if_neg hne, if_neg (by omega)] at h0
      split at h0
      · omega
      · rename_i hh
        simp
        omega
    · rw [T_end a b i k (.inl (by omega)), T_end _ _ _ _ (.inl (by simp; omega))]
      rfl
theorem ed_kept (a b : List Msg) : ∀ (f i k : Nat), i ≤ a.length → k ≤ b.length → (a.length - i) + (b.length - k) ≤ f → kept (ed a b f i k) = T a b i k ∧ (ed a b f i k).length + T a b i k = (a.length - i) + (b.length - k)
  | 0, i, k, hi, hk, hf => by
    rw [T_end a b i k (.inl (by omega))]
    simp [ed, kept]
    omega
  | f + 1, i, k, hi, hk, hf => by
    by_cases h : i = a.length ∧ k = b.length
    · rw [T_end a b i k (.inl (by omega))]
      simp [ed, kept, h]
    · rw [ed_step _ _ _ _ _ h, kept_cons, List.length_cons]
      have hT := T_op hi hk h
      have hs := step_in a b hi hk h
      rcases hs with ⟨h0, h2, h3⟩ | ⟨h0, h2⟩ | ⟨h0, h2⟩
      · simp only [edAt, h0]
        obtain ⟨p, q⟩ := ed_kept a b f (i + 1) (k + 1) (by omega) (by omega) (by omega)
        have hT' : T a b i k = 1 + T a b (i + 1) (k + 1) := by rw [hT, h0]; rfl
        have hg : 1 + kept (ed a b f (i + 1) (k + 1)) = T a b i k ∧ (ed a b f (i + 1) (k + 1)).length + 1 + T a b i k = a.length - i + (b.length - k) := ⟨by omega, by omega⟩
        exact hg
      · simp only [edAt, h0]
        obtain ⟨p, q⟩ := ed_kept a b f (i + 1) k (by omega) (by omega) (by omega)
        have hT' : T a b i k = 0 + T a b (i + 1) k := by rw [hT, h0]; rfl
        have hg : 0 + kept (ed a b f (i + 1) k) = T a b i k ∧ (ed a b f (i + 1) k).length + 1 + T a b i k = a.length - i + (b.length - k) := ⟨by omega, by omega⟩
        exact hg
      · simp only [edAt, h0]
        obtain ⟨p, q⟩ := ed_kept a b f i (k + 1) (by omega) (by omega) (by omega)
        have hT' : T a b i k = 0 + T a b i (k + 1) := by rw [hT, h0]; rfl
        have hg : 0 + kept (ed a b f i (k + 1)) = T a b i k ∧ (ed a b f i (k + 1)).length + 1 + T a b i k = a.length - i + (b.length - k) := ⟨by omega, by omega⟩
        exact hg
theorem edits_leads (a b : List Msg) : ap a b (edits a b) 0 0 = true ∧ kept (edits a b) = lcs a b ∧ (edits a b).length + lcs a b = a.length + b.length := by
  have h1 := ap_ed a b (a.length + b.length) 0 0 (Nat.zero_le _) (Nat.zero_le _) (by omega)
  obtain ⟨h2, h3⟩ := ed_kept a b (a.length + b.length) 0 0 (Nat.zero_le _) (Nat.zero_le _) (by omega)
  refine ⟨h1, h2, ?_⟩
  exact h3
end Cmp
end Go.Proofs.Ytpopfjfmppmjdaa
