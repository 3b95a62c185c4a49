/- This text proves plain laws on what is left of orders when a plan is applied. It has no conditions but those that it states. -/
import Derived.Test.YtbnappiaomiciaaGreatSwL
import Derived.Test.YtbnappiaomiciaaGreatBkV
namespace Go.Proofs.YtbnappiaomiciaaGreat
set_option linter.unusedVariables false
namespace Sw
open Bk (fndI rmI redF redO rdI less)
/-- What comes of applying fills: the fault, and the orders then. -/
def appF : List Fl → List Ord → Int × List Ord
  | [], os => (0, os)
  | f :: l, os =>
    if f.gone = true then
      if (fndI f.id os).isSome = true then appF l (rmI f.id os) else (5, os)
    else
      if (redF f.id f.qty os).1 = 0 then appF l (redO f.id f.qty os) else ((redF f.id f.qty os).1, os)
theorem fnd_rm {id id' : Int} (h : id' ≠ id) (os : List Ord) : fndI id' (rmI id os) = fndI id' os := by
  unfold fndI rmI
  rw [List.find?_filter]
  congr 1
  funext o
  by_cases e : o.id = id'
  · have : ¬ o.id = id := fun e2 => h (e.symm.trans e2)
    simp [e, h]
  · simp [e]
theorem fnd_rd {id id' z : Int} (h : id' ≠ id) : ∀ os : List Ord, fndI id' (rdI id z os) = fndI id' os
  | [] => rfl
  | o :: l => by
    have ih := fnd_rd (z := z) h l
    unfold fndI rdI at *
    rw [List.map_cons, List.find?_cons, List.find?_cons]
    by_cases e : o.id = id
    · have h2 : ¬ o.id = id' := fun e2 => h (e2.symm.trans e)
      have h1 : (less o z).id = o.id := rfl
      have h3 : decide (id = id') = false := decide_eq_false (fun e2 => h e2.symm)
      simp [e, h1, h3, ih]
    · simp [e, ih]
theorem redO_ne {id id' z : Int} (h : id' ≠ id) (os : List Ord) : fndI id' (redO id z os) = fndI id' os := by
  unfold redO
  split
  · rfl
  · split
    · rfl
    · split
      · exact fnd_rm h os
      · exact fnd_rd h os
theorem app_ok : ∀ (fs : List Fl) (l os : List Ord) (h : fs.length ≤ l.length), (∀ i (h1 : i < fs.length) (h2 : i < l.length), fs[i].id = l[i].id ∧ 1 ≤ fs[i].qty ∧ fs[i].qty ≤ l[i].qty) → (l.map (·.id)).Nodup → (∀ o ∈ l, fndI o.id os = some o) → (appF fs os).1 = 0
  | [], _, _, _, _, _, _ => rfl
  | f :: fs, [], _, h, _, _, _ => by simp at h
  | f :: fs, o :: l, os, h, hf, hn, ho => by
    obtain ⟨h1, h2, h3⟩ := hf 0 (by simp) (by simp)
    simp only [List.getElem_cons_zero] at h1 h2 h3
    have hfo : fndI f.id os = some o := by rw [h1]; exact ho o (by simp)
    rw [List.map_cons, List.nodup_cons] at hn
    have hne : ∀ x ∈ l, x.id ≠ f.id := fun x hx e => hn.1 (by rw [← h1, ← e]; exact List.mem_map.2 ⟨x, hx, rfl⟩)
    have hf' : ∀ i (h1 : i < fs.length) (h2 : i < l.length), fs[i].id = l[i].id ∧ 1 ≤ fs[i].qty ∧ fs[i].qty ≤ l[i].qty := fun i h1 h2 => by
      have := hf (i + 1) (by simpa using h1) (by simpa using h2)
      simpa using this
    have hl' : fs.length ≤ l.length := by simpa using h
    unfold appF
    by_cases hg : f.gone = true
    · rw [if_pos hg, hfo]
      simp only [Option.isSome_some, if_true]
      exact app_ok fs l _ hl' hf' hn.2 (fun x hx => by rw [fnd_rm (hne x hx)]; exact ho x (by simp [hx]))
    · have hr : (redF f.id f.qty os).1 = 0 := by
        unfold redF
        rw [hfo]
        simp only
        rw [if_neg (by omega)]
      rw [if_neg hg, if_pos hr]
      exact app_ok fs l _ hl' hf' hn.2 (fun x hx => by rw [redO_ne (hne x hx)]; exact ho x (by simp [hx]))
end Sw
end Go.Proofs.YtbnappiaomiciaaGreat
