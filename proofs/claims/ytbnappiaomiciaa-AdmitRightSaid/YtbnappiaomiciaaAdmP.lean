/- This text is plain law: what holds of a command that admit.New lets pass. It has no conditions but those that it states. -/
import Derived.Test.YtbnappiaomiciaaAdmN
namespace Go.Proofs.Ytbnappiaomiciaa
set_option linter.unusedVariables false
open Go.RowKit
namespace Adm
theorem firstF_zero (f : Nat → Int) : ∀ (m k : Nat), firstF f k m = 0 → ∀ j, j < m → f (k + j) = 0
  | 0, k, h, j, hj => absurd hj (Nat.not_lt_zero j)
  | m + 1, k, h, j, hj => by
    unfold firstF at h
    by_cases h0 : f k = 0
    · rw [if_pos h0] at h
      cases j with
      | zero => exact h0
      | succ j => rw [show k + (j + 1) = (k + 1) + j by omega]; exact firstF_zero f m (k + 1) h j (by omega)
    · rw [if_neg h0] at h
      exact absurd h h0
theorem unl_zero {b : Bool} {f : Int} (hf : f ≠ 0) (h : unlF b f = 0) : b = true := by
  unfold unlF at h
  split at h
  · assumption
  · exact absurd h hf
/-- What holds of a command that is let pass. -/
structure Let (c : Cmd) (ph g : Int) (may : Bool) : Prop where
  id : 0 ≤ c.id ∧ c.id ≤ 4611686018427387904
  owner : 0 ≤ c.owner ∧ c.owner ≤ 1073741824
  side : c.side = 0 ∨ c.side = 1
  typ : 1 ≤ c.typ ∧ c.typ ≤ 5
  flags : 0 ≤ c.flags ∧ c.flags ≤ 7
  phase : ph = 2 ∨ ((ph = 1 ∨ ph = 3 ∨ ph = 4) ∧ (c.typ = 1 ∨ c.typ = 5))
  qty : 1 ≤ c.qty ∧ c.qty ≤ 4294967296
  may : may = true
  market : c.typ = 2 → c.price = 0
  price : c.typ ≠ 2 → 1 ≤ c.price ∧ c.price ≤ 1099511627776 ∧ c.price % g = 0
theorem let_of {c : Cmd} {ph g : Int} {may : Bool} (h : newF c ph g may = 0) : Let c ph g may := by
  unfold newF at h
  have H := firstF_zero _ _ _ h
  have h0 := unl_zero (by decide) (H 0 (by decide))
  have h1 := unl_zero (by decide) (H 1 (by decide))
  have h2 : valF c.price c.qty g may (c.typ == 2) = 0 := H 2 (by decide)
  unfold valF at h2
  have V := firstF_zero _ _ _ h2
  have v0 : priceM c.price g (c.typ == 2) = 0 := V 0 (by decide)
  have v1 : qtyF c.qty = 0 := V 1 (by decide)
  have v3 : may = true := unl_zero (by decide) (V 3 (by decide))
  rw [Bool.and_eq_true] at h0
  obtain ⟨k1, k2⟩ := h0
  have k1' : c.kind = 1 := by simpa using k1
  unfold rightF at k2
  rw [if_pos k1'] at k2
  simp only [inF, Bool.and_eq_true, decide_eq_true_eq] at k2
  obtain ⟨_, ⟨a1, a2⟩, ⟨b1, b2⟩, ⟨s1, s2⟩, ⟨t1, t2⟩, f1, f2⟩ := k2
  simp only [matF, resF, stF, Bool.or_eq_true, Bool.and_eq_true, beq_iff_eq] at h1
  have q1 : 1 ≤ c.qty ∧ c.qty ≤ 4294967296 := by
    unfold qtyF inF at v1
    split at v1
    · rename_i hq; simpa using hq
    · omega
  refine ⟨⟨a1, a2⟩, ⟨b1, b2⟩, by omega, ⟨t1, t2⟩, ⟨f1, f2⟩, by omega, q1, v3, ?_, ?_⟩
  · intro ht
    unfold priceM at v0
    rw [if_pos (by simpa using ht)] at v0
    have := unl_zero (by decide) v0
    simpa using this
  · intro ht
    unfold priceM at v0
    rw [if_neg (by simpa using ht)] at v0
    unfold priceG at v0
    split at v0
    · omega
    · split at v0
      · omega
      · split at v0
        · omega
        · omega
end Adm
end Go.Proofs.Ytbnappiaomiciaa
