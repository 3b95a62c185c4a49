/- This text proves how a map whose keys are pairs of whole numbers reads, and laws for operations on such maps in the words of a list of rows. It has no conditions but those that it states. -/
import Derived.Test.YtacpjpkhmdcagaaGreatOwn
import Derived.Maps.OwnSet
import Derived.Maps.OwnOps
import Derived.Maps.RangeWalk
import Derived.DeepKeys4
namespace Go.Proofs.YtacpjpkhmdcagaaGreat
set_option linter.unusedVariables false
open Go.RowKit Go.Maps
namespace Idx
set_option maxRecDepth 10000
theorem laidK : laidOutB Tryz.prog = true := by kernel_rfl
theorem rowK : (101 : TypeId) < Tryz.prog.types.size := of_decide_eq_true (by kernel_rfl)
theorem posT : 0 < Tryz.prog.types.size := Nat.lt_of_le_of_lt (Nat.zero_le _) rowK
theorem wideK : (match Tryz.prog.underlying 101 with | some (.array _ _) | some (.struct _) => true | _ => false) = true := by kernel_rfl
theorem typeK : Tryz.prog.keyType 101 = true := by kernel_rfl
theorem cellsK : Tryz.prog.cellsOf 101 = 2 := by kernel_rfl
theorem cellsI : Tryz.prog.cellsOf 3 = 1 := by kernel_rfl
theorem cellsJ : Tryz.prog.cellsOf 2 = 1 := by kernel_rfl
theorem lawK : Keyed Tryz.prog 101 := Keyed.of_law (deep_law_laid laidK (m := 2) (by omega) rowK (by kernel_rfl) wideK)
theorem lawI : Keyed Tryz.prog 3 := int_keyed Tryz.underlying3
def key (s i : Int) : Value := .agg #[.int .i64 s, .int .i64 i]
def kl (s i : Int) : Lit := .string (keyBytes [.int .i64 s, .int .i64 i])
theorem litsInt {t : TypeId} (hu : Tryz.prog.underlying t = some (.int .i64)) (d : Nat) (cs : List Value) (L : List Lit) : Tryz.prog.keyLits (d + 1) t cs = some L ↔ ∃ n, cs = [.int .i64 n] ∧ (Lit.int .i64 n).wf = true ∧ L = [.int .i64 n] := by
  conv => lhs; lhs; unfold Program.keyLits
  simp only [hu]
  constructor
  · intro h
    split at h
    all_goals try (simp at h; done)
    all_goals (rename_i heq; cases heq)
    split at h
    · rename_i hc
      obtain ⟨rfl, hw⟩ := hc
      cases h
      exact ⟨_, rfl, hw, rfl⟩
    · cases h
  · rintro ⟨n, rfl, hw, rfl⟩
    simp [hw]
theorem litsK (d : Nat) (cs : List Value) (L : List Lit) : Tryz.prog.keyLits (d + 2) 101 cs = some L ↔ ∃ s i, cs = [.int .i64 s, .int .i64 i] ∧ (Lit.int .i64 s).wf = true ∧ (Lit.int .i64 i).wf = true ∧ L = [.int .i64 s, .int .i64 i] := by
  have hu := Tryz.underlying101
  rw [show d + 2 = (d + 1) + 1 from rfl]
  conv => lhs; lhs; unfold Program.keyLits
  simp only [hu, cellsK]
  constructor
  · intro h
    split at h
    · rename_i hc
      obtain ⟨a, b, rfl⟩ : ∃ a b, cs = [a, b] := by
        match cs, hc.1 with
        | [a, b], _ => exact ⟨a, b, rfl⟩
      simp only [List.mapM_cons, List.mapM_nil, cellsI, cellsJ, List.drop_zero, List.take_succ_cons, List.take_zero, List.drop_succ_cons] at h
      cases h1 : Tryz.prog.keyLits (d + 1) 3 [a] with
      | none => simp [h1] at h
      | some L1 =>
        cases h2 : Tryz.prog.keyLits (d + 1) 2 [b] with
        | none => simp [h1, h2] at h
        | some L2 =>
          obtain ⟨n, e1, w1, rfl⟩ := (litsInt Tryz.underlying3 d _ _).1 h1
          obtain ⟨m, e2, w2, rfl⟩ := (litsInt Tryz.underlying2 d _ _).1 h2
          simp [h1, h2] at h
          cases e1
          cases e2
          exact ⟨n, m, rfl, w1, w2, h.symm⟩
    · cases h
  · rintro ⟨s, i, rfl, hs, hi, rfl⟩
    have h1 := (litsInt Tryz.underlying3 d [.int .i64 s] _).2 ⟨s, rfl, hs, rfl⟩
    have h2 := (litsInt Tryz.underlying2 d [.int .i64 i] _).2 ⟨i, rfl, hi, rfl⟩
    simp [cellsI, cellsJ, h1, h2]
theorem keyK {s i : Int} (hs : (Lit.int .i64 s).wf = true) (hi : (Lit.int .i64 i).wf = true) : keyOf Tryz.prog 101 (key s i) = some (kl s i) := by
  have hf : (key s i).formed Tryz.prog 101 = true := by
    simp [key, Value.formed, Tryz.underlying101, cellsK]
  have hl := (litsK (Tryz.prog.types.size - 1) [.int .i64 s, .int .i64 i] _).2 ⟨s, i, rfl, hs, hi, rfl⟩
  have hz : Tryz.prog.types.size + 1 = Tryz.prog.types.size - 1 + 2 := by have := posT; omega
  unfold keyOf
  simp only [Tryz.underlying101]
  rw [typeK, hf, hz]
  show (Option.map _ (Tryz.prog.keyLits _ 101 [.int .i64 s, .int .i64 i])) = _
  rw [hl]
  rfl
theorem keyK_inv {k : Value} {l : Lit} (h : keyOf Tryz.prog 101 k = some l) : ∃ s i, k = key s i ∧ l = kl s i ∧ (Lit.int .i64 s).wf = true ∧ (Lit.int .i64 i).wf = true := by
  obtain ⟨xs, L, rfl, h1, rfl⟩ := keyOf_top wideK h
  have hz : Tryz.prog.types.size + 1 = Tryz.prog.types.size - 1 + 2 := by have := posT; omega
  rw [hz] at h1
  obtain ⟨s, i, h2, h3, h4, rfl⟩ := (litsK _ _ _).1 h1
  refine ⟨s, i, ?_, rfl, h3, h4⟩
  unfold key
  rw [← h2]
theorem kl_inj {s i s' i' : Int} (hs : (Lit.int .i64 s).wf = true) (hi : (Lit.int .i64 i).wf = true) (hs' : (Lit.int .i64 s').wf = true) (hi' : (Lit.int .i64 i').wf = true) (h : kl s i = kl s' i') : s = s' ∧ i = i' := by
  have h1 := lawK.inj (keyK hs hi) (h ▸ keyK hs' hi')
  unfold key at h1
  simp at h1
  exact h1
end Idx
end Go.Proofs.YtacpjpkhmdcagaaGreat
