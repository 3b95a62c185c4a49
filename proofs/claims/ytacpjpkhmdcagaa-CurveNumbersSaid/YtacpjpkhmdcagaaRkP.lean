/- This text proves the contract of damperref13.Remove. It has no conditions but those that it states. This text proves the contract of damperref13.Reduce. It has no conditions but those that it states. This text proves the contract of damperref13.Of: a side's orders, in their order. It has no conditions but those that it states. -/
import Derived.Test.YtacpjpkhmdcagaaRkA
import Derived.Test.YtacpjpkhmdcagaaBkV
namespace Go.Proofs.Ytacpjpkhmdcagaa
set_option linter.unusedVariables false
open Go.RowKit
namespace Rk
set_option maxHeartbeats 4000000
set_option maxRecDepth 10000
open Are (ord0)
open Bk (fndI rmI rm_none)
theorem cut_tail (A : Option Addr) (len cap k : Nat) (hk : k ≤ len) (hf : len ≤ cap) (hn : A = none → cap = 0) : ∃ (A' : Option Addr), (A' = none → cap - k = 0) ∧ (∀ (W : World) (l m : List Ord), l.length = k → (l ++ m).length = len → Rd W 7 A ((l ++ m).map Ord.cells) → Rd W 7 A' (m.map Ord.cells)) ∧ ∀ W, (Instr.sliceAt 30 (.slice A len cap) (some (.int .i64 k)) none none).run Try.prog W = .ok (.slice A' (len - k) (cap - k)) W := by
  have ht : Try.prog.underlying 30 = some (.slice (Try.prog.elem 30)) := by kernel_rfl
  have he : Try.prog.elem 30 = 48 := by kernel_rfl
  obtain ⟨i, hi, hz, hs, hby⟩ := info_parts (P := Try.prog) (e := 48) (z := .agg #[.int .i64 0, .int .i64 0, .int .i64 0, .int .i64 0, .int .i64 0, .int .i64 0, .int .i64 0]) (size := 7) (bytes := 56) (by kernel_rfl)
  refine ⟨if cap = k then A else A.map (·.add (k * 7)), ?_, fun W l m hl hlm h hne => ?_, fun W => ?_⟩
  · intro h
    by_cases e : cap = k
    · omega
    · rw [if_neg e] at h
      have := hn (by simpa using h)
      omega
  · by_cases e : cap = k
    · have h0 : m = [] := by
        apply List.eq_nil_of_length_eq_zero
        simp at hlm
        omega
      subst h0
      exact absurd rfl hne
    · rw [if_neg e]
      obtain ⟨b1, o1, rfl, hc⟩ := h (by intro h0; apply hne; simp at h0; simp [h0.2])
      refine ⟨b1, o1 + k * 7, by simp [Addr.add], fun i j u hu => ?_⟩
      have h1 := hc (k + i) j u (by
        rw [List.map_append, List.getD_eq_getElem?_getD, List.getElem?_append_right (by simp; omega)]
        rw [List.getD_eq_getElem?_getD] at hu
        simpa [hl] using hu)
      rw [← h1]
      congr 2
      omega
  · rw [run_sliceAt_slice (h := ht), run_slice_l (ht := ht) (kl := .i64) (l := (k : Int)) (len := len) (h0 := by omega) (h1 := by omega), he]
    simp only [sizeOf, typeInfo, Sem.run_bind]
    simp [hi, sliced, hs]
def SR (rb : Nat) (A : Option Addr) (len cap : Nat) (W : World) : Prop := W.cell? ⟨rb, 2, none⟩ = some (.slice A len cap) ∧ True
section
variable {w : World} {rb N most : Nat} {L : List Ord} {A : Option Addr} {cap : Nat}
end
end Rk
end Go.Proofs.Ytacpjpkhmdcagaa
namespace Go.Proofs.Ytacpjpkhmdcagaa
set_option linter.unusedVariables false
open Go.RowKit
namespace Rk
set_option maxHeartbeats 4000000
set_option maxRecDepth 10000
open Are (ord0)
open Bk (fndI rmI rm_none rdI redF redO less)
section
variable {w : World} {rb N most : Nat} {L : List Ord} {A : Option Addr} {cap : Nat}
end
end Rk
end Go.Proofs.Ytacpjpkhmdcagaa
namespace Go.Proofs.Ytacpjpkhmdcagaa
set_option linter.unusedVariables false
open Go.RowKit
namespace Rk
set_option maxHeartbeats 4000000
set_option maxRecDepth 10000
open Bk (bet insO srt sdO srt_snoc ins_perm)
section
variable {w : World} {rb N most : Nat} {L : List Ord} {A : Option Addr} {cap : Nat}
end
end Rk
end Go.Proofs.Ytacpjpkhmdcagaa
