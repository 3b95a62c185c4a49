/- This text proves contracts of damperref13, the document's book: a list of orders over a slice in memory; New, Find, Get. They have no conditions but those that they state. -/
import Derived.Test.YtbnappiaomiciaaBkV
import Derived.Test.YtbnappiaomiciaaSink
namespace Go.Proofs.Ytbnappiaomiciaa
set_option linter.unusedVariables false
open Go.RowKit
namespace Rk
set_option maxHeartbeats 2000000
set_option maxRecDepth 10000
open Are (ord0)
open Bk (fndI)
theorem ord_ok (l : List Ord) : ∀ r ∈ l.map Ord.cells, r.length = 7 ∧ ∀ u ∈ r, u.oneCell' = true := by
  intro r hr
  obtain ⟨x, _, rfl⟩ := List.mem_map.1 hr
  exact ⟨rfl, fun u hu => by simp [Ord.cells] at hu; rcases hu with rfl | rfl | rfl | rfl | rfl | rfl | rfl <;> rfl⟩
def flatO (l : List Ord) : List Value := (l.map Ord.cells).flatten
section
variable {w : World} {rb : Nat} {N most : Int} {L : List Ord} {A : Option Addr} {cap : Nat}
def idxI (id : Int) (L : List Ord) : Nat := L.findIdx fun o => decide (o.id = id)
def plcI (id : Int) (L : List Ord) : Int := if idxI id L < L.length then (idxI id L : Int) else -1
theorem fnd_idx (id : Int) : ∀ L : List Ord, fndI id L = L[idxI id L]?
  | [] => rfl
  | x :: L => by
    have ih := fnd_idx id L
    unfold fndI idxI at *
    rw [List.find?_cons, List.findIdx_cons]
    cases h : decide (x.id = id) with
    | true => rfl
    | false => simpa using ih
theorem fnd_yes {id : Int} (h : idxI id L < L.length) : fndI id L = some L[idxI id L] := by rw [fnd_idx, List.getElem?_eq_getElem h]
theorem fnd_no {id : Int} (h : ¬ idxI id L < L.length) : fndI id L = none := by rw [fnd_idx, List.getElem?_eq_none (by omega)]
end
end Rk
end Go.Proofs.Ytbnappiaomiciaa
