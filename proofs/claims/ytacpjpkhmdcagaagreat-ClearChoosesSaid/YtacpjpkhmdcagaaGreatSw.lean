/- This text proves what the small functions of the package sweep answer: other, worse, put. It has no conditions but those that it states. -/
import Derived.Test.YtacpjpkhmdcagaaGreatSwL
import Derived.Test.YtacpjpkhmdcagaaGreatBkV
import Derived.Test.YtacpjpkhmdcagaaGreatRkA
namespace Go.Proofs.YtacpjpkhmdcagaaGreat
set_option linter.unusedVariables false
open Go.RowKit
namespace Sw
set_option maxHeartbeats 4000000
set_option maxRecDepth 10000
open Bk (bet)
/-- What put leaves: all blocks but the plan and the row of its fills. -/
structure Pt (pb : Nat) (v : Value) (w w' : World) : Prop where
  os : w'.os = w.os
  tape : w'.tape = w.tape
  output : w'.output = w.output
  size : w.heap.size ≤ w'.heap.size
  same : ∀ q, q < w.heap.size → q ≠ pb → v.ownBlock ≠ some q → w'.heap[q]? = w.heap[q]?
theorem fl_ok (l : List Fl) : ∀ r ∈ l.map Fl.cells, r.length = 4 ∧ ∀ u ∈ r, u.oneCell' = true := by
  intro r hr
  obtain ⟨x, _, rfl⟩ := List.mem_map.1 hr
  exact ⟨rfl, fun u hu => by simp [Fl.cells] at hu; rcases hu with rfl | rfl | rfl | rfl <;> rfl⟩
theorem flatF_snoc (l : List Fl) (f : Fl) : flatF (l ++ [f]) = flatF l ++ [f.cells].flatten := by simp [flatF]
def SP (pb ob : Nat) (v : Value) (o : Ord) (W : World) : Prop := W.cell? ⟨pb, 0, none⟩ = some v ∧ W.cell? ⟨ob, 0, none⟩ = some (.int .i64 o.id) ∧ W.cell? ⟨ob, 3, none⟩ = some (.int .i64 o.price)
theorem owns_cellsF {W : World} {B : Nat} {e : TypeId} {size n : Nat} {v : Value} {xs : List Value} (h : W.ownsRow B e size v n xs) : v.cells = #[v] ∧ v.oneCell' = true := by
  rcases h.2 with ⟨rfl, _⟩ | ⟨g, cap, cur, rfl, _⟩ <;> exact ⟨rfl, rfl⟩
theorem owns_keepB {w w' : World} {B : Nat} {e : TypeId} {size n : Nat} {v : Value} {xs : List Value} (h : w.ownsRow B e size v n xs) (hk : ∀ (r : Nat) (cs : Array Value) (fr : Nat × Nat), w.heap[r]? = some (Obj.cells cs e fr) → w'.heap[r]? = w.heap[r]?) : w'.ownsRow B e size v n xs := by
  refine ⟨h.1, ?_⟩
  rcases h.2 with h0 | ⟨g, cap, cur, h1, h2, h3, h4⟩
  · exact .inl h0
  · exact .inr ⟨g, cap, cur, h1, h2, (hk _ _ _ h3).trans h3, h4⟩
theorem owns_upd {w w' : World} {B pb : Nat} {e t : TypeId} {size n : Nat} {v : Value} {xs : List Value} {cs : Array Value} (h : w.ownsRow B e size v n xs) (hP : Blk w pb t cs) (ht : t ≠ e) (u : Upd pb w w') : w'.ownsRow B e size v n xs :=
  owns_keepB h (fun r cs fr hr => u.block r (fun e => by
    subst e
    rw [show w.heap[_]? = _ from hP] at hr
    cases hr
    exact ht rfl))
end Sw
end Go.Proofs.YtacpjpkhmdcagaaGreat
