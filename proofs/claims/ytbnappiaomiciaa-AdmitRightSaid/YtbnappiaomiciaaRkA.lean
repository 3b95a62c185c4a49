/- This text proves the contract of damperref13.Add. It has no conditions but those that it states. -/
import Derived.Test.YtbnappiaomiciaaRkF
import Derived.Test.YtbnappiaomiciaaBkAdd
namespace Go.Proofs.Ytbnappiaomiciaa
set_option linter.unusedVariables false
open Go.RowKit
namespace Rk
set_option maxHeartbeats 4000000
set_option maxRecDepth 10000
open Bk (fndI sided inRng addF addO roomO fitsO dst prices)
section
variable {w : World} {rb N most : Nat} {L : List Ord} {A : Option Addr} {cap : Nat}
theorem room_eq {n p : Int} (h : sided n = true) : roomR (N : Int) (most : Int) n p L = roomO N most n p L := by
  unfold roomR fitsR anyAt roomO fitsO
  unfold sided at h
  rw [h, Bool.true_and, Bool.and_comm]
  congr 1
  · congr 1
    exact decide_eq_decide.2 (by omega)
  · exact decide_eq_decide.2 (by omega)
theorem plc_some {id : Int} : (0 ≤ plcI id L ↔ (fndI id L).isSome = true) := by
  unfold plcI
  by_cases h : idxI id L < L.length
  · rw [if_pos h, fnd_yes h]
    simp
  · rw [if_neg h, fnd_no h]
    simp
theorem owns_o7 {w : World} {B : Nat} {v : Value} {l : List Ord} (h : w.ownsRow B 35 7 v l.length (flatO l)) : ∃ A cap, v = .slice A l.length cap ∧ Rd w 7 A (l.map Ord.cells) ∧ l.length ≤ cap ∧ (A = none → cap = 0) ∧ ∀ a, A = some a → B ≤ a.block ∧ a.block < w.heap.size := by
  rcases h.2 with ⟨rfl, h0⟩ | ⟨g, cap, cur, rfl, hb, hg, hc, _, _, ht⟩
  · rw [h0]
    have : l = [] := List.eq_nil_of_length_eq_zero h0
    subst this
    exact ⟨none, 0, rfl, fun hne => absurd rfl hne, Nat.le_refl _, fun _ => rfl, fun a e => by cases e⟩
  · refine ⟨some ⟨g, 0, none⟩, cap, rfl, rd_own (show Blk w g 35 cur from hg) (n := l.length) (fun r hr => ?_) ht, hc, (fun e => by cases e), fun a e => ?_⟩
    · exact (ord_ok l r hr).1
    · cases e
      exact ⟨hb, heap_lt hg⟩
theorem owns_cellsO {W : World} {B : Nat} {e : TypeId} {size n : Nat} {v : Value} {xs : List Value} (h : W.ownsRow B e size v n xs) : v.cells = #[v] ∧ v.oneCell' = true := by
  rcases h.2 with ⟨rfl, _⟩ | ⟨g, cap, cur, rfl, _⟩ <;> exact ⟨rfl, rfl⟩
theorem wp_calm {P : Program} {o : Oper} {a : Act} {w : World} {K : Act → World → Prop} {Q : Exit → Act → World → Prop} {v : Value} (hx : (execOp a.eval o).run P w = .ok (.value v) w) (h : K (a.put o.dst v) w) : o.wp P a w K Q := by
  unfold Oper.wp
  rw [hx, Oper.upon_value]
  exact h
def SA (rb : Nat) (A : Option Addr) (n cap ob : Nat) (o : Ord) (W : World) : Prop := W.cell? ⟨rb, 2, none⟩ = some (.slice A n cap) ∧ (W.cell? ⟨ob, 0, none⟩ = some (.int .i64 o.id) ∧ W.cell? ⟨ob, 1, none⟩ = some (.int .i64 o.owner) ∧ W.cell? ⟨ob, 2, none⟩ = some (.int .i64 o.side) ∧ W.cell? ⟨ob, 3, none⟩ = some (.int .i64 o.price) ∧ W.cell? ⟨ob, 4, none⟩ = some (.int .i64 o.qty) ∧ W.cell? ⟨ob, 5, none⟩ = some (.int .i64 o.flags) ∧ W.cell? ⟨ob, 6, none⟩ = some (.int .i64 o.seq))
end
end Rk
end Go.Proofs.Ytbnappiaomiciaa
