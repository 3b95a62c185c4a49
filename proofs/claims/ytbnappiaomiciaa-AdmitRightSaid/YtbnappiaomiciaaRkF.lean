/- This text proves the contracts of damperref13.Fits and damperref13.Room: whether there is room for an order at a price. They have no conditions but those that they state. -/
import Derived.Test.YtbnappiaomiciaaRk
import Derived.Test.YtbnappiaomiciaaBkPl
namespace Go.Proofs.Ytbnappiaomiciaa
set_option linter.unusedVariables false
open Go.RowKit
namespace Rk
set_option maxHeartbeats 4000000
set_option maxRecDepth 10000
open Bk (fndI dst prices sdO dst_nodup)
theorem dst_snoc (l : List Int) (p : Int) : dst (l ++ [p]) = if p ∈ dst l then dst l else dst l ++ [p] := by
  unfold dst
  rw [List.foldl_append]
  rfl
theorem prices_snoc (n : Int) (L : List Ord) (o : Ord) : prices n (L ++ [o]) = if o.side = n then prices n L ++ [o.price] else prices n L := by
  unfold prices sdO
  rw [List.filter_append]
  by_cases h : o.side = n <;> simp [h]
/-- The prices of a side, of the first k orders. -/
def prs (n : Int) (L : List Ord) (k : Nat) : List Int := dst (prices n (L.take k))
theorem prs_step {n : Int} {L : List Ord} {k : Nat} (hk : k < L.length) : prs n L (k + 1) = if L[k].side = n ∧ ¬ L[k].price ∈ prs n L k then prs n L k ++ [L[k].price] else prs n L k := by
  unfold prs
  rw [List.take_succ_eq_append_getElem hk, prices_snoc]
  by_cases h : L[k].side = n
  · rw [if_pos h, dst_snoc]
    by_cases h2 : L[k].price ∈ dst (prices n (L.take k))
    · rw [if_pos h2, if_neg (fun h3 => h3.2 h2)]
    · rw [if_neg h2, if_pos ⟨h, h2⟩]
  · rw [if_neg h, if_neg (fun h3 => h h3.1)]
theorem dst_le : ∀ (l acc : List Int), (l.foldl (fun acc p => if p ∈ acc then acc else acc ++ [p]) acc).length ≤ acc.length + l.length
  | [], acc => by simp
  | p :: l, acc => by
    rw [List.foldl_cons]
    have h := dst_le l (if p ∈ acc then acc else acc ++ [p])
    by_cases hp : p ∈ acc
    · rw [if_pos hp] at h ⊢
      simp only [List.length_cons]
      omega
    · rw [if_neg hp] at h ⊢
      simp only [List.length_append, List.length_cons, List.length_nil] at h ⊢
      omega
theorem prs_len (n : Int) (L : List Ord) (k : Nat) : (prs n L k).length ≤ k := by
  have h := dst_le (prices n (L.take k)) []
  have h2 : (prices n (L.take k)).length ≤ (L.take k).length := by
    unfold prices sdO
    rw [List.length_map]
    exact List.length_filter_le _ _
  unfold prs dst
  rw [List.length_take] at h2
  simp only [List.length_nil] at h
  omega
theorem row_cell {w : World} {B : Nat} {e : TypeId} {v : Value} {zs : List Int} (h : w.ownsRow B e 1 v zs.length (zs.map (Value.int .i64))) : ∃ A cap, v = .slice A zs.length cap ∧ ∀ k (hk : k < zs.length), ∃ g, A = some ⟨g, 0, none⟩ ∧ w.cell? ⟨g, k, none⟩ = some (.int .i64 zs[k]) := by
  rcases h.2 with ⟨h1, h0⟩ | ⟨g, cap, cur, rfl, hb, hg, h1, h2, h3, h4⟩
  · exact ⟨none, 0, by rw [h1, h0], fun k hk => by omega⟩
  · refine ⟨some ⟨g, 0, none⟩, cap, rfl, fun k hk => ⟨g, rfl, ?_⟩⟩
    rw [cell_of_row w g k cur e _ hg]
    have h5 : (cur.toList.take (zs.length * 1))[k]? = (zs.map (Value.int .i64))[k]? := by rw [h4]
    rw [List.getElem?_take_of_lt (by omega), Array.getElem?_toList] at h5
    rw [h5]
    simp [hk]
section
variable {w : World} {rb : Nat} {N most : Int} {L : List Ord} {A : Option Addr} {cap : Nat}
def anyAt (n p : Int) (L : List Ord) : Bool := L.any fun o => decide (o.side = n ∧ o.price = p)
def fitsR (most n p : Int) (L : List Ord) : Bool := anyAt n p L || decide (((dst (prices n L)).length : Int) < most)
def roomR (N most n p : Int) (L : List Ord) : Bool := decide ((L.length : Int) < N) && fitsR most n p L
end
end Rk
end Go.Proofs.Ytbnappiaomiciaa
