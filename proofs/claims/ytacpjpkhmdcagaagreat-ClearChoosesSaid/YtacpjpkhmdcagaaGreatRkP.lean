/- This text proves the contract of damperref13.Remove. It has no conditions but those that it states. This text proves the contract of damperref13.Reduce. It has no conditions but those that it states. This text proves the contract of damperref13.Of: a side's orders, in their order. It has no conditions but those that it states. -/
import Derived.Test.YtacpjpkhmdcagaaGreatRkA
import Derived.Test.YtacpjpkhmdcagaaGreatBkV
namespace Go.Proofs.YtacpjpkhmdcagaaGreat
set_option linter.unusedVariables false
open Go.RowKit
namespace Rk
set_option maxHeartbeats 4000000
set_option maxRecDepth 10000
open Are (ord0)
open Bk (fndI rmI rm_none)
theorem cut_head (A : Option Addr) (len cap k : Nat) (hk : k ≤ cap) (hn : A = none → cap = 0) : ∃ (A' : Option Addr), (A' = none → cap = 0) ∧ (∀ (W : World) (l m : List Ord), Rd W 7 A ((l ++ m).map Ord.cells) → Rd W 7 A' (l.map Ord.cells)) ∧ ∀ W, (Instr.sliceAt 22 (.slice A len cap) none (some (.int .i64 k)) none).run Tryz.prog W = .ok (.slice A' k cap) W := by
  have ht : Tryz.prog.underlying 22 = some (.slice (Tryz.prog.elem 22)) := by kernel_rfl
  have he : Tryz.prog.elem 22 = 52 := by kernel_rfl
  obtain ⟨i, hi, hz, hs, hby⟩ := info_parts (P := Tryz.prog) (e := 52) (z := .agg #[.int .i64 0, .int .i64 0, .int .i64 0, .int .i64 0, .int .i64 0, .int .i64 0, .int .i64 0]) (size := 7) (bytes := 56) (by kernel_rfl)
  refine ⟨A, hn, fun W l m h hne => ?_, fun W => ?_⟩
  · obtain ⟨b1, o1, e1, hc⟩ := h (by intro h0; apply hne; simp at h0; simp [h0.1])
    refine ⟨b1, o1, e1, fun i j u hu => hc i j u ?_⟩
    by_cases hi : i < l.length
    · rw [List.map_append, List.getD_eq_getElem?_getD, List.getElem?_append_left (by simpa using hi), ← List.getD_eq_getElem?_getD]
      exact hu
    · rw [List.getD_eq_getElem?_getD, List.getElem?_eq_none (l := l.map Ord.cells) (i := i) (by simpa using hi)] at hu
      simp at hu
  · rw [run_sliceAt_slice (h := ht), run_slice_h (ht := ht) (kh := .i64) (h := (k : Int)) (cap := cap) (h0 := by omega) (h2 := by omega), he]
    simp only [sizeOf, typeInfo, Sem.run_bind]
    simp [hi, sliced]
    intro _
    cases A with
    | none => rfl
    | some a =>
      obtain ⟨b, o, x⟩ := a
      simp [Addr.add]
theorem cut_tail (A : Option Addr) (len cap k : Nat) (hk : k ≤ len) (hf : len ≤ cap) (hn : A = none → cap = 0) : ∃ (A' : Option Addr), (A' = none → cap - k = 0) ∧ (∀ (W : World) (l m : List Ord), l.length = k → (l ++ m).length = len → Rd W 7 A ((l ++ m).map Ord.cells) → Rd W 7 A' (m.map Ord.cells)) ∧ ∀ W, (Instr.sliceAt 22 (.slice A len cap) (some (.int .i64 k)) none none).run Tryz.prog W = .ok (.slice A' (len - k) (cap - k)) W := by
  have ht : Tryz.prog.underlying 22 = some (.slice (Tryz.prog.elem 22)) := by kernel_rfl
  have he : Tryz.prog.elem 22 = 52 := by kernel_rfl
  obtain ⟨i, hi, hz, hs, hby⟩ := info_parts (P := Tryz.prog) (e := 52) (z := .agg #[.int .i64 0, .int .i64 0, .int .i64 0, .int .i64 0, .int .i64 0, .int .i64 0, .int .i64 0]) (size := 7) (bytes := 56) (by kernel_rfl)
  refine ⟨if cap = k then A else A.map (·.add (k * 7)), ?_, fun W l m hl hlm h hne => ?_, fun W => ?_⟩
  · intro h
    by_cases e : cap = k
    · omega
    · rw [if_neg e] at h
      have := hn (by simpa using h)
      omega
  · by_cases e : cap = k
    · have h0 : m = [] := by
        apply List.eq_nil_of_length_eq_zero
        simp at hlm
        omega
      subst h0
      exact absurd rfl hne
    · rw [if_neg e]
      obtain ⟨b1, o1, rfl, hc⟩ := h (by intro h0; apply hne; simp at h0; simp [h0.2])
      refine ⟨b1, o1 + k * 7, by simp [Addr.add], fun i j u hu => ?_⟩
      have h1 := hc (k + i) j u (by
        rw [List.map_append, List.getD_eq_getElem?_getD, List.getElem?_append_right (by simp; omega)]
        rw [List.getD_eq_getElem?_getD] at hu
        simpa [hl] using hu)
      rw [← h1]
      congr 2
      omega
  · rw [run_sliceAt_slice (h := ht), run_slice_l (ht := ht) (kl := .i64) (l := (k : Int)) (len := len) (h0 := by omega) (h1 := by omega), he]
    simp only [sizeOf, typeInfo, Sem.run_bind]
    simp [hi, sliced, hs]
def SR (rb : Nat) (A : Option Addr) (len cap : Nat) (W : World) : Prop := W.cell? ⟨rb, 2, none⟩ = some (.slice A len cap) ∧ True
theorem rm_idx {id : Int} : ∀ {L : List Ord}, (L.map (·.id)).Nodup → idxI id L < L.length → rmI id L = L.take (idxI id L) ++ L.drop (idxI id L + 1)
  | [], _, h => by simp at h
  | x :: L, hn, h => by
    rw [List.map_cons, List.nodup_cons] at hn
    have ih := rm_idx (id := id) hn.2
    unfold rmI idxI at *
    rw [List.findIdx_cons] at *
    rw [List.filter_cons]
    cases hx : decide (x.id = id) with
    | true =>
      have hxe := of_decide_eq_true hx
      have : L.filter (fun o => !decide (o.id = id)) = L := by
        rw [List.filter_eq_self]
        intro y hy
        have : y.id ≠ id := fun e => hn.1 (by rw [hxe, ← e]; exact List.mem_map_of_mem hy)
        simp [this]
      simp [this]
    | false =>
      rw [hx] at h
      simp only [List.length_cons] at h
      have h2 : L.findIdx (fun o => decide (o.id = id)) < L.length := by simpa using h
      simp [ih h2]
section
variable {w : World} {rb N most : Nat} {L : List Ord} {A : Option Addr} {cap : Nat}
end
end Rk
end Go.Proofs.YtacpjpkhmdcagaaGreat
namespace Go.Proofs.YtacpjpkhmdcagaaGreat
set_option linter.unusedVariables false
open Go.RowKit
namespace Rk
set_option maxHeartbeats 4000000
set_option maxRecDepth 10000
open Are (ord0)
open Bk (fndI rmI rm_none rdI redF redO less)
theorem rd_at {id z : Int} {L : List Ord} (hn : (L.map (·.id)).Nodup) {k : Nat} (hk : k < L.length) (he : L[k].id = id) : rdI id z L = L.set k (less L[k] z) := by
  unfold rdI
  refine List.ext_getElem (by simp) (fun j h1 h2 => ?_)
  have hj : j < L.length := by simpa using h1
  rw [List.getElem_map, List.getElem_set]
  by_cases e : k = j
  · subst e
    simp [he]
  · have hne : L[j].id ≠ id := fun h => by
      have h3 : (L.map (·.id))[j]'(by simpa using hj) = (L.map (·.id))[k]'(by simpa using hk) := by simp [h, he]
      exact e ((List.getElem_inj hn).1 h3).symm
    simp [e, hne]
theorem idx_id {id : Int} {L : List Ord} (h : idxI id L < L.length) : L[idxI id L].id = id := by
  have h2 := List.findIdx_getElem (w := h)
  exact of_decide_eq_true h2
section
variable {w : World} {rb N most : Nat} {L : List Ord} {A : Option Addr} {cap : Nat}
theorem rd_put {w w' : World} {g : Nat} {cur : Array Value} {L : List Ord} {k : Nat} {y : Ord} (hk : k < L.length) (hG : Blk w g 52 cur) (hR : Rd w 7 (some ⟨g, 0, none⟩) (L.map Ord.cells)) (hs : L.length * 7 ≤ cur.size) (hG' : Blk w' g 52 (putC cur (k * 7) y.cells)) : Rd w' 7 (some ⟨g, 0, none⟩) ((L.set k y).map Ord.cells) := by
  obtain ⟨b, o, e, hc⟩ := hR (by
    intro h
    rw [List.map_eq_nil_iff] at h
    rw [h] at hk
    cases hk)
  cases e
  refine fun _ => ⟨g, 0, rfl, fun i j u hu => ?_⟩
  have hy : y.cells.length = 7 := rfl
  rw [hG'.cell]
  by_cases hik : i = k
  · subst hik
    have hu2 : y.cells[j]? = some u := by
      rw [List.getD_eq_getElem?_getD, List.getElem?_map, List.getElem?_set_self hk] at hu
      exact hu
    have hj : j < 7 := by
      rcases Nat.lt_or_ge j 7 with h | h
      · exact h
      · rw [List.getElem?_eq_none (by omega)] at hu2
        cases hu2
    have h1 := put_in y.cells cur (i * 7) j (by omega) (by omega)
    rw [Nat.zero_add, h1]
    exact hu2
  · have hu2 : ((L.map Ord.cells).getD i [])[j]? = some u := by
      rw [List.getD_eq_getElem?_getD, List.getElem?_map, List.getElem?_set_ne (fun h => hik h.symm)] at hu
      rw [List.getD_eq_getElem?_getD, List.getElem?_map]
      exact hu
    have hj : j < 7 := by
      rcases Nat.lt_or_ge j 7 with h | h
      · exact h
      · rw [List.getD_eq_getElem?_getD, List.getElem?_map] at hu2
        cases hl : L[i]? with
        | none => rw [hl] at hu2; simp at hu2
        | some z =>
          rw [hl] at hu2
          have : z.cells[j]? = none := List.getElem?_eq_none (by have : z.cells.length = 7 := rfl; omega)
          simp [this] at hu2
    have h1 := hc i j u hu2
    rw [hG.cell] at h1
    rw [put_out y.cells cur (k * 7) (0 + (i * 7 + j)) (by omega)]
    exact h1
end
end Rk
end Go.Proofs.YtacpjpkhmdcagaaGreat
namespace Go.Proofs.YtacpjpkhmdcagaaGreat
set_option linter.unusedVariables false
open Go.RowKit
namespace Rk
set_option maxHeartbeats 4000000
set_option maxRecDepth 10000
open Bk (bet insO srt sdO srt_snoc ins_perm)
/-- Where an order is put. -/
theorem cutB (n : Int) (o : Ord) : ∀ l : List Ord, ∃ t, t ≤ l.length ∧ (∀ j (h : j < l.length), j < t → bet n o.price l[j].price = false) ∧ (∀ h : t < l.length, bet n o.price l[t].price = true) ∧ insO n o l = l.take t ++ o :: l.drop t
  | [] => ⟨0, Nat.le_refl _, fun j h => by simp at h, fun h => by simp at h, rfl⟩
  | x :: l => by
    cases e : bet n o.price x.price with
    | false =>
      obtain ⟨t, h1, h2, h3, h4⟩ := cutB n o l
      refine ⟨t + 1, by simpa using h1, fun j hj hjt => ?_, fun h => by simpa using h3 (by simpa using h), ?_⟩
      · cases j with
        | zero => simpa using e
        | succ j => simpa using h2 j (by simpa using hj) (by omega)
      · have h5 : insO n o (x :: l) = x :: insO n o l := by simp [insO, e]
        rw [h5, h4]
        simp
    | true => exact ⟨0, Nat.zero_le _, fun j h h0 => by omega, fun h => by simpa using e, by simp [insO, e]⟩
theorem srt_take {n : Int} {L : List Ord} {k : Nat} (hk : k < L.length) : srt n (L.take (k + 1)) = if L[k].side = n then insO n L[k] (srt n (L.take k)) else srt n (L.take k) := by
  rw [List.take_succ_eq_append_getElem hk, srt_snoc]
theorem srt_len (n : Int) (L : List Ord) : (srt n L).length ≤ L.length := by
  rw [(Bk.srt_perm n L).length_eq]
  unfold sdO
  exact List.length_filter_le _ _
theorem owns_mono {W : World} {B B' : Nat} {e : TypeId} {size n : Nat} {v : Value} {xs : List Value} (h : W.ownsRow B' e size v n xs) (hB : B ≤ B') : W.ownsRow B e size v n xs := by
  refine ⟨h.1, ?_⟩
  rcases h.2 with h0 | ⟨g, cap, cur, hv, hb, h1⟩
  · exact .inl h0
  · exact .inr ⟨g, cap, cur, hv, Nat.le_trans hB hb, h1⟩
section
variable {w : World} {rb N most : Nat} {L : List Ord} {A : Option Addr} {cap : Nat}
def SO (rb b o k n cap : Nat) (x : Ord) (W : World) : Prop := W.cell? ⟨rb, 2, none⟩ = some (.slice (some ⟨b, o, none⟩) n cap) ∧ (W.cell? ⟨b, o + k * 7, none⟩ = some (.int .i64 x.id) ∧ W.cell? ⟨b, o + k * 7 + 1, none⟩ = some (.int .i64 x.owner) ∧ W.cell? ⟨b, o + k * 7 + 2, none⟩ = some (.int .i64 x.side) ∧ W.cell? ⟨b, o + k * 7 + 3, none⟩ = some (.int .i64 x.price) ∧ W.cell? ⟨b, o + k * 7 + 4, none⟩ = some (.int .i64 x.qty) ∧ W.cell? ⟨b, o + k * 7 + 5, none⟩ = some (.int .i64 x.flags) ∧ W.cell? ⟨b, o + k * 7 + 6, none⟩ = some (.int .i64 x.seq))
theorem owned_ins {W : World} {B : Nat} {v : Value} {M1 M2 : List Ord} {x : Ord} {t N : Nat} (h : W.ownsRow B 52 7 v (0 + t + 1 + (N - t)) (([] ++ (M1.map Ord.cells).flatten) ++ [x.cells].flatten ++ (M2.map Ord.cells).flatten)) (h1 : M1.length = t) (h2 : M2.length = N - t) : W.ownsRow B 52 7 v (M1 ++ x :: M2).length (flatO (M1 ++ x :: M2)) := by
  have e1 : (M1 ++ x :: M2).length = 0 + t + 1 + (N - t) := by simp [h1, h2]; omega
  have e2 : flatO (M1 ++ x :: M2) = ([] ++ (M1.map Ord.cells).flatten) ++ [x.cells].flatten ++ (M2.map Ord.cells).flatten := by simp [flatO]
  rw [e1, e2]
  exact h
end
end Rk
end Go.Proofs.YtacpjpkhmdcagaaGreat
