/- This text proves plain laws on how much would be bought and sold at each price. It has no conditions but those that it states. This text proves the contract of damperref16.At: how much would be bought and sold at a price, of the document's book. It has no conditions but those that it states. This text proves the contract of curve.At: how much would be bought and sold at any price, of a curve of a book's orders. It has no conditions but those that it states. -/
import Derived.Test.YtacpjpkhmdcagaaGreatBkQ
import Derived.Test.YtacpjpkhmdcagaaGreatSwB
namespace Go.Proofs.YtacpjpkhmdcagaaGreat
set_option linter.unusedVariables false
namespace Cu
open Bk (qsum qsum_perm)
/-- A point of a curve. -/
structure Pt where
  (price demand supply : Int)
def Pt.cells (p : Pt) : List Value := [.int .i64 p.price, .int .i64 p.demand, .int .i64 p.supply]
def Pt.arr (p : Pt) : Array Value := p.cells.toArray
@[go_sem, simp] theorem Pt.arr_size (p : Pt) : p.arr.size = 3 := rfl
@[go_sem] theorem Pt.arr_0 (p : Pt) : p.arr[0]? = some (.int .i64 p.price) := rfl
@[go_sem] theorem Pt.arr_1 (p : Pt) : p.arr[1]? = some (.int .i64 p.demand) := rfl
@[go_sem] theorem Pt.arr_2 (p : Pt) : p.arr[2]? = some (.int .i64 p.supply) := rfl
/-- What would be bought at a price, and sold. -/
def dem (os : List Ord) (p : Int) : Int := qsum (os.filter fun o => decide (o.side = 0 ∧ p ≤ o.price))
def sup (os : List Ord) (p : Int) : Int := qsum (os.filter fun o => decide (o.side = 1 ∧ o.price ≤ p))
/-- What is to be bought at just this price, and sold. -/
def buyAt (os : List Ord) (p : Int) : Int := qsum (os.filter fun o => decide (o.side = 0 ∧ o.price = p))
def selAt (os : List Ord) (p : Int) : Int := qsum (os.filter fun o => decide (o.side = 1 ∧ o.price = p))
theorem qsum_or {a b c : Ord → Bool} : ∀ {os : List Ord}, (∀ o ∈ os, c o = (a o || b o)) → (∀ o ∈ os, ¬ (a o = true ∧ b o = true)) → qsum (os.filter c) = qsum (os.filter a) + qsum (os.filter b)
  | [], _, _ => rfl
  | o :: os, h1, h2 => by
    have ih := qsum_or (fun x hx => h1 x (List.mem_cons_of_mem _ hx)) (fun x hx => h2 x (List.mem_cons_of_mem _ hx))
    have e1 := h1 o (List.mem_cons_self ..)
    have e2 := h2 o (List.mem_cons_self ..)
    rw [List.filter_cons, List.filter_cons, List.filter_cons, e1]
    cases ha : a o <;> cases hb : b o
    · simpa using ih
    · simp [qsum]; rw [ih]; omega
    · simp [qsum]; rw [ih]; omega
    · exact absurd ⟨ha, hb⟩ e2
theorem qsum_cong {a b : Ord → Bool} {os : List Ord} (h : ∀ o ∈ os, a o = b o) : qsum (os.filter a) = qsum (os.filter b) := by
  rw [List.filter_congr h]
theorem qsum_none {a : Ord → Bool} {os : List Ord} (h : ∀ o ∈ os, a o = false) : qsum (os.filter a) = 0 := by
  rw [List.filter_eq_nil_iff.2 (fun o ho => by rw [h o ho]; decide)]
  rfl
theorem qsum_nn : ∀ {os : List Ord}, (∀ o ∈ os, 0 ≤ o.qty) → 0 ≤ qsum os
  | [], _ => Int.le_refl 0
  | o :: os, h => by
    have := qsum_nn (fun x hx => h x (List.mem_cons_of_mem _ hx))
    have := h o (List.mem_cons_self ..)
    simp [qsum]; omega
theorem qsum_le : ∀ {os : List Ord}, (∀ o ∈ os, o.qty ≤ 4294967296) → qsum os ≤ os.length * 4294967296
  | [], _ => by simp [qsum]
  | o :: os, h => by
    have := qsum_le (fun x hx => h x (List.mem_cons_of_mem _ hx))
    have := h o (List.mem_cons_self ..)
    simp only [qsum, List.length_cons]; omega
theorem qsum_rng {a : Ord → Bool} {os : List Ord} (h : ∀ o ∈ os, 0 ≤ o.qty ∧ o.qty ≤ 4294967296) (hl : os.length ≤ 1000) : 0 ≤ qsum (os.filter a) ∧ qsum (os.filter a) ≤ 4294967296000 := by
  refine ⟨qsum_nn (fun o ho => (h o (List.mem_filter.1 ho).1).1), ?_⟩
  have h1 := qsum_le (os := os.filter a) (fun o ho => (h o (List.mem_filter.1 ho).1).2)
  have h2 := List.length_filter_le a os
  omega
/-- Prices that rise, and are all that the orders have. -/
structure All (os : List Ord) (l : List Int) : Prop where
  up : l.Pairwise (· < ·)
  mem : ∀ p, p ∈ l ↔ ∃ o ∈ os, o.price = p
theorem up_eq : ∀ {a b : List Int}, a.Pairwise (· < ·) → b.Pairwise (· < ·) → (∀ x, x ∈ a ↔ x ∈ b) → a = b := fun {a b} ha hb h => by
  have hna : a.Nodup := ha.imp (fun {x y} h e => by omega)
  have hnb : b.Nodup := hb.imp (fun {x y} h e => by omega)
  exact List.Perm.eq_of_pairwise (le := fun x y => x < y) (fun x y _ _ h1 h2 => by omega) ha hb ((List.perm_ext_iff_of_nodup hna hnb).2 h)
section
variable {os : List Ord} {l : List Int}
theorem All.lt (A : All os l) {i j : Nat} (h : i < j) (hj : j < l.length) : l[i] < l[j] := List.pairwise_iff_getElem.1 A.up i j (by omega) hj h
theorem All.at (A : All os l) {o : Ord} (ho : o ∈ os) : ∃ i, ∃ h : i < l.length, o.price = l[i] := by
  obtain ⟨i, hi, e⟩ := List.getElem_of_mem ((A.mem o.price).2 ⟨o, ho, rfl⟩)
  exact ⟨i, hi, e.symm⟩
theorem All.le_iff (A : All os l) {i j : Nat} (hi : i < l.length) (hj : j < l.length) : l[i] ≤ l[j] ↔ i ≤ j := by
  rcases Nat.lt_trichotomy i j with h | h | h
  · have := A.lt h hj; omega
  · subst h; omega
  · have := A.lt h hi; omega
/-- The first price's supply, and each next one's. -/
theorem All.sup0 (A : All os l) (h : 0 < l.length) : sup os l[0] = selAt os l[0] := by
  refine qsum_cong (fun o ho => ?_)
  obtain ⟨i, hi, e⟩ := A.at ho
  have h1 := A.le_iff hi h
  have h2 := A.le_iff h hi
  rw [e]
  refine decide_eq_decide.2 ⟨fun h3 => ⟨h3.1, by omega⟩, fun h3 => ⟨h3.1, by omega⟩⟩
theorem All.supS (A : All os l) {k : Nat} (h : k + 1 < l.length) : sup os l[k + 1] = selAt os l[k + 1] + sup os l[k] := by
  refine qsum_or (fun o ho => ?_) (fun o ho h3 => ?_)
  · obtain ⟨i, hi, e⟩ := A.at ho
    have h1 := A.le_iff hi h
    have h2 := A.le_iff hi (show k < l.length by omega)
    have h4 := A.le_iff h hi
    rw [e, ← Bool.decide_or]
    refine decide_eq_decide.2 ⟨fun h3 => ?_, fun h3 => ?_⟩
    · by_cases hk : i ≤ k
      · exact .inr ⟨h3.1, h2.2 hk⟩
      · exact .inl ⟨h3.1, by have := h1.1 h3.2; omega⟩
    · rcases h3 with h3 | h3
      · exact ⟨h3.1, by omega⟩
      · exact ⟨h3.1, by have := h2.1 h3.2; omega⟩
  · have h1 := of_decide_eq_true h3.1
    have h2 := of_decide_eq_true h3.2
    have := A.lt (show k < k + 1 by omega) h
    omega
theorem All.demL (A : All os l) {k : Nat} (h : k + 1 = l.length) : dem os (l[k]'(by omega)) = buyAt os (l[k]'(by omega)) := by
  refine qsum_cong (fun o ho => ?_)
  obtain ⟨i, hi, e⟩ := A.at ho
  have h1 := A.le_iff (show k < l.length by omega) hi
  have h2 := A.le_iff hi (show k < l.length by omega)
  rw [e]
  refine decide_eq_decide.2 ⟨fun h3 => ⟨h3.1, by omega⟩, fun h3 => ⟨h3.1, by omega⟩⟩
theorem All.demS (A : All os l) {k : Nat} (h : k + 1 < l.length) : dem os (l[k]'(by omega)) = buyAt os (l[k]'(by omega)) + dem os l[k + 1] := by
  refine qsum_or (fun o ho => ?_) (fun o ho h3 => ?_)
  · obtain ⟨i, hi, e⟩ := A.at ho
    have h1 := A.le_iff (show k < l.length by omega) hi
    have h2 := A.le_iff h hi
    have h4 := A.le_iff hi (show k < l.length by omega)
    rw [e, ← Bool.decide_or]
    refine decide_eq_decide.2 ⟨fun h3 => ?_, fun h3 => ?_⟩
    · by_cases hk : k + 1 ≤ i
      · exact .inr ⟨h3.1, h2.2 hk⟩
      · exact .inl ⟨h3.1, by have := h1.1 h3.2; omega⟩
    · rcases h3 with h3 | h3
      · exact ⟨h3.1, by omega⟩
      · exact ⟨h3.1, by have := h2.1 h3.2; omega⟩
  · have h1 := of_decide_eq_true h3.1
    have h2 := of_decide_eq_true h3.2
    have := A.lt (show k < k + 1 by omega) h
    omega
/-- Where a price stands among all of them. -/
structure Stn (l : List Int) (p : Int) (i : Nat) : Prop where
  le : i ≤ l.length
  low : ∀ j (h : j < l.length), j < i → l[j] < p
  high : ∀ h : i < l.length, p ≤ l[i]
theorem Stn.low_iff (A : All os l) {p : Int} {i : Nat} (S : Stn l p i) {j : Nat} (hj : j < l.length) : l[j] < p ↔ j < i := by
  constructor
  · intro h
    rcases Nat.lt_or_ge j i with h1 | h1
    · exact h1
    · have h2 := S.high (by omega)
      have := (A.le_iff (by omega) hj).2 h1
      omega
  · exact S.low j hj
theorem Stn.dem_in (A : All os l) {p : Int} {i : Nat} (S : Stn l p i) (h : i < l.length) : dem os p = dem os l[i] := by
  refine qsum_cong (fun o ho => ?_)
  obtain ⟨j, hj, e⟩ := A.at ho
  have h1 := S.low_iff A hj
  have h2 := A.le_iff h hj
  rw [e]
  refine decide_eq_decide.2 ⟨fun h3 => ⟨h3.1, by omega⟩, fun h3 => ⟨h3.1, by omega⟩⟩
theorem Stn.dem_out (A : All os l) {p : Int} (S : Stn l p l.length) : dem os p = 0 := by
  refine qsum_none (fun o ho => ?_)
  obtain ⟨j, hj, e⟩ := A.at ho
  have h1 := (S.low_iff A hj).2 hj
  rw [e]
  exact decide_eq_false (by omega)
theorem Stn.sup_low (A : All os l) {p : Int} {i : Nat} (S : Stn l p i) (hne : ∀ h : i < l.length, l[i] ≠ p) (h0 : 0 < i) : sup os p = sup os (l[i - 1]'(by have := S.le; omega)) := by
  refine qsum_cong (fun o ho => ?_)
  obtain ⟨j, hj, e⟩ := A.at ho
  have hl := S.le
  have h1 := S.low_iff A hj
  have h2 := A.le_iff hj (show i - 1 < l.length by omega)
  have h4 : l[j] = p → False := fun e2 => by
    have h5 : ¬ j < i := fun h => by have := h1.2 h; omega
    have h6 := S.high (by omega)
    have h7 := (A.le_iff (show i < l.length by omega) hj).2 (by omega)
    have h8 := hne (by omega)
    omega
  rw [e]
  refine decide_eq_decide.2 ⟨fun h3 => ⟨h3.1, ?_⟩, fun h3 => ⟨h3.1, ?_⟩⟩
  · have h5 : l[j] < p := by
      rcases Int.lt_or_eq_of_le h3.2 with h | h
      · exact h
      · exact (h4 h).elim
    have := h1.1 h5
    omega
  · have h5 : j < i := by have := h2.1 h3.2; omega
    have := h1.2 h5
    omega
theorem Stn.sup_none (A : All os l) {p : Int} (S : Stn l p 0) (hne : ∀ h : 0 < l.length, l[0] ≠ p) : sup os p = 0 := by
  refine qsum_none (fun o ho => ?_)
  obtain ⟨j, hj, e⟩ := A.at ho
  have h0 : 0 < l.length := by omega
  have h1 := S.high h0
  have h2 := (A.le_iff h0 hj).2 (Nat.zero_le _)
  have h3 := hne h0
  rw [e]
  exact decide_eq_false (by omega)
end
/-- All points of a book's orders. -/
def pts (os : List Ord) (l : List Int) : List Pt := l.map fun p => ⟨p, dem os p, sup os p⟩
theorem dem_mono {os : List Ord} (h : ∀ o ∈ os, 0 ≤ o.qty) {a b : Int} (hab : a ≤ b) : dem os b ≤ dem os a := by
  have := qsum_or (os := os) (c := fun o => decide (o.side = 0 ∧ a ≤ o.price)) (a := fun o => decide (o.side = 0 ∧ b ≤ o.price)) (b := fun o => decide (o.side = 0 ∧ a ≤ o.price ∧ o.price < b)) (fun o ho => by
    rw [← Bool.decide_or]
    exact decide_eq_decide.2 ⟨fun h => by by_cases hb : b ≤ o.price <;> omega, fun h => by omega⟩) (fun o ho h3 => by
    have h1 := of_decide_eq_true h3.1
    have h2 := of_decide_eq_true h3.2
    omega)
  have h2 := qsum_nn (os := os.filter fun o => decide (o.side = 0 ∧ a ≤ o.price ∧ o.price < b)) (fun o ho => h o (List.mem_filter.1 ho).1)
  unfold dem
  omega
theorem sup_mono {os : List Ord} (h : ∀ o ∈ os, 0 ≤ o.qty) {a b : Int} (hab : a ≤ b) : sup os a ≤ sup os b := by
  have := qsum_or (os := os) (c := fun o => decide (o.side = 1 ∧ o.price ≤ b)) (a := fun o => decide (o.side = 1 ∧ o.price ≤ a)) (b := fun o => decide (o.side = 1 ∧ a < o.price ∧ o.price ≤ b)) (fun o ho => by
    rw [← Bool.decide_or]
    exact decide_eq_decide.2 ⟨fun h => by by_cases hb : o.price ≤ a <;> omega, fun h => by omega⟩) (fun o ho h3 => by
    have h1 := of_decide_eq_true h3.1
    have h2 := of_decide_eq_true h3.2
    omega)
  have h2 := qsum_nn (os := os.filter fun o => decide (o.side = 1 ∧ a < o.price ∧ o.price ≤ b)) (fun o ho => h o (List.mem_filter.1 ho).1)
  unfold sup
  omega
end Cu
end Go.Proofs.YtacpjpkhmdcagaaGreat
namespace Go.Proofs.YtacpjpkhmdcagaaGreat
set_option linter.unusedVariables false
open Go.RowKit
namespace Cu
set_option maxHeartbeats 8000000
set_option maxRecDepth 10000
open Bk (qsum qsum_app)
open Rk (Rb)
theorem results_rpt {fn : Func} {p : Tmp} (h : fn.results = #[.cell p 72]) (tmps : Array Value) (w : World) (g : Nat) (cs : Array Value) (hp : tmps.getD p undef = .pointer (some ⟨g, 0, none⟩)) (hb : Blk w g 72 cs) (h3 : cs.size = 3) :
    (results fn tmps).run Tryz.prog w = .ok (.agg cs) w :=
  results_cell_row h _ _ _ _ _ _ _ hp hb Tryz.underlying72 rfl (by rw [h3]; kernel_rfl)
theorem pt_one (p : Pt) : p.arr.all (·.oneCell') = true := by simp [Pt.arr, Pt.cells, Value.oneCell']
theorem dem_take {L : List Ord} {k : Nat} (hk : k < L.length) (p : Int) : dem (L.take (k + 1)) p = dem (L.take k) p + if L[k].side = 0 ∧ p ≤ L[k].price then L[k].qty else 0 := by
  unfold dem
  rw [List.take_succ_eq_append_getElem hk, List.filter_append, qsum_app]
  by_cases h : L[k].side = 0 ∧ p ≤ L[k].price
  · rw [if_pos h]; simp [h, qsum]
  · rw [if_neg h]; simp [h, qsum]
theorem sup_take {L : List Ord} {k : Nat} (hk : k < L.length) (p : Int) : sup (L.take (k + 1)) p = sup (L.take k) p + if L[k].side = 1 ∧ L[k].price ≤ p then L[k].qty else 0 := by
  unfold sup
  rw [List.take_succ_eq_append_getElem hk, List.filter_append, qsum_app]
  by_cases h : L[k].side = 1 ∧ L[k].price ≤ p
  · rw [if_pos h]; simp [h, qsum]
  · rw [if_neg h]; simp [h, qsum]
structure Ra (w W : World) (p : Int) (L : List Ord) (k : Nat) : Prop where
  P : Blk W (w.heap.size + 1) 72 (Pt.mk p (dem (L.take k) p) (sup (L.take k) p)).arr
  R : Blk W w.heap.size 72 (Pt.mk 0 0 0).arr
  below : Below w.heap.size w W
theorem rat_any {w : World} {rb N most : Nat} {L : List Ord} {A : Option Addr} {cap : Nat} (q : Rb w rb (N : Int) (most : Int) L A cap) (hok : ∀ o ∈ L, 0 ≤ o.qty ∧ o.qty ≤ 4294967296) (p : Int) :
    Calls Tryz.prog 35 #[.pointer (some ⟨rb, 0, none⟩), .int .i64 p] w fun x w' => x = .returned (.agg (Pt.mk p (dem L p) (sup L p)).arr) ∧ Below w.heap.size w w' := by
  have HQ := Lib.hid q
  have hlen := q.len
  have HOK := Lib.hid hok
  clear q hok
  have hR0 : Blk ((w.alloc (.cells (Pt.mk 0 0 0).arr 72)).alloc (.cells (Pt.mk p 0 0).arr 72)) w.heap.size 72 (Pt.mk 0 0 0).arr := (Blk.new w _ _ _ rfl).alloc _
  have hP0 : Blk ((w.alloc (.cells (Pt.mk 0 0 0).arr 72)).alloc (.cells (Pt.mk p 0 0).arr 72)) (w.heap.size + 1) 72 (Pt.mk p 0 0).arr := Blk.new _ _ _ _ (sz_alloc _ _)
  have hb0 : Below w.heap.size w ((w.alloc (.cells (Pt.mk 0 0 0).arr 72)).alloc (.cells (Pt.mk p 0 0).arr 72)) := by (repeat (first | with_reducible exact Below.refl _ _ | (with_reducible assumption) | (with_reducible refine below_alloc ?_ _) | (with_reducible refine below_ext (w1 := ?_) ?_ ?_; rotate_left 2; (with_reducible assumption)) | (with_reducible refine Below.setCell ?_ ?_ _; rotate_left; ((try simp) <;> omega)) | (with_reducible refine Below.drew ?_) | (with_reducible refine below_drewN ?_ _) | fail))
  have W0 : Hid (Ra w ((w.alloc (.cells (Pt.mk 0 0 0).arr 72)).alloc (.cells (Pt.mk p 0 0).arr 72)) p L 0) := Lib.hid ⟨hP0, hR0, hb0⟩
  clear hR0 hP0 hb0
  go_enter Tryz.func35, Tryz.ntmps35
  go_wp2_with fail
  go_loopw [6] (fun iv wr => ∃ k : Nat, iv = .int .i64 k ∧ k ≤ L.length ∧ Hid (Ra w wr p L k)) (fun iv _ => L.length - (intOf iv).toNat)
  case atStart => exact ⟨0, rfl, Nat.zero_le _, W0⟩
  case round =>
    obtain ⟨k, rfl, hk, HW⟩ := hrel
    clear W0
    have hlw := HQ.out.hd.lt
    have c2 : wr.cell? ⟨rb, 2, none⟩ = some (.slice A L.length cap) := (HW.out.below.cell (p := ⟨rb, 2, none⟩) HQ.out.hd.lt).trans (HQ.out.hd.cell 2)
    by_cases hlt : k < L.length
    · have e1 : (k : Int) < (L.length : Int) := by omega
      have HLT := Lib.hid hlt
      obtain ⟨ab, ao, rfl, hm0⟩ := HQ.out.at HLT.out
      obtain ⟨o, ho⟩ : ∃ o, o = L[k]'HLT.out := ⟨_, rfl⟩
      have hm : wr.rangeAt ab (ao + k * 7) o.cells := fun j v hv => by
        rw [ho] at hv
        exact (HW.out.below.cell (p := ⟨ab, ao + k * 7 + j, none⟩) (cell_lt (hm0 j v hv))).trans (hm0 j v hv)
      have HD : Hid (dem (L.take (k + 1)) p = dem (L.take k) p + if o.side = 0 ∧ p ≤ o.price then o.qty else 0) := Lib.hid (by rw [ho]; exact dem_take HLT.out p)
      have HS : Hid (sup (L.take (k + 1)) p = sup (L.take k) p + if o.side = 1 ∧ o.price ≤ p then o.qty else 0) := Lib.hid (by rw [ho]; exact sup_take HLT.out p)
      have hq := HOK.out o (by rw [ho]; exact List.getElem_mem HLT.out)
      have hkl : (L.take k).length ≤ 1000 := by simp; omega
      have hokk : ∀ x ∈ L.take k, 0 ≤ x.qty ∧ x.qty ≤ 4294967296 := fun x hx => HOK.out x (List.mem_of_mem_take hx)
      have r1 : 0 ≤ dem (L.take k) p ∧ dem (L.take k) p ≤ 4294967296000 := qsum_rng hokk hkl
      have r2 : 0 ≤ sup (L.take k) p ∧ sup (L.take k) p ≤ 4294967296000 := qsum_rng hokk hkl
      have hP := HW.out.P
      have hR := HW.out.R
      obtain ⟨d, hd⟩ : ∃ d, d = dem (L.take k) p := ⟨_, rfl⟩
      obtain ⟨s, hs⟩ : ∃ s, s = sup (L.take k) p := ⟨_, rfl⟩
      rw [← hd] at HD hP r1
      rw [← hs] at HS hP r2
      have w1 : IntKind.i64.wrap (d + o.qty) = d + o.qty := IntWalk.i64_in _ (by omega)
      have w2 : IntKind.i64.wrap (s + o.qty) = s + o.qty := IntWalk.i64_in _ (by omega)
      clear hd hs r1 r2 hq hkl hokk hm0 ho hlt
      go_upto_region 6 with (first | ((with_reducible show wpList _ _ _ (⟨_, .load 52 _, _, _, _, _⟩ :: _) _ _); refine wpList_load_mid (by rfl) _ _ (by rfl) _ _ (by rfl) _ _ hm Tryz.underlying52 rfl (by kernel_rfl) ?_; have hO4 := Blk.new wr 52 Are.ord0.arr _ rfl) | (((with_reducible show wpList _ _ _ (⟨_, .store 52 _ _, _, _, _, _⟩ :: _) _ _); refine wpList_store_blk (by rfl) 52 _ _ (by rfl) _ _ (by rfl) (by rfl) _ _ hO4 (by kernel_rfl) (by rfl) ?_ ?_; (next => first | (simp [Value.oneCell']; done) | (simp [Value.oneCell']; done) | exact Are.ordArr_one _); intro w5 hO5 hU5); have hb5 : Below wr.heap.size wr w5 := below_upd (by (repeat (first | with_reducible exact Below.refl _ _ | (with_reducible assumption) | (with_reducible refine below_alloc ?_ _) | (with_reducible refine below_ext (w1 := ?_) ?_ ?_; rotate_left 2; (with_reducible assumption)) | (with_reducible refine Below.setCell ?_ ?_ _; rotate_left; ((try simp) <;> omega)) | (with_reducible refine Below.drew ?_) | (with_reducible refine below_drewN ?_ _) | fail))) (Nat.le_refl _) hU5; simp only [Act.put]) | fail)
      obtain ⟨ob, hob⟩ : ∃ x, x = wr.heap.size := ⟨_, rfl⟩
      have hP5 := hP.ext hb5
      have hR5 := hR.ext hb5
      have HB5 := Lib.hid (below_ext HW.out.below hb5)
      rw [← hob] at hO5
      rw [← hob]
      have o2 : w5.cell? ⟨ob, 2, none⟩ = some (.int .i64 o.side) := hO5.cell 2
      have o3 : w5.cell? ⟨ob, 3, none⟩ = some (.int .i64 o.price) := hO5.cell 3
      have o4 : w5.cell? ⟨ob, 4, none⟩ = some (.int .i64 o.qty) := hO5.cell 4
      have p1 : w5.cell? ⟨w.heap.size + 1, 1, none⟩ = some (.int .i64 d) := hP5.cell 1
      have p2 : w5.cell? ⟨w.heap.size + 1, 2, none⟩ = some (.int .i64 s) := hP5.cell 2
      have hz : w.heap.size + 1 < ob := by rw [hob]; exact hP.lt
      clear hm hU5 hb5 hO4 hP hR c2 hob
      by_cases h0 : o.side = 0
      · have k0 : (o.side == 0) = true := by simpa using h0
        have k1 : (o.side == 1) = false := by simpa using (by omega : ¬ o.side = 1)
        rw [if_neg (by omega)] at HS
        by_cases h1 : p ≤ o.price
        · rw [if_pos ⟨h0, h1⟩] at HD
          clear h0
          go_wp2_with (first | (((with_reducible show wpList _ _ _ (⟨_, .store _ _ _, _, _, _, _⟩ :: _) _ _); refine wpList_store_fld (by rfl) _ _ _ (by rfl) _ _ (by rfl) _ (by rfl) _ _ hP5 ?_ ?_ (by rfl) (by rfl) ?_; (next => first | omega | ((try simp) <;> omega)); (next => kernel_rfl); intro w6 hP6 hU6); replace hP6 : Blk w6 (w.heap.size + 1) 72 (Pt.mk p (d + o.qty) s).arr := hP6; have o26 : w6.cell? ⟨ob, 2, none⟩ = some (.int .i64 o.side) := (hO5.upd (by omega) hU6).cell 2; have HW6 : Hid (Ra w w6 p L (k + 1)) := Lib.hid ⟨by rw [HD.out, HS.out, Int.add_zero]; exact hP6, hR5.upd (by omega) hU6, below_upd HB5.out (by omega) hU6⟩) | fail)
          go_roundw
          case rel => exact ⟨k + 1, by go_num, HLT.out, HW6⟩
          case measure => (have := HLT.out; simp [intOf]; omega)
        · rw [if_neg (by omega)] at HD
          have HW5 : Hid (Ra w w5 p L (k + 1)) := Lib.hid ⟨by rw [HD.out, HS.out, Int.add_zero, Int.add_zero]; exact hP5, hR5, HB5.out⟩
          clear h0
          go_wp2_with fail
          go_roundw
          case rel => exact ⟨k + 1, by go_num, HLT.out, HW5⟩
          case measure => (have := HLT.out; simp [intOf]; omega)
      · have k0 : (o.side == 0) = false := by simpa using h0
        rw [if_neg (by omega)] at HD
        by_cases h2 : o.side = 1
        · have k1 : (o.side == 1) = true := by simpa using h2
          by_cases h1 : o.price ≤ p
          · rw [if_pos ⟨h2, h1⟩] at HS
            clear h0 h2
            go_wp2_with (first | (((with_reducible show wpList _ _ _ (⟨_, .store _ _ _, _, _, _, _⟩ :: _) _ _); refine wpList_store_fld (by rfl) _ _ _ (by rfl) _ _ (by rfl) _ (by rfl) _ _ hP5 ?_ ?_ (by rfl) (by rfl) ?_; (next => first | omega | ((try simp) <;> omega)); (next => kernel_rfl); intro w6 hP6 hU6); replace hP6 : Blk w6 (w.heap.size + 1) 72 (Pt.mk p d (s + o.qty)).arr := hP6; have HW6 : Hid (Ra w w6 p L (k + 1)) := Lib.hid ⟨by rw [HD.out, HS.out, Int.add_zero]; exact hP6, hR5.upd (by omega) hU6, below_upd HB5.out (by omega) hU6⟩) | fail)
            go_roundw
            case rel => exact ⟨k + 1, by go_num, HLT.out, HW6⟩
            case measure => (have := HLT.out; simp [intOf]; omega)
          · rw [if_neg (by omega)] at HS
            have HW5 : Hid (Ra w w5 p L (k + 1)) := Lib.hid ⟨by rw [HD.out, HS.out, Int.add_zero, Int.add_zero]; exact hP5, hR5, HB5.out⟩
            clear h0 h2
            go_wp2_with fail
            go_roundw
            case rel => exact ⟨k + 1, by go_num, HLT.out, HW5⟩
            case measure => (have := HLT.out; simp [intOf]; omega)
        · have k1 : (o.side == 1) = false := by simpa using h2
          rw [if_neg (by omega)] at HS
          have HW5 : Hid (Ra w w5 p L (k + 1)) := Lib.hid ⟨by rw [HD.out, HS.out, Int.add_zero, Int.add_zero]; exact hP5, hR5, HB5.out⟩
          clear h0 h2
          go_wp2_with fail
          go_roundw
          case rel => exact ⟨k + 1, by go_num, HLT.out, HW5⟩
          case measure => (have := HLT.out; simp [intOf]; omega)
    · obtain rfl : k = L.length := by omega
      have hP := HW.out.P
      have hR := HW.out.R
      rw [List.take_length] at hP
      clear hlt
      go_wp2_with (first | ((with_reducible show wpList _ _ _ (⟨_, .load 72 _, _, _, _, _⟩ :: _) _ _); refine wpList_load_ho 72 _ (by rfl) (by rfl) ?_ (.pointer (some ⟨_, 0, none⟩)) (by rfl) ?_ _ Tryz.underlying72 rfl ?_ ?_; rotate_left; (next => (repeat (first | (with_reducible refine BlkAt.new _ _ _ _ ?_; ((try simp) <;> omega)) | (with_reducible assumption) | (with_reducible refine Blk.at (t := ?_) ?_; rotate_left; with_reducible assumption) | with_reducible refine BlkAt.alloc ?_ _ | with_reducible refine BlkAt.drew ?_ | (with_reducible refine BlkAt.setSame ?_ _ _) | (with_reducible refine BlkAt.setCell ?_ ?_ _; rotate_left; ((try simp) <;> omega)) | (with_reducible refine BlkAt.ext (w := ?_) ?_ ?_; rotate_left 2; (with_reducible assumption)) | fail))); (next => kernel_rfl)) | ((with_reducible show wpList _ _ _ (⟨_, .store 72 _ _, _, _, _, _⟩ :: _) _ _); refine wpList_store_blk (by rfl) 72 _ _ (by rfl) _ _ (by rfl) (by rfl) _ _ hR (by kernel_rfl) (by rfl) ?_ ?_; (next => exact pt_one ..); intro w9 hR9 hU9) | fail)
      exact bodyPost_ret (results_rpt rfl _ _ w.heap.size _ (by rfl) hR9 rfl) rfl ⟨rfl, below_upd HW.out.below (Nat.le_refl _) hU9⟩
end Cu
end Go.Proofs.YtacpjpkhmdcagaaGreat
namespace Go.Proofs.YtacpjpkhmdcagaaGreat
set_option linter.unusedVariables false
open Go.RowKit
namespace Cu
set_option maxHeartbeats 8000000
set_option maxRecDepth 10000
/-- A curve in memory. -/
structure Cv (w : World) (cb : Nat) (ps : List Pt) (A : Option Addr) (cap : Nat) : Prop where
  hd : Blk w cb 118 #[.slice A ps.length cap]
  rd : Rd w 3 A (ps.map Pt.cells)
  len : ps.length ≤ 1000
theorem Cv.ext {w w' : World} {cb : Nat} {ps : List Pt} {A : Option Addr} {cap : Nat} (h : Cv w cb ps A cap) (hb : Below w.heap.size w w') : Cv w' cb ps A cap := ⟨h.hd.ext hb, h.rd.below hb, h.len⟩
/-- sort.Search, over what is false first, and true then. -/
theorem search_any {w : World} (n : Nat) (F : Nat) (caps : Array Value) (q : Nat → Bool) (hn : n ≤ 1000) (hup : ∀ i j, i ≤ j → j < n → q i = true → q j = true) (hF : ∀ args W, (callFunc F args).run Tryz.prog W = .ok (.enter F args) W)
    (hA : ∀ j, j < n → ∀ W, Below w.heap.size w W → Calls Tryz.prog F (#[.int .i64 (j : Int)] ++ caps) W fun x w' => x = .returned (.bool (q j)) ∧ Below W.heap.size W w') :
    Calls Tryz.prog 59 #[.int .i64 (n : Int), .func (.func F) #[] caps] w fun x w' => (∃ i : Nat, x = .returned (.int .i64 (i : Int)) ∧ i ≤ n ∧ (∀ j, j < i → q j = false) ∧ (∀ j, i ≤ j → j < n → q j = true)) ∧ Below w.heap.size w w' := by
  have HU := Lib.hid hup
  have HC := Lib.hid hA
  have HF := hF
  clear hup hA hF
  go_enter Tryz.func59, Tryz.ntmps59
  go_wp2_with fail
  go_loopw [5, 6] (fun i j wr => ∃ a b : Nat, i = .int .i64 a ∧ j = .int .i64 b ∧ a ≤ b ∧ b ≤ n ∧ Hid (∀ t, t < a → q t = false) ∧ Hid (∀ t, b ≤ t → t < n → q t = true) ∧ Below w.heap.size w wr) (fun i j _ => (intOf j).toNat - (intOf i).toNat)
  case atStart => exact ⟨0, n, rfl, rfl, Nat.zero_le _, Nat.le_refl _, Lib.hid (fun t h => absurd h (Nat.not_lt_zero t)), Lib.hid (fun t h1 h2 => absurd h2 (by omega)), Below.refl _ _⟩
  case round =>
    obtain ⟨a, b, rfl, rfl, hab, hbn, hlo, hhi, hb⟩ := hrel
    by_cases hlt : a < b
    · have e1 : (a : Int) < (b : Int) := by omega
      obtain ⟨m, hm⟩ : ∃ m : Nat, ((a : Int) + (b : Int)) / 2 = (m : Int) := ⟨(a + b) / 2, by omega⟩
      have hm1 : a ≤ m ∧ m < b := by omega
      have hcc := HC.out m (by omega) wr hb
      cases hq : q m with
      | false =>
        have hlo2 : Hid (∀ t, t < m + 1 → q t = false) := Lib.hid (fun t ht => by
          cases h : q t with
          | false => rfl
          | true =>
            have := HU.out t m (by omega) (by omega) h
            rw [hq] at this
            cases this)
        rw [hq] at hcc
        have HCC := Lib.hid hcc
        clear hcc hlo hq
        go_wp2_with (first | ((with_reducible refine HCC.out.mono ?_); rintro e w2 ⟨rfl, hb2⟩) | fail)
        go_roundw
        case rel => exact ⟨m + 1, b, by go_num, rfl, by omega, hbn, hlo2, hhi, below_ext hb hb2⟩
        case measure => (simp [intOf]; omega)
      | true =>
        have hhi2 : Hid (∀ t, m ≤ t → t < n → q t = true) := Lib.hid (fun t h1 h2 => HU.out m t h1 h2 hq)
        rw [hq] at hcc
        have HCC := Lib.hid hcc
        clear hcc hhi hq
        go_wp2_with (first | ((with_reducible refine HCC.out.mono ?_); rintro e w2 ⟨rfl, hb2⟩) | fail)
        go_roundw
        case rel => exact ⟨a, m, rfl, rfl, by omega, by omega, hlo, hhi2, below_ext hb hb2⟩
        case measure => (simp [intOf]; omega)
    · have hae : b = a := by omega
      subst hae
      go_wp2_with fail
      go_ret
      exact ⟨⟨b, rfl, hbn, hlo.out, hhi.out⟩, hb⟩
theorem callFunc_in2 {P : Program} {f : FuncId} {fn : Func} {c : Code} (hf : P.funcs[f]? = some fn) (hname : (fn.name == "runtime.NumGoroutine") = false) (hb : fn.body = some c) (args : Array Value) (w : World) : (callFunc f args).run P w = .ok (.enter f args) w := by
  have h1 : fn.name ≠ "runtime.NumGoroutine" := by simpa using hname
  simp [callFunc, hf, h1, hb]
theorem catf_any {w : World} {bc bp cb : Nat} {ps : List Pt} {A : Option Addr} {cap : Nat} {p : Int} (hC : Blk w bc 61 #[.pointer (some ⟨cb, 0, none⟩)]) (hP : Blk w bp 2 #[.int .i64 p]) (C : Cv w cb ps A cap) {i : Nat} (hi : i < ps.length) :
    Calls Tryz.prog 60 #[.int .i64 (i : Int), .pointer (some ⟨bc, 0, none⟩), .pointer (some ⟨bp, 0, none⟩)] w fun x w' => x = .returned (.bool (decide (p ≤ ps[i].price))) ∧ Below w.heap.size w w' := by
  obtain ⟨ab, ao, rfl, hm⟩ := Bk.rd_rngB C.rd hi
  have c0 : w.cell? ⟨bc, 0, none⟩ = some (.pointer (some ⟨cb, 0, none⟩)) := hC.cell 0
  have c1 : w.cell? ⟨bp, 0, none⟩ = some (.int .i64 p) := hP.cell 0
  have c2 : w.cell? ⟨cb, 0, none⟩ = some (.slice (some ⟨ab, ao, none⟩) ps.length cap) := C.hd.cell 0
  have c3 : w.cell? ⟨ab, ao + i * 3, none⟩ = some (.int .i64 ps[i].price) := hm 0 _ rfl
  have e1 : (i : Int) < (ps.length : Int) := by omega
  have hl := C.len
  have l0 := hC.lt
  have l1 := hP.lt
  have l2 := C.hd.lt
  have l3 := cell_lt c3
  obtain ⟨z, hz⟩ : ∃ z, z = ps[i].price := ⟨_, rfl⟩
  rw [← hz] at c3 ⊢
  obtain ⟨b, hb⟩ : ∃ b, b = decide (p ≤ z) := ⟨_, rfl⟩
  rw [← hb]
  have hpb := hb.symm
  clear hC hP C hm hi hz hb
  go_enter Tryz.func60, Tryz.ntmps60
  go_wp2_with fail
  refine wp_region_below_lit (by kernel_rfl) (by kernel_rfl) ?_
  repeat (first | go_big_quiet_skip | (go_big_quiet_want; go_big_quiet_op; go_big_quiet_on) | (refine q_load_fld (by rfl) _ _ (by rfl) (fun _ h => h) _ _ (by rfl) ?_ ?_ ?_ ?_ ?_ ?_; rotate_left; (next => (repeat (first | (with_reducible refine BlkAt.new _ _ _ _ ?_; ((try simp) <;> omega)) | (with_reducible assumption) | (with_reducible refine Blk.at (t := ?_) ?_; rotate_left; with_reducible assumption) | with_reducible refine BlkAt.alloc ?_ _ | with_reducible refine BlkAt.drew ?_ | (with_reducible refine BlkAt.setSame ?_ _ _) | (with_reducible refine BlkAt.setCell ?_ ?_ _; rotate_left; ((try simp) <;> omega)) | (with_reducible refine BlkAt.ext (w := ?_) ?_ ?_; rotate_left 2; (with_reducible assumption)) | fail))); rotate_left; (next => first | (simp only [go_sem]; rfl) | rfl); (next => kernel_rfl); (try simp only [Act.put, List.setIfInBounds_toArray, List.set_cons_zero, List.set_cons_succ])) | (refine q_rem (by rfl) _ _ _ _ (by rfl) _ _ (by rfl) (by rfl) (by kernel_rfl) (by kernel_rfl) ?_ ?_; (next => omega); (try simp only [Act.put, List.setIfInBounds_toArray, List.set_cons_zero, List.set_cons_succ])) | (refine q_step_ex (by rfl) ?_; apply Exists.intro; refine ⟨fun W hW => ?_, ?_⟩; (next => (have hWc := fun (b o : Nat) (h : b < _) => (Ext.out hW).cell (p := ⟨b, o, none⟩) h); (try have hLK := HLK.out W (Ext.out hW)); go_simp; first | rfl | fail); (try simp only [Act.put, List.setIfInBounds_toArray, List.set_cons_zero, List.set_cons_succ])) | fail)
  refine wpQuiet_nil ?_
  intro w1 hb1
  go_wp2_with fail
  go_ret
  exact ⟨by first | rfl | (rw [← hpb]), hb1⟩
theorem results_pt {fn : Func} {p : Tmp} (h : fn.results = #[.cell p 67]) (tmps : Array Value) (w : World) (g : Nat) (cs : Array Value) (hp : tmps.getD p undef = .pointer (some ⟨g, 0, none⟩)) (hb : Blk w g 67 cs) (h3 : cs.size = 3) :
    (results fn tmps).run Tryz.prog w = .ok (.agg cs) w :=
  results_cell_row h _ _ _ _ _ _ _ hp hb Tryz.underlying67 rfl (by rw [h3]; kernel_rfl)
theorem at_nil (p : Int) (w : World) : Calls Tryz.prog 28 #[.pointer none, .int .i64 p] w fun x w' => x = .returned (.agg (Pt.mk p 0 0).arr) ∧ Below w.heap.size w w' := by
  go_enter Tryz.func28, Tryz.ntmps28
  go_wp2_with fail
  refine bodyPost_ret (results_pt rfl _ _ (w.heap.size + 1 + 1) (Pt.mk p 0 0).arr (by rfl) ?_ rfl) rfl ⟨rfl, by (repeat (first | with_reducible exact Below.refl _ _ | (with_reducible assumption) | (with_reducible refine below_alloc ?_ _) | (with_reducible refine below_ext (w1 := ?_) ?_ ?_; rotate_left 2; (with_reducible assumption)) | (with_reducible refine Below.setCell ?_ ?_ _; rotate_left; ((try simp) <;> omega)) | (with_reducible refine Below.drew ?_) | (with_reducible refine below_drewN ?_ _) | fail))⟩
  exact (Blk.new _ _ _ _ (by simp only [sz_alloc])).alloc _
theorem pts_at {os : List Ord} {l : List Int} {i : Nat} (h : i < (pts os l).length) (h2 : i < l.length) : (pts os l)[i] = ⟨l[i], dem os l[i], sup os l[i]⟩ := by simp [pts]
theorem rng_below {w w' : World} {b o : Nat} {l : List Value} (h : w.rangeAt b o l) (hb : Below w.heap.size w w') : w'.rangeAt b o l := fun j v hv => (hb.cell (cell_lt (h j v hv))).trans (h j v hv)
theorem at_any {w : World} {cb : Nat} {os : List Ord} {l : List Int} {A : Option Addr} {cap : Nat} (C : Cv w cb (pts os l) A cap) (AL : All os l) (p : Int) :
    Calls Tryz.prog 28 #[.pointer (some ⟨cb, 0, none⟩), .int .i64 p] w fun x w' => x = .returned (.agg (Pt.mk p (dem os p) (sup os p)).arr) ∧ Below w.heap.size w w' := by
  have hpl : (pts os l).length = l.length := List.length_map _
  obtain ⟨dv, hdv⟩ : ∃ x, x = dem os p := ⟨_, rfl⟩
  obtain ⟨sv, hsv⟩ : ∃ x, x = sup os p := ⟨_, rfl⟩
  rw [← hdv, ← hsv]
  have HDV := Lib.hid hdv
  have HSV := Lib.hid hsv
  clear hdv hsv
  obtain ⟨w0, hw0⟩ : ∃ w0, w0 = ((((w.alloc (.cells #[.pointer (some ⟨cb, 0, none⟩)] 61)).alloc (.cells #[.int .i64 p] 2)).alloc (.cells #[.int .i64 0, .int .i64 0, .int .i64 0] 67)).alloc (.cells #[.int .i64 p, .int .i64 0, .int .i64 0] 67)) := ⟨_, rfl⟩
  have hB0 : Blk w0 w.heap.size 61 #[.pointer (some ⟨cb, 0, none⟩)] := by rw [hw0]; exact (((Blk.new w _ _ _ rfl).alloc _).alloc _).alloc _
  have hP0 : Blk w0 (w.heap.size + 1) 2 #[.int .i64 p] := by rw [hw0]; exact ((Blk.new _ _ _ _ (sz_alloc _ _)).alloc _).alloc _
  have hR0 : Blk w0 (w.heap.size + 1 + 1) 67 (Pt.mk 0 0 0).arr := by rw [hw0]; exact (Blk.new _ _ _ _ (by simp only [sz_alloc])).alloc _
  have hO0 : Blk w0 (w.heap.size + 1 + 1 + 1) 67 (Pt.mk p 0 0).arr := by rw [hw0]; exact Blk.new _ _ _ _ (by simp only [sz_alloc])
  have hb0 : Below w.heap.size w w0 := by rw [hw0]; (repeat (first | with_reducible exact Below.refl _ _ | (with_reducible assumption) | (with_reducible refine below_alloc ?_ _) | (with_reducible refine below_ext (w1 := ?_) ?_ ?_; rotate_left 2; (with_reducible assumption)) | (with_reducible refine Below.setCell ?_ ?_ _; rotate_left; ((try simp) <;> omega)) | (with_reducible refine Below.drew ?_) | (with_reducible refine below_drewN ?_ _) | fail))
  have C0 := C.ext hb0
  have HS := Lib.hid (search_any (w := w0) l.length 60 #[.pointer (some ⟨w.heap.size, 0, none⟩), .pointer (some ⟨w.heap.size + 1, 0, none⟩)] (fun j => decide (∃ h : j < l.length, p ≤ l[j])) (by have := C.len; omega)
    (fun i j hij hj h => by
      obtain ⟨h1, h2⟩ := of_decide_eq_true h
      have := (AL.le_iff h1 hj).2 hij
      exact decide_eq_true ⟨hj, by omega⟩)
    (fun args W => callFunc_in2 (fn := Tryz.f60) (by kernel_rfl) (by kernel_rfl) rfl args W)
    (fun j hj W hW => by
      have h := catf_any (hB0.ext hW) (hP0.ext hW) (C0.ext hW) (i := j) (by omega)
      have e : decide (p ≤ (pts os l)[j].price) = decide (∃ h : j < l.length, p ≤ l[j]) := by
        refine decide_eq_decide.2 ?_
        have e2 : (pts os l)[j].price = l[j] := by simp [pts]
        rw [e2]
        exact ⟨fun h => ⟨hj, h⟩, fun ⟨_, h⟩ => h⟩
      rw [e] at h
      exact h))
  have HW0 := Lib.hid hw0
  have HAL := Lib.hid AL
  have hcw := C.hd.lt
  have HCW := Lib.hid C
  clear C AL hw0
  go_enter Tryz.func28, Tryz.ntmps28
  go_upto_region 2 with fail
  rw [← HW0.out]
  have b0 : w0.cell? ⟨w.heap.size, 0, none⟩ = some (.pointer (some ⟨cb, 0, none⟩)) := hB0.cell 0
  have c0 : w0.cell? ⟨cb, 0, none⟩ = some (.slice A (pts os l).length cap) := C0.hd.cell 0
  have hmf : ∀ (fn : Fn) (first cap : Array Value) (W : World), (Instr.makeFunc fn first cap).run Tryz.prog W = .ok (.func fn first cap) W := fun _ _ _ _ => rfl
  rw [hpl] at c0
  have HH0 := Lib.hid (And.intro hB0 (And.intro hP0 (And.intro hR0 (And.intro hO0 (And.intro hb0 C0)))))
  clear hB0 hP0 hR0 hO0 hb0 C0 HW0
  go_upto_region 5 with (first | (go_at_call 59; refine HS.out.mono ?_; rintro x w1 ⟨⟨i, rfl, hi, hlo, hhi⟩, hb1⟩) | fail)
  obtain ⟨hB0, hP0, hR0, hO0, hb0, C0⟩ := HH0.out
  have SI : Hid (Stn l p i) := Lib.hid ⟨hi, fun j hj hji => by
    have h := of_decide_eq_false (hlo j hji)
    have h2 : ¬ p ≤ l[j] := fun h2 => h ⟨hj, h2⟩
    omega, fun h => (of_decide_eq_true (hhi i (Nat.le_refl _) h)).2⟩
  have hl := C0.len
  rw [hpl] at hl
  have C1 := C0.ext hb1
  have hR1 := hR0.ext hb1
  have hO1 := hO0.ext hb1
  have q0 : w1.cell? ⟨w.heap.size, 0, none⟩ = some (.pointer (some ⟨cb, 0, none⟩)) := (hB0.ext hb1).cell 0
  have q1 : w1.cell? ⟨w.heap.size + 1, 0, none⟩ = some (.int .i64 p) := (hP0.ext hb1).cell 0
  have q2 : w1.cell? ⟨cb, 0, none⟩ = some (.slice A l.length cap) := by rw [← hpl]; exact C1.hd.cell 0
  have HB1 := Lib.hid (below_ext hb0 hb1)
  have HC1 := Lib.hid C1
  have HH1 := Lib.hid (And.intro (hB0.ext hb1) (hP0.ext hb1))
  have lO := hO1.lt
  have lC := C1.hd.lt
  clear hB0 hP0 hR0 hO0 hb0 C0 HH0 C1 hlo hhi b0 c0 hb1 HS
  by_cases hin : i < l.length
  · have e1 : (i : Int) < (l.length : Int) := by omega
    obtain ⟨ab, ao, rfl, hm⟩ := Bk.rd_rngB HCW.out.rd (i := i) (by omega)
    rw [pts_at (by omega) hin] at hm
    have hm1 := rng_below hm HB1.out
    have m1 : w1.cell? ⟨ab, ao + i * 3 + 1, none⟩ = some (.int .i64 dv) := by rw [HDV.out, SI.out.dem_in HAL.out hin]; exact hm1 1 _ rfl
    have lab := cell_lt m1
    obtain ⟨y, hy⟩ : ∃ y, y = l[i] := ⟨_, rfl⟩
    rw [← hy] at hm
    have HY := Lib.hid hy
    have HM := Lib.hid hm
    clear hm hm1 hy
    go_upto_region 7 with (first | (((with_reducible show wpList _ _ _ (⟨_, .store _ _ _, _, _, _, _⟩ :: _) _ _); refine wpList_store_fld (by rfl) _ _ _ (by rfl) _ _ (by rfl) _ (by rfl) _ _ hO1 ?_ ?_ (by rfl) (by rfl) ?_; (next => first | omega | ((try simp) <;> omega)); (next => kernel_rfl); intro w2 hO2 hU2); replace hO2 : Blk w2 (w.heap.size + 1 + 1 + 1) 67 (Pt.mk p dv 0).arr := hO2; simp only [Act.put]) | fail)
    have HB2 := Lib.hid (below_upd HB1.out (show w.heap.size ≤ w.heap.size + 1 + 1 + 1 by omega) hU2)
    have hR2 := hR1.upd (by omega) hU2
    have hm2 := rng_below HM.out HB2.out
    have r0 : w2.cell? ⟨w.heap.size, 0, none⟩ = some (.pointer (some ⟨cb, 0, none⟩)) := (HH1.out.1.upd (by omega) hU2).cell 0
    have r1 : w2.cell? ⟨w.heap.size + 1, 0, none⟩ = some (.int .i64 p) := (HH1.out.2.upd (by omega) hU2).cell 0
    have r2 : w2.cell? ⟨cb, 0, none⟩ = some (.slice (some ⟨ab, ao, none⟩) l.length cap) := by rw [← hpl]; exact (HC1.out.hd.upd (by omega) hU2).cell 0
    have m0 : w2.cell? ⟨ab, ao + i * 3, none⟩ = some (.int .i64 y) := hm2 0 _ rfl
    have m2' : w2.cell? ⟨ab, ao + i * 3 + 2, none⟩ = some (.int .i64 (sup os y)) := hm2 2 _ rfl
    have lO2 := hO2.lt
    have lC2 : cb < w2.heap.size := by have := hO2.lt; omega
    have lab2 := cell_lt m0
    have lq0 : w.heap.size < w2.heap.size := by omega
    have lq1 : w.heap.size + 1 < w2.heap.size := by omega
    clear q0 q1 q2 m1 hO1 hR1 hU2 lO lC lab hm2
    by_cases hyp : y = p
    · have k0 : (y == p) = true := by simpa using hyp
      rw [hyp, ← HSV.out] at m2'
      clear hyp
      refine wp_region_below_lit (by kernel_rfl) (by kernel_rfl) ?_
      repeat (first | go_big_quiet_skip | (go_big_quiet_want; go_big_quiet_op; go_big_quiet_on) | (refine q_load_fld (by rfl) _ _ (by rfl) (fun _ h => h) _ _ (by rfl) ?_ ?_ ?_ ?_ ?_ ?_; rotate_left; (next => (repeat (first | (with_reducible refine BlkAt.new _ _ _ _ ?_; ((try simp) <;> omega)) | (with_reducible assumption) | (with_reducible refine Blk.at (t := ?_) ?_; rotate_left; with_reducible assumption) | with_reducible refine BlkAt.alloc ?_ _ | with_reducible refine BlkAt.drew ?_ | (with_reducible refine BlkAt.setSame ?_ _ _) | (with_reducible refine BlkAt.setCell ?_ ?_ _; rotate_left; ((try simp) <;> omega)) | (with_reducible refine BlkAt.ext (w := ?_) ?_ ?_; rotate_left 2; (with_reducible assumption)) | fail))); rotate_left; (next => first | (simp only [go_sem]; rfl) | rfl); (next => kernel_rfl); (try simp only [Act.put, List.setIfInBounds_toArray, List.set_cons_zero, List.set_cons_succ])) | (refine q_rem (by rfl) _ _ _ _ (by rfl) _ _ (by rfl) (by rfl) (by kernel_rfl) (by kernel_rfl) ?_ ?_; (next => omega); (try simp only [Act.put, List.setIfInBounds_toArray, List.set_cons_zero, List.set_cons_succ])) | (refine q_step_ex (by rfl) ?_; apply Exists.intro; refine ⟨fun W hW => ?_, ?_⟩; (next => (have hWc := fun (b o : Nat) (h : b < _) => (Ext.out hW).cell (p := ⟨b, o, none⟩) h); (try have hLK := HLK.out W (Ext.out hW)); go_simp; first | rfl | fail); (try simp only [Act.put, List.setIfInBounds_toArray, List.set_cons_zero, List.set_cons_succ])) | fail)
      refine wpQuiet_nil ?_
      intro w3 hb3
      have HB3 := Lib.hid (below_ext HB2.out hb3)
      have hO3 := hO2.ext hb3
      have hR3 := hR2.ext hb3
      have m23 : w3.cell? ⟨ab, ao + i * 3 + 2, none⟩ = some (.int .i64 sv) := (hb3.cell (p := ⟨ab, ao + i * 3 + 2, none⟩) lab2).trans m2'
      have r03 := (hb3.cell (p := ⟨w.heap.size, 0, none⟩) (by show w.heap.size < _; omega)).trans r0
      have r23 := (hb3.cell (p := ⟨cb, 0, none⟩) lC2).trans r2
      have lO3 := hO3.lt
      clear r0 r1 r2 m0 m2' hO2 hR2 hb3 lO2
      go_wp2_with (first | (((with_reducible show wpList _ _ _ (⟨_, .store _ _ _, _, _, _, _⟩ :: _) _ _); refine wpList_store_fld (by rfl) _ _ _ (by rfl) _ _ (by rfl) _ (by rfl) _ _ hO3 ?_ ?_ (by rfl) (by rfl) ?_; (next => first | omega | ((try simp) <;> omega)); (next => kernel_rfl); intro w9 hO9 hU9); replace hO9 : Blk w9 (w.heap.size + 1 + 1 + 1) 67 (Pt.mk p dv sv).arr := hO9; have hR9 := hR3.upd (by omega) hU9; have HB9 := Lib.hid (below_upd HB3.out (show w.heap.size ≤ w.heap.size + 1 + 1 + 1 by omega) hU9)) | ((with_reducible show wpList _ _ _ (⟨_, .load 67 _, _, _, _, _⟩ :: _) _ _); refine wpList_load_ho 67 _ (by rfl) (by rfl) ?_ (.pointer (some ⟨_, 0, none⟩)) (by rfl) ?_ _ Tryz.underlying67 rfl ?_ ?_; rotate_left; (next => (repeat (first | (with_reducible refine BlkAt.new _ _ _ _ ?_; ((try simp) <;> omega)) | (with_reducible assumption) | (with_reducible refine Blk.at (t := ?_) ?_; rotate_left; with_reducible assumption) | with_reducible refine BlkAt.alloc ?_ _ | with_reducible refine BlkAt.drew ?_ | (with_reducible refine BlkAt.setSame ?_ _ _) | (with_reducible refine BlkAt.setCell ?_ ?_ _; rotate_left; ((try simp) <;> omega)) | (with_reducible refine BlkAt.ext (w := ?_) ?_ ?_; rotate_left 2; (with_reducible assumption)) | fail))); (next => kernel_rfl)) | ((with_reducible show wpList _ _ _ (⟨_, .store 67 _ _, _, _, _, _⟩ :: _) _ _); refine wpList_store_blk (by rfl) 67 _ _ (by rfl) _ _ (by rfl) (by rfl) _ _ hR9 (by kernel_rfl) (by rfl) ?_ ?_; (next => exact pt_one ..); intro wE hRE hUE) | fail)
      exact bodyPost_ret (results_pt rfl _ _ (w.heap.size + 1 + 1) _ (by rfl) hRE rfl) rfl ⟨rfl, below_upd HB9.out (by omega) hUE⟩
    · have k0 : (y == p) = false := by simpa using hyp
      have HNE : Hid (∀ h : i < l.length, l[i] ≠ p) := Lib.hid (fun h e => hyp (HY.out.trans e))
      clear hyp m2'
      refine wp_region_below_lit (by kernel_rfl) (by kernel_rfl) ?_
      repeat (first | go_big_quiet_skip | (go_big_quiet_want; go_big_quiet_op; go_big_quiet_on) | (refine q_load_fld (by rfl) _ _ (by rfl) (fun _ h => h) _ _ (by rfl) ?_ ?_ ?_ ?_ ?_ ?_; rotate_left; (next => (repeat (first | (with_reducible refine BlkAt.new _ _ _ _ ?_; ((try simp) <;> omega)) | (with_reducible assumption) | (with_reducible refine Blk.at (t := ?_) ?_; rotate_left; with_reducible assumption) | with_reducible refine BlkAt.alloc ?_ _ | with_reducible refine BlkAt.drew ?_ | (with_reducible refine BlkAt.setSame ?_ _ _) | (with_reducible refine BlkAt.setCell ?_ ?_ _; rotate_left; ((try simp) <;> omega)) | (with_reducible refine BlkAt.ext (w := ?_) ?_ ?_; rotate_left 2; (with_reducible assumption)) | fail))); rotate_left; (next => first | (simp only [go_sem]; rfl) | rfl); (next => kernel_rfl); (try simp only [Act.put, List.setIfInBounds_toArray, List.set_cons_zero, List.set_cons_succ])) | (refine q_rem (by rfl) _ _ _ _ (by rfl) _ _ (by rfl) (by rfl) (by kernel_rfl) (by kernel_rfl) ?_ ?_; (next => omega); (try simp only [Act.put, List.setIfInBounds_toArray, List.set_cons_zero, List.set_cons_succ])) | (refine q_step_ex (by rfl) ?_; apply Exists.intro; refine ⟨fun W hW => ?_, ?_⟩; (next => (have hWc := fun (b o : Nat) (h : b < _) => (Ext.out hW).cell (p := ⟨b, o, none⟩) h); (try have hLK := HLK.out W (Ext.out hW)); go_simp; first | rfl | fail); (try simp only [Act.put, List.setIfInBounds_toArray, List.set_cons_zero, List.set_cons_succ])) | fail)
      refine wpQuiet_nil ?_
      intro w3 hb3
      have HB3 := Lib.hid (below_ext HB2.out hb3)
      have hO3 := hO2.ext hb3
      have hR3 := hR2.ext hb3
      have r03 := (hb3.cell (p := ⟨w.heap.size, 0, none⟩) (by show w.heap.size < _; omega)).trans r0
      have r23 := (hb3.cell (p := ⟨cb, 0, none⟩) lC2).trans r2
      have lO3 := hO3.lt
      clear r0 r1 r2 m0 hO2 hR2 hb3 lO2 k0
      by_cases h0 : 0 < i
      · have hs := SI.out.sup_low HAL.out HNE.out h0
        obtain ⟨k, rfl⟩ : ∃ k, i = k + 1 := ⟨i - 1, by omega⟩
        obtain ⟨ab2, ao2, e2, hm2⟩ := Bk.rd_rngB HCW.out.rd (i := k) (by omega)
        rw [pts_at (by omega) (show k < l.length by omega)] at hm2
        have m2 : w3.cell? ⟨ab2, ao2 + k * 3 + 2, none⟩ = some (.int .i64 sv) := by rw [HSV.out, hs]; exact rng_below hm2 HB3.out 2 _ rfl
        have e3 : (k : Int) < (l.length : Int) := by omega
        have e4 : IntKind.i64.wrap ((k : Int) + 1 - 1) = (k : Int) := by rw [Int.add_sub_cancel]; exact IntWalk.i64_in _ (by omega)
        have lm2 := cell_lt m2
        clear hs hm2 h0
        cases e2
        go_wp2_with (first | (((with_reducible show wpList _ _ _ (⟨_, .store _ _ _, _, _, _, _⟩ :: _) _ _); refine wpList_store_fld (by rfl) _ _ _ (by rfl) _ _ (by rfl) _ (by rfl) _ _ hO3 ?_ ?_ (by rfl) (by rfl) ?_; (next => first | omega | ((try simp) <;> omega)); (next => kernel_rfl); intro w9 hO9 hU9); replace hO9 : Blk w9 (w.heap.size + 1 + 1 + 1) 67 (Pt.mk p dv sv).arr := hO9; have hR9 := hR3.upd (by omega) hU9; have HB9 := Lib.hid (below_upd HB3.out (show w.heap.size ≤ w.heap.size + 1 + 1 + 1 by omega) hU9)) | ((with_reducible show wpList _ _ _ (⟨_, .load 67 _, _, _, _, _⟩ :: _) _ _); refine wpList_load_ho 67 _ (by rfl) (by rfl) ?_ (.pointer (some ⟨_, 0, none⟩)) (by rfl) ?_ _ Tryz.underlying67 rfl ?_ ?_; rotate_left; (next => (repeat (first | (with_reducible refine BlkAt.new _ _ _ _ ?_; ((try simp) <;> omega)) | (with_reducible assumption) | (with_reducible refine Blk.at (t := ?_) ?_; rotate_left; with_reducible assumption) | with_reducible refine BlkAt.alloc ?_ _ | with_reducible refine BlkAt.drew ?_ | (with_reducible refine BlkAt.setSame ?_ _ _) | (with_reducible refine BlkAt.setCell ?_ ?_ _; rotate_left; ((try simp) <;> omega)) | (with_reducible refine BlkAt.ext (w := ?_) ?_ ?_; rotate_left 2; (with_reducible assumption)) | fail))); (next => kernel_rfl)) | ((with_reducible show wpList _ _ _ (⟨_, .store 67 _ _, _, _, _, _⟩ :: _) _ _); refine wpList_store_blk (by rfl) 67 _ _ (by rfl) _ _ (by rfl) (by rfl) _ _ hR9 (by kernel_rfl) (by rfl) ?_ ?_; (next => exact pt_one ..); intro wE hRE hUE) | fail)
        exact bodyPost_ret (results_pt rfl _ _ (w.heap.size + 1 + 1) _ (by rfl) hRE rfl) rfl ⟨rfl, below_upd HB9.out (by omega) hUE⟩
      · obtain rfl : i = 0 := by omega
        obtain rfl : sv = 0 := HSV.out.trans (SI.out.sup_none HAL.out HNE.out)
        clear h0
        go_wp2_with (first | ((with_reducible show wpList _ _ _ (⟨_, .load 67 _, _, _, _, _⟩ :: _) _ _); refine wpList_load_ho 67 _ (by rfl) (by rfl) ?_ (.pointer (some ⟨_, 0, none⟩)) (by rfl) ?_ _ Tryz.underlying67 rfl ?_ ?_; rotate_left; (next => (repeat (first | (with_reducible refine BlkAt.new _ _ _ _ ?_; ((try simp) <;> omega)) | (with_reducible assumption) | (with_reducible refine Blk.at (t := ?_) ?_; rotate_left; with_reducible assumption) | with_reducible refine BlkAt.alloc ?_ _ | with_reducible refine BlkAt.drew ?_ | (with_reducible refine BlkAt.setSame ?_ _ _) | (with_reducible refine BlkAt.setCell ?_ ?_ _; rotate_left; ((try simp) <;> omega)) | (with_reducible refine BlkAt.ext (w := ?_) ?_ ?_; rotate_left 2; (with_reducible assumption)) | fail))); (next => kernel_rfl)) | ((with_reducible show wpList _ _ _ (⟨_, .store 67 _ _, _, _, _, _⟩ :: _) _ _); refine wpList_store_blk (by rfl) 67 _ _ (by rfl) _ _ (by rfl) (by rfl) _ _ hR3 (by kernel_rfl) (by rfl) ?_ ?_; (next => exact pt_one ..); intro wE hRE hUE) | fail)
        exact bodyPost_ret (results_pt rfl _ _ (w.heap.size + 1 + 1) _ (by rfl) hRE rfl) rfl ⟨rfl, below_upd HB3.out (by omega) hUE⟩
  · have e1 : ¬ (i : Int) < (l.length : Int) := by omega
    obtain rfl : dv = 0 := HDV.out.trans (Stn.dem_out HAL.out (by have h := SI.out; rwa [show i = l.length by omega] at h))
    have HNE : Hid (∀ h : i < l.length, l[i] ≠ p) := Lib.hid (fun h => absurd h hin)
    by_cases h0 : 0 < i
    · have hs := SI.out.sup_low HAL.out HNE.out h0
      obtain ⟨k, rfl⟩ : ∃ k, i = k + 1 := ⟨i - 1, by omega⟩
      obtain ⟨ab2, ao2, e2, hm2⟩ := Bk.rd_rngB HCW.out.rd (i := k) (by omega)
      rw [pts_at (by omega) (show k < l.length by omega)] at hm2
      have m2 : w1.cell? ⟨ab2, ao2 + k * 3 + 2, none⟩ = some (.int .i64 sv) := by rw [HSV.out, hs]; exact rng_below hm2 HB1.out 2 _ rfl
      have e3 : (k : Int) < (l.length : Int) := by omega
      have e4 : IntKind.i64.wrap ((k : Int) + 1 - 1) = (k : Int) := by rw [Int.add_sub_cancel]; exact IntWalk.i64_in _ (by omega)
      have lm2 := cell_lt m2
      clear hs hm2 h0
      subst e2
      go_wp2_with (first | (((with_reducible show wpList _ _ _ (⟨_, .store _ _ _, _, _, _, _⟩ :: _) _ _); refine wpList_store_fld (by rfl) _ _ _ (by rfl) _ _ (by rfl) _ (by rfl) _ _ hO1 ?_ ?_ (by rfl) (by rfl) ?_; (next => first | omega | ((try simp) <;> omega)); (next => kernel_rfl); intro w9 hO9 hU9); replace hO9 : Blk w9 (w.heap.size + 1 + 1 + 1) 67 (Pt.mk p 0 sv).arr := hO9; have hR9 := hR1.upd (by omega) hU9; have HB9 := Lib.hid (below_upd HB1.out (show w.heap.size ≤ w.heap.size + 1 + 1 + 1 by omega) hU9)) | ((with_reducible show wpList _ _ _ (⟨_, .load 67 _, _, _, _, _⟩ :: _) _ _); refine wpList_load_ho 67 _ (by rfl) (by rfl) ?_ (.pointer (some ⟨_, 0, none⟩)) (by rfl) ?_ _ Tryz.underlying67 rfl ?_ ?_; rotate_left; (next => (repeat (first | (with_reducible refine BlkAt.new _ _ _ _ ?_; ((try simp) <;> omega)) | (with_reducible assumption) | (with_reducible refine Blk.at (t := ?_) ?_; rotate_left; with_reducible assumption) | with_reducible refine BlkAt.alloc ?_ _ | with_reducible refine BlkAt.drew ?_ | (with_reducible refine BlkAt.setSame ?_ _ _) | (with_reducible refine BlkAt.setCell ?_ ?_ _; rotate_left; ((try simp) <;> omega)) | (with_reducible refine BlkAt.ext (w := ?_) ?_ ?_; rotate_left 2; (with_reducible assumption)) | fail))); (next => kernel_rfl)) | ((with_reducible show wpList _ _ _ (⟨_, .store 67 _ _, _, _, _, _⟩ :: _) _ _); refine wpList_store_blk (by rfl) 67 _ _ (by rfl) _ _ (by rfl) (by rfl) _ _ hR9 (by kernel_rfl) (by rfl) ?_ ?_; (next => exact pt_one ..); intro wE hRE hUE) | fail)
      exact bodyPost_ret (results_pt rfl _ _ (w.heap.size + 1 + 1) _ (by rfl) hRE rfl) rfl ⟨rfl, below_upd HB9.out (by omega) hUE⟩
    · obtain rfl : i = 0 := by omega
      obtain rfl : sv = 0 := HSV.out.trans (SI.out.sup_none HAL.out HNE.out)
      clear h0
      go_wp2_with (first | ((with_reducible show wpList _ _ _ (⟨_, .load 67 _, _, _, _, _⟩ :: _) _ _); refine wpList_load_ho 67 _ (by rfl) (by rfl) ?_ (.pointer (some ⟨_, 0, none⟩)) (by rfl) ?_ _ Tryz.underlying67 rfl ?_ ?_; rotate_left; (next => (repeat (first | (with_reducible refine BlkAt.new _ _ _ _ ?_; ((try simp) <;> omega)) | (with_reducible assumption) | (with_reducible refine Blk.at (t := ?_) ?_; rotate_left; with_reducible assumption) | with_reducible refine BlkAt.alloc ?_ _ | with_reducible refine BlkAt.drew ?_ | (with_reducible refine BlkAt.setSame ?_ _ _) | (with_reducible refine BlkAt.setCell ?_ ?_ _; rotate_left; ((try simp) <;> omega)) | (with_reducible refine BlkAt.ext (w := ?_) ?_ ?_; rotate_left 2; (with_reducible assumption)) | fail))); (next => kernel_rfl)) | ((with_reducible show wpList _ _ _ (⟨_, .store 67 _ _, _, _, _, _⟩ :: _) _ _); refine wpList_store_blk (by rfl) 67 _ _ (by rfl) _ _ (by rfl) (by rfl) _ _ hR1 (by kernel_rfl) (by rfl) ?_ ?_; (next => exact pt_one ..); intro wE hRE hUE) | fail)
      exact bodyPost_ret (results_pt rfl _ _ (w.heap.size + 1 + 1) _ (by rfl) hRE rfl) rfl ⟨rfl, below_upd HB1.out (by omega) hUE⟩
end Cu
end Go.Proofs.YtacpjpkhmdcagaaGreat
