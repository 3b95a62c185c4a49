/- This text proves what the steps of removing and reducing an order do to a held book. It has no conditions but those that it states. This text proves the contracts of a book's gone and Remove. It has no conditions but those that it states. This text proves the contract of a book's Reduce. It has no conditions but those that it states. This text proves that damperlaw13's alive is true, and which price is better. It has no conditions but those that it states. -/
import Derived.Test.YtacpjpkhmdcagaaGreatBkAdd
import Derived.Test.YtacpjpkhmdcagaaGreatLadT
namespace Go.Proofs.YtacpjpkhmdcagaaGreat
set_option linter.unusedVariables false
open Go.RowKit
namespace Lad
set_option maxHeartbeats 2000000
set_option maxRecDepth 10000
theorem flatL_upd1 : ∀ (ls : List Lvl) (i : Nat) (l : Lvl) (q : Int), ls[i]? = some l → (flatL ls).set (i * 4 + 1) (.int .i64 q) = flatL (ls.set i ⟨l.price, q, l.orders, l.queue⟩)
  | [], _, _, _, h => by simp at h
  | x :: t, 0, l, q, h => by
    obtain rfl : x = l := by simpa using h
    simp [flatL, Lvl.cells]
  | x :: t, i + 1, l, q, h => by
    have ih := flatL_upd1 t i l q (by simpa using h)
    have e : ∀ y : Lvl, flatL (y :: t) = .int .i64 y.price :: .int .i64 y.qty :: .int .i64 y.orders :: .int .i64 y.queue :: flatL t := fun _ => rfl
    have e2 : flatL (x :: t.set i ⟨l.price, q, l.orders, l.queue⟩) = .int .i64 x.price :: .int .i64 x.qty :: .int .i64 x.orders :: .int .i64 x.queue :: flatL (t.set i ⟨l.price, q, l.orders, l.queue⟩) := rfl
    rw [e, show (i + 1) * 4 + 1 = (i * 4 + 1) + 1 + 1 + 1 + 1 by omega, List.set_cons_succ, List.set_cons_succ, List.set_cons_succ, List.set_cons_succ, ih, List.set_cons_succ, e2]
section
variable {w : World} {g : Nat} {side most : Int} {v : Value} {ls : List Lvl} {u : Nat → Nat}
theorem La.upd1 {rb ro cap i : Nat} {l : Lvl} (L : La w g side most (.slice (some ⟨rb, ro, none⟩) ls.length cap) ls u) (hl : ls[i]? = some l) (q : Int) :
    La (w.setCell ⟨rb, ro + i * 4 + 1, none⟩ (.int .i64 q)) g side most (.slice (some ⟨rb, ro, none⟩) ls.length cap) (ls.set i ⟨l.price, q, l.orders, l.queue⟩) u := by
  have h1 := (L.row.lt rb rfl).1
  refine ⟨L.hd.upd (show g ≠ rb by omega) (Upd.setCell w ⟨rb, ro + i * 4 + 1, none⟩ _), ?_, by rw [List.length_set]; exact L.len, ?_⟩
  · have h2 := own_set (j := i * 4 + 1) L.row (.int .i64 q)
    rw [flatL_upd1 ls i l q hl] at h2
    rw [List.length_set]
    simpa only [Nat.add_assoc] using h2
  · intro y hy
    rcases List.mem_or_eq_of_mem_set hy with h | rfl
    · exact L.rng y h
    · exact L.rng l (List.mem_of_getElem? hl)
end
end Lad
namespace Bk
set_option maxHeartbeats 1000000
set_option maxRecDepth 10000
open Are (St Ar ord0 ordArr_one dropS setS)
open Lad (La LStep Fresh keyF keys keys_at stands_ex busy clrU)
open Fif (Fq up up_same up_ne)
open Idx (R3 Xq Wf dropR)
theorem sid_mid (n : Nat) (A C : List Sl) (k : Nat) (o : Ord) : sid n (A ++ (k, o) :: C) = if o.side = (n : Int) then sid n A ++ (k, o) :: sid n C else sid n (A ++ C) := by
  unfold sid
  rw [List.filter_append, List.filter_append]
  by_cases h : o.side = (n : Int) <;> simp [h]
theorem rr_drop {A C : List Sl} {k : Nat} {o : Ord} (h : ((A ++ (k, o) :: C).map (·.2.id)).Nodup) : dropR (Rr (A ++ (k, o) :: C)) 0 o.id = Rr (A ++ C) := by
  rw [List.map_append, List.map_cons, List.nodup_append, List.nodup_cons] at h
  obtain ⟨_, ⟨h2, _⟩, h4⟩ := h
  have keep : ∀ l : List Sl, (∀ x ∈ l, x.2.id ≠ o.id) → dropR (Rr l) 0 o.id = Rr l := fun l hl => by
    unfold dropR Rr
    rw [List.filter_eq_self]
    intro r hr
    obtain ⟨x, hx, rfl⟩ := List.mem_map.1 hr
    simp [R3.is, hl x hx]
  have hA := keep A (fun x hx e => h4 _ (List.mem_map.2 ⟨x, hx, rfl⟩) _ (by simp) e)
  have hC := keep C (fun x hx e => h2 (List.mem_map.2 ⟨x, hx, e⟩))
  have e1 : Rr (A ++ (k, o) :: C) = Rr A ++ ⟨0, o.id, (k : Int)⟩ :: Rr C := by simp [Rr]
  have e2 : Rr (A ++ C) = Rr A ++ Rr C := by simp [Rr]
  rw [e1, e2]
  unfold dropR at *
  rw [List.filter_append, hA, List.filter_cons_of_neg (by simp [R3.is]), hC]
/-- An order of which something is taken. -/
def less (o : Ord) (z : Int) : Ord := { o with qty := o.qty - z }
theorem rr_less (A C : List Sl) (k : Nat) (o : Ord) (z : Int) : Rr (A ++ (k, less o z) :: C) = Rr (A ++ (k, o) :: C) := by simp [Rr, less]
theorem Cs.upd {c c' : Nat → Nat} {w w1 w2 : World} {g : Nat} (h : Cs c c' w w1) (hg : w.heap.size ≤ g) (u : Upd g w1 w2) : Cs c c' w w2 :=
  ⟨u.os.trans h.os, u.tape.trans h.tape, u.output.trans h.output, by rw [u.size]; exact h.size, h.old, fun q hq h9 => (u.block q (by omega)).trans (h.same q hq h9)⟩
/-- What leaves a book's blocks leaves the book. -/
theorem Bw.only9 {w w' : World} {c : Nat → Nat} {b N most k : Nat} {d : Bd} {R : List R3} (B : Bw w c b N most k d R) (O : Only c 9 w w') : Bw w' c b N most k d R := by
  have hl : ∀ n, n < 2 → d.l n < w.heap.size := fun n hn => (B.la n hn).hd.lt
  have hq : ∀ n, n < 2 → _ := fun n hn => (B.fq n hn).lt
  obtain ⟨x1, x2, x3⟩ := B.ix.lt
  exact ⟨(O.same b B.lt (by rw [B.cb]; decide)).trans B.hd, ar_keep B.ar (O.same _ B.ar.lt (by rw [B.ca]; decide)), fun n hn => la_keep (B.la n hn) (O.same _ (hl n hn) (by rw [B.cl n hn]; omega)) (fun r hr => O.same r ((B.la n hn).own_lt r hr).2 (by rw [B.cv n hn r hr]; omega)),
    fun n hn => fq_keep (B.fq n hn) (O.same _ (hq n hn).1 (by rw [(B.cq n hn).1]; omega)) (O.same _ (hq n hn).2.1 (by rw [(B.cq n hn).2.1]; omega)) (O.same _ (hq n hn).2.2 (by rw [(B.cq n hn).2.2]; omega)),
    xq_keep B.ix (O.same _ x1 (by rw [B.cx.1]; decide)) (O.same _ x2 (by rw [B.cx.2.1]; decide)) (O.same _ x3 (by rw [B.cx.2.2]; decide)), B.cb, B.ca, B.cl, B.cq, B.cx, B.cv, fun r hr => B.out r (Nat.le_trans O.size hr)⟩
theorem Bs.only9 {w w' : World} {c : Nat → Nat} {b N most k : Nat} {ss : List Sl} (B : Bs w c b N most k ss) (O : Only c 9 w w') : Bs w' c b N most k ss := by
  obtain ⟨d, B, I⟩ := B
  exact ⟨d, B.only9 O, I⟩
theorem Only.upd9 {c : Nat → Nat} {w w' : World} {g : Nat} (u : Upd g w w') (hg : c g = 9) : Only c 9 w w' := ⟨u.os, u.tape, u.output, Nat.le_of_eq u.size.symm, fun q _ hn => u.block q (fun e => hn (by rw [e]; exact hg))⟩
end Bk
end Go.Proofs.YtacpjpkhmdcagaaGreat
namespace Go.Proofs.YtacpjpkhmdcagaaGreat
set_option linter.unusedVariables false
open Go.RowKit
namespace Bk
set_option maxHeartbeats 1000000
set_option maxRecDepth 10000
open Are (St Ar ord0 ordArr_one dropS setS)
open Fif (Fq up up_same up_ne)
open Idx (R3 Xq Wf)
section
variable {w : World} {c : Nat → Nat} {b N most k : Nat} {ss : List Sl}
/-- The rest of a list of orders when an ID goes. -/
def rmI (id : Int) (os : List Ord) : List Ord := os.filter fun o => !decide (o.id = id)
theorem rm_none {id : Int} {os : List Ord} (h : fndI id os = none) : rmI id os = os := by
  unfold fndI at h
  unfold rmI
  rw [List.filter_eq_self]
  intro o ho
  have := List.find?_eq_none.1 h o ho
  simpa using this
theorem rm_mid {A C : List Sl} {kk : Nat} {o : Ord} (h : ((A ++ (kk, o) :: C).map (·.2.id)).Nodup) : rmI o.id (osOf (A ++ (kk, o) :: C)) = osOf (A ++ C) := by
  rw [List.map_append, List.map_cons, List.nodup_append, List.nodup_cons] at h
  obtain ⟨_, ⟨h2, _⟩, h4⟩ := h
  have keep : ∀ l : List Sl, (∀ x ∈ l, x.2.id ≠ o.id) → rmI o.id (osOf l) = osOf l := fun l hl => by
    unfold rmI osOf
    rw [List.filter_eq_self]
    intro r hr
    obtain ⟨x, hx, rfl⟩ := List.mem_map.1 hr
    simp [hl x hx]
  have hA := keep A (fun x hx e => h4 _ (List.mem_map.2 ⟨x, hx, rfl⟩) _ (by simp) e)
  have hC := keep C (fun x hx e => h2 (List.mem_map.2 ⟨x, hx, e⟩))
  have e1 : osOf (A ++ (kk, o) :: C) = osOf A ++ o :: osOf C := by simp [osOf]
  have e2 : osOf (A ++ C) = osOf A ++ osOf C := by simp [osOf]
  rw [e1, e2]
  unfold rmI at *
  rw [List.filter_append, hA, List.filter_cons_of_neg (by simp), hC]
end
end Bk
end Go.Proofs.YtacpjpkhmdcagaaGreat
namespace Go.Proofs.YtacpjpkhmdcagaaGreat
set_option linter.unusedVariables false
open Go.RowKit
namespace Bk
set_option maxHeartbeats 1000000
set_option maxRecDepth 10000
open Are (St Ar ord0 ordArr_one dropS setS)
open Fif (Fq up up_same up_ne)
open Idx (R3 Xq Wf)
section
variable {w : World} {c : Nat → Nat} {b N most k : Nat} {ss : List Sl}
/-- What is left of a list when something of an order is taken. -/
def rdI (id z : Int) (os : List Ord) : List Ord := os.map fun o => if o.id = id then less o z else o
def redF (id z : Int) (os : List Ord) : Int × Ord := match fndI id os with
  | none => (5, ord0)
  | some o => if z < 1 ∨ o.qty < z then (9, ord0) else (0, less o z)
def redO (id z : Int) (os : List Ord) : List Ord := match fndI id os with
  | none => os
  | some o => if z < 1 ∨ o.qty < z then os else if z = o.qty then rmI id os else rdI id z os
theorem rd_mid {A C : List Sl} {kk : Nat} {o : Ord} (z : Int) (h : ((A ++ (kk, o) :: C).map (·.2.id)).Nodup) : rdI o.id z (osOf (A ++ (kk, o) :: C)) = osOf (A ++ (kk, less o z) :: C) := by
  rw [List.map_append, List.map_cons, List.nodup_append, List.nodup_cons] at h
  obtain ⟨_, ⟨h2, _⟩, h4⟩ := h
  have keep : ∀ l : List Sl, (∀ x ∈ l, x.2.id ≠ o.id) → rdI o.id z (osOf l) = osOf l := fun l hl => by
    unfold rdI osOf
    rw [List.map_map]
    refine List.map_congr_left (fun x hx => ?_)
    simp [hl x hx]
  have hA := keep A (fun x hx e => h4 _ (List.mem_map.2 ⟨x, hx, rfl⟩) _ (by simp) e)
  have hC := keep C (fun x hx e => h2 (List.mem_map.2 ⟨x, hx, e⟩))
  have e1 : osOf (A ++ (kk, o) :: C) = osOf A ++ o :: osOf C := by simp [osOf]
  have e2 : osOf (A ++ (kk, less o z) :: C) = osOf A ++ less o z :: osOf C := by simp [osOf]
  rw [e1, e2]
  unfold rdI at *
  rw [List.map_append, hA, List.map_cons, hC]
  simp
end
end Bk
end Go.Proofs.YtacpjpkhmdcagaaGreat
namespace Go.Proofs.YtacpjpkhmdcagaaGreat
set_option linter.unusedVariables false
open Go.RowKit
namespace Bk
set_option maxHeartbeats 1000000
set_option maxRecDepth 10000
open Are (ord0)
open Idx (Wf)
end Bk
end Go.Proofs.YtacpjpkhmdcagaaGreat
