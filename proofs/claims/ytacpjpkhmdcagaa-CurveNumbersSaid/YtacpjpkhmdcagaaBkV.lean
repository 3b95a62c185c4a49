/- This text proves what the steps of removing and reducing an order do to a held book. It has no conditions but those that it states. This text proves the contracts of a book's gone and Remove. It has no conditions but those that it states. This text proves the contract of a book's Reduce. It has no conditions but those that it states. This text proves that damperlaw13's alive is true, and which price is better. It has no conditions but those that it states. -/
import Derived.Test.YtacpjpkhmdcagaaBkAdd
import Derived.Test.YtacpjpkhmdcagaaLadT
namespace Go.Proofs.Ytacpjpkhmdcagaa
set_option linter.unusedVariables false
open Go.RowKit
namespace Lad
set_option maxHeartbeats 2000000
set_option maxRecDepth 10000
section
variable {w : World} {g : Nat} {side most : Int} {v : Value} {ls : List Lvl} {u : Nat → Nat}
end
end Lad
namespace Bk
set_option maxHeartbeats 1000000
set_option maxRecDepth 10000
open Are (St Ar ord0 ordArr_one dropS setS)
open Lad (La LStep Fresh keyF keys keys_at stands_ex busy clrU)
open Fif (Fq up up_same up_ne)
open Idx (R3 Xq Wf dropR)
/-- An order of which something is taken. -/
def less (o : Ord) (z : Int) : Ord := { o with qty := o.qty - z }
theorem Cs.upd {c c' : Nat → Nat} {w w1 w2 : World} {g : Nat} (h : Cs c c' w w1) (hg : w.heap.size ≤ g) (u : Upd g w1 w2) : Cs c c' w w2 :=
  ⟨u.os.trans h.os, u.tape.trans h.tape, u.output.trans h.output, by rw [u.size]; exact h.size, h.old, fun q hq h9 => (u.block q (by omega)).trans (h.same q hq h9)⟩
/-- What leaves a book's blocks leaves the book. -/
theorem Bw.only9 {w w' : World} {c : Nat → Nat} {b N most k : Nat} {d : Bd} {R : List R3} (B : Bw w c b N most k d R) (O : Only c 9 w w') : Bw w' c b N most k d R := by
  have hl : ∀ n, n < 2 → d.l n < w.heap.size := fun n hn => (B.la n hn).hd.lt
  have hq : ∀ n, n < 2 → _ := fun n hn => (B.fq n hn).lt
  obtain ⟨x1, x2, x3⟩ := B.ix.lt
  exact ⟨(O.same b B.lt (by rw [B.cb]; decide)).trans B.hd, ar_keep B.ar (O.same _ B.ar.lt (by rw [B.ca]; decide)), fun n hn => la_keep (B.la n hn) (O.same _ (hl n hn) (by rw [B.cl n hn]; omega)) (fun r hr => O.same r ((B.la n hn).own_lt r hr).2 (by rw [B.cv n hn r hr]; omega)),
    fun n hn => fq_keep (B.fq n hn) (O.same _ (hq n hn).1 (by rw [(B.cq n hn).1]; omega)) (O.same _ (hq n hn).2.1 (by rw [(B.cq n hn).2.1]; omega)) (O.same _ (hq n hn).2.2 (by rw [(B.cq n hn).2.2]; omega)),
    xq_keep B.ix (O.same _ x1 (by rw [B.cx.1]; decide)) (O.same _ x2 (by rw [B.cx.2.1]; decide)) (O.same _ x3 (by rw [B.cx.2.2]; decide)), B.cb, B.ca, B.cl, B.cq, B.cx, B.cv, fun r hr => B.out r (Nat.le_trans O.size hr)⟩
theorem Bs.only9 {w w' : World} {c : Nat → Nat} {b N most k : Nat} {ss : List Sl} (B : Bs w c b N most k ss) (O : Only c 9 w w') : Bs w' c b N most k ss := by
  obtain ⟨d, B, I⟩ := B
  exact ⟨d, B.only9 O, I⟩
end Bk
end Go.Proofs.Ytacpjpkhmdcagaa
namespace Go.Proofs.Ytacpjpkhmdcagaa
set_option linter.unusedVariables false
open Go.RowKit
namespace Bk
set_option maxHeartbeats 1000000
set_option maxRecDepth 10000
open Are (St Ar ord0 ordArr_one dropS setS)
open Fif (Fq up up_same up_ne)
open Idx (R3 Xq Wf)
section
variable {w : World} {c : Nat → Nat} {b N most k : Nat} {ss : List Sl}
/-- The rest of a list of orders when an ID goes. -/
def rmI (id : Int) (os : List Ord) : List Ord := os.filter fun o => !decide (o.id = id)
theorem rm_none {id : Int} {os : List Ord} (h : fndI id os = none) : rmI id os = os := by
  unfold fndI at h
  unfold rmI
  rw [List.filter_eq_self]
  intro o ho
  have := List.find?_eq_none.1 h o ho
  simpa using this
end
end Bk
end Go.Proofs.Ytacpjpkhmdcagaa
namespace Go.Proofs.Ytacpjpkhmdcagaa
set_option linter.unusedVariables false
open Go.RowKit
namespace Bk
set_option maxHeartbeats 1000000
set_option maxRecDepth 10000
open Are (St Ar ord0 ordArr_one dropS setS)
open Fif (Fq up up_same up_ne)
open Idx (R3 Xq Wf)
section
variable {w : World} {c : Nat → Nat} {b N most k : Nat} {ss : List Sl}
/-- What is left of a list when something of an order is taken. -/
def rdI (id z : Int) (os : List Ord) : List Ord := os.map fun o => if o.id = id then less o z else o
def redF (id z : Int) (os : List Ord) : Int × Ord := match fndI id os with
  | none => (5, ord0)
  | some o => if z < 1 ∨ o.qty < z then (9, ord0) else (0, less o z)
def redO (id z : Int) (os : List Ord) : List Ord := match fndI id os with
  | none => os
  | some o => if z < 1 ∨ o.qty < z then os else if z = o.qty then rmI id os else rdI id z os
end
end Bk
end Go.Proofs.Ytacpjpkhmdcagaa
namespace Go.Proofs.Ytacpjpkhmdcagaa
set_option linter.unusedVariables false
open Go.RowKit
namespace Bk
set_option maxHeartbeats 1000000
set_option maxRecDepth 10000
open Are (ord0)
open Idx (Wf)
end Bk
end Go.Proofs.Ytacpjpkhmdcagaa
