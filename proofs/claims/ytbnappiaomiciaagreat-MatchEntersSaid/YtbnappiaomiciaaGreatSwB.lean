/- This text proves what book.New answers where there can be no book. It has no conditions but those that it states. This text proves how both books, the program's and the document's, lie beside each other, and how a step on one leaves the other. It has no conditions but those that it states. This text proves what damperlaw14.Books makes: both books of orders, alike. It has no conditions but those that it states. -/
import Derived.Test.YtbnappiaomiciaaGreatBkV
import Derived.Test.YtbnappiaomiciaaGreatRkP
import Derived.Test.YtbnappiaomiciaaGreatBkEa
import Derived.Test.YtbnappiaomiciaaGreatBkPl
namespace Go.Proofs.YtbnappiaomiciaaGreat
set_option linter.unusedVariables false
open Go.RowKit
namespace Bk
set_option maxHeartbeats 2000000
set_option maxRecDepth 10000
end Bk
end Go.Proofs.YtbnappiaomiciaaGreat
namespace Go.Proofs.YtbnappiaomiciaaGreat
set_option linter.unusedVariables false
open Go.RowKit
namespace Bk
open Rk (Rb)
/-- Both books hold the same orders; the document's lies beside the program's. -/
structure Two (w : World) (c : Nat → Nat) (b rb N most k : Nat) (ss : List Sl) (A : Option Addr) (cap : Nat) : Prop where
  bs : Bs w c b N most k ss
  rf : Rb w rb (N : Int) (most : Int) (osOf ss) A cap
  c9 : c rb = 9 ∧ ∀ a, A = some a → c a.block = 9
section
variable {w w' : World} {c c' : Nat → Nat} {b rb N most k k' : Nat} {ss ss' : List Sl} {A : Option Addr} {cap : Nat}
theorem Two.ext (T : Two w c b rb N most k ss A cap) (h : Below w.heap.size w w') : Two w' c b rb N most k ss A cap := ⟨T.bs.ext h, T.rf.ext h, T.c9⟩
/-- A step of the program's book leaves the document's. -/
theorem Two.left (T : Two w c b rb N most k ss A cap) (h : Cs c c' w w') : Rb w' rb (N : Int) (most : Int) (osOf ss) A cap ∧ (c' rb = 9 ∧ ∀ a, A = some a → c' a.block = 9) := by
  have hl := T.rf.hd.lt
  refine ⟨T.rf.keep h.size (h.same _ hl T.c9.1) (fun a e => h.same _ (T.rf.far a e).2 (T.c9.2 a e)), (h.old _ hl).trans T.c9.1, fun a e => (h.old _ (T.rf.far a e).2).trans (T.c9.2 a e)⟩
/-- A step of the document's book leaves the program's. -/
theorem right_bs (B : Bs w c b N most k ss) (h9 : c rb = 9) (h : ButL [rb] w.heap.size w w') : Bs w' c b N most k ss :=
  B.only9 (Only.butL h (fun g hg => by rw [List.mem_singleton.1 hg]; exact h9))
theorem right_c9 (B : Bs w c b N most k ss) {A' : Option Addr} (h : ∀ a, A = some a → c a.block = 9) (hA : ∀ a, A' = some a → w.heap.size ≤ a.block ∨ A = some a) : ∀ a, A' = some a → c a.block = 9 := fun a e => by
  obtain ⟨d, B, I⟩ := B
  rcases hA a e with h1 | h1
  · exact B.out _ h1
  · exact h a h1
/-- What a step on both books leaves: all blocks that are neither's own. -/
structure Cr (rb : Nat) (c c' : Nat → Nat) (w w' : World) : Prop where
  os : w'.os = w.os
  tape : w'.tape = w.tape
  output : w'.output = w.output
  size : w.heap.size ≤ w'.heap.size
  old : ∀ q, q < w.heap.size → c' q = c q
  same : ∀ q, q < w.heap.size → c q = 9 → q ≠ rb → w'.heap[q]? = w.heap[q]?
theorem Cr.of_cs (h : Cs c c' w w') : Cr rb c c' w w' := ⟨h.os, h.tape, h.output, h.size, h.old, fun q hq h9 _ => h.same q hq h9⟩
theorem Cr.of_below (h : Below w.heap.size w w') : Cr rb c c w w' := Cr.of_cs (Cs.of_below h)
theorem Cr.trans {c1 c2 : Nat → Nat} {w1 w2 : World} (h : Cr rb c c1 w w1) (k : Cr rb c1 c2 w1 w2) : Cr rb c c2 w w2 :=
  ⟨k.os.trans h.os, k.tape.trans h.tape, k.output.trans h.output, Nat.le_trans h.size k.size, fun q hq => (k.old q (Nat.lt_of_lt_of_le hq h.size)).trans (h.old q hq),
    fun q hq h9 hn => (k.same q (Nat.lt_of_lt_of_le hq h.size) ((h.old q hq).trans h9) hn).trans (h.same q hq h9 hn)⟩
theorem Cr.upd {w1 w2 : World} {g : Nat} (h : Cr rb c c' w w1) (hg : w.heap.size ≤ g) (u : Upd g w1 w2) : Cr rb c c' w w2 :=
  ⟨u.os.trans h.os, u.tape.trans h.tape, u.output.trans h.output, by rw [u.size]; exact h.size, h.old, fun q hq h9 hn => (u.block q (by omega)).trans (h.same q hq h9 hn)⟩
theorem Cr.blk {z : Nat} {t : TypeId} {cs : Array Value} (h : Cr rb c c' w w') (hb : Blk w z t cs) (hz : c z = 9) (hn : z ≠ rb) : Blk w' z t cs := (h.same z hb.lt hz hn).trans hb
theorem Cr.below {B : Nat} (h : Cr rb c c' w w') (hB : B ≤ w.heap.size) (h9 : ∀ q, q < B → c q = 9) (hr : B ≤ rb) : Below B w w' :=
  ⟨h.os, h.tape, h.output, h.size, fun q hq => h.same q (Nat.lt_of_lt_of_le hq hB) (h9 q hq) (by omega)⟩
end
end Bk
end Go.Proofs.YtbnappiaomiciaaGreat
namespace Go.Proofs.YtbnappiaomiciaaGreat
set_option linter.unusedVariables false
open Go.RowKit
namespace Bk
set_option maxHeartbeats 4000000
set_option maxRecDepth 10000
open Rk (Rb)
open Idx (Wf)
/-- The orders that a book of those takes. -/
def bkO (l : List Ord) : List Ord := l.foldl (fun os o => addO 60 60 os o) []
theorem Bs.out14 {w : World} {c : Nat → Nat} {b N most k : Nat} {ss : List Sl} (B : Bs w c b N most k ss) {r : Nat} (h : w.heap.size ≤ r) : c r = 9 := by
  obtain ⟨d, B, I⟩ := B
  exact B.out _ h
theorem rd_rngB {α : Type} {c : α → List Value} {w : World} {k : Nat} {A : Option Addr} {xs : List α} (h : Rd w k A (xs.map c)) {i : Nat} (hi : i < xs.length) :
    ∃ b off, A = some ⟨b, off, none⟩ ∧ w.rangeAt b (off + i * k) (c xs[i]) := by
  obtain ⟨b, off, e, hc⟩ := h.at hi
  exact ⟨b, off, e, fun j v hv => by rw [Nat.add_assoc]; exact hc j v hv⟩
end Bk
end Go.Proofs.YtbnappiaomiciaaGreat
