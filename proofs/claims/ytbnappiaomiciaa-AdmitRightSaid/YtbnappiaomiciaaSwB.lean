/- This text proves what book.New answers where there can be no book. It has no conditions but those that it states. This text proves how both books, the program's and the document's, lie beside each other, and how a step on one leaves the other. It has no conditions but those that it states. This text proves what damperlaw14.Books makes: both books of orders, alike. It has no conditions but those that it states. -/
import Derived.Test.YtbnappiaomiciaaBkV
import Derived.Test.YtbnappiaomiciaaRkP
import Derived.Test.YtbnappiaomiciaaBkEa
import Derived.Test.YtbnappiaomiciaaBkPl
namespace Go.Proofs.Ytbnappiaomiciaa
set_option linter.unusedVariables false
open Go.RowKit
namespace Bk
set_option maxHeartbeats 2000000
set_option maxRecDepth 10000
theorem lad_bad (m : Int) (w : World) (h : m < 1 ∨ 200 < m) : Calls Try.prog 35 #[.int .i64 0, .int .i64 m] w fun e w' => e = .returned (.tuple #[.pointer none, .int .i64 9]) ∧ Below w.heap.size w w' := by
  by_cases h1 : m < 1
  · clear h
    go_enter Try.func35, Try.ntmps35
    go_wp2_with fail
    refine bodyPost_ret (v := .tuple #[.pointer none, .int .i64 9]) (by simp [results, Try.results35, go_sem]; first | done | rfl) rfl ⟨rfl, by (repeat (first | with_reducible exact Below.refl _ _ | (with_reducible assumption) | (with_reducible refine below_alloc ?_ _) | (with_reducible refine below_ext (w1 := ?_) ?_ ?_; rotate_left 2; (with_reducible assumption)) | (with_reducible refine Below.setCell ?_ ?_ _; rotate_left; ((try simp) <;> omega)) | (with_reducible refine Below.drew ?_) | (with_reducible refine below_drewN ?_ _) | fail))⟩
  · have h2 : 200 < m := by omega
    clear h
    go_enter Try.func35, Try.ntmps35
    go_wp2_with fail
    refine bodyPost_ret (v := .tuple #[.pointer none, .int .i64 9]) (by simp [results, Try.results35, go_sem]; first | done | rfl) rfl ⟨rfl, by (repeat (first | with_reducible exact Below.refl _ _ | (with_reducible assumption) | (with_reducible refine below_alloc ?_ _) | (with_reducible refine below_ext (w1 := ?_) ?_ ?_; rotate_left 2; (with_reducible assumption)) | (with_reducible refine Below.setCell ?_ ?_ _; rotate_left; ((try simp) <;> omega)) | (with_reducible refine Below.drew ?_) | (with_reducible refine below_drewN ?_ _) | fail))⟩
theorem new_bad (a b : Int) (h : a < 1 ∨ 500 < a ∨ b < 1 ∨ 200 < b) (w : World) : Calls Try.prog 10 #[.int .i64 a, .int .i64 b] w fun e w' => e = .returned (.tuple #[.pointer none, .int .i64 9]) ∧ Below w.heap.size w w' := by
  by_cases ha : 1 ≤ a ∧ a ≤ 500
  · have hb : b < 1 ∨ 200 < b := by omega
    have HL := Lib.hid (fun W => lad_bad b W hb)
    obtain ⟨n, rfl⟩ : ∃ n : Nat, a = n := ⟨a.toNat, by omega⟩
    have ha1 : 1 ≤ n := by omega
    have ha2 : n ≤ 500 := by omega
    clear h hb ha
    go_enter Try.func10, Try.ntmps10
    go_wp2_with fail
    refine (Are.new_any n _ ha1 ha2).mono ?_
    rintro e w1 ⟨ar, rfl, ha, hA1, hb1⟩
    go_wp2_with fail
    refine (Idx.new_any _).mono ?_
    rintro e w2 ⟨x, bs, bm, rfl, ⟨hx1, hx2, hx3⟩, hX2, hb2⟩
    go_wp2_with (first | (refine wpList_build_is (by rfl) _ _ (by rfl) ?_ ?_ ?_; rotate_left; (next => simp only [List.map_toArray, List.map_cons, List.map_nil, go_sem]; exact built_book _ _)) | fail)
    have hb3 : Below w.heap.size w (w2.alloc (.cells #[.pointer (some ⟨ar, 0, none⟩), .pointer none, .pointer none, .pointer none, .pointer none, .pointer (some ⟨x, 0, none⟩)] 73)) := below_alloc (below_ext hb1 hb2) _
    clear hA1 hX2 hb1 hb2 ha hx1 hx2 hx3
    generalize w2.alloc (.cells #[.pointer (some ⟨ar, 0, none⟩), .pointer none, .pointer none, .pointer none, .pointer none, .pointer (some ⟨x, 0, none⟩)] 73) = w3 at *
    go_loopw [26] (fun i wr => i = .int .i64 0 ∧ Below w.heap.size w wr) (fun i _ => 2 - (intOf i).toNat)
    case atStart => exact ⟨rfl, hb3⟩
    case round =>
      obtain ⟨rfl, hb⟩ := hrel
      go_wp2_with fail
      refine (HL.out _).mono ?_
      rintro e w4 ⟨rfl, hb4⟩
      go_wp2_with fail
      refine bodyPost_ret (v := .tuple #[.pointer none, .int .i64 9]) (by simp [results, Try.results10, go_sem]; first | done | rfl) rfl ⟨rfl, below_ext hb hb4⟩
  · have HA := Lib.hid (fun W => Are.new_bad a W ha)
    clear h ha
    go_enter Try.func10, Try.ntmps10
    go_wp2_with (first | (go_at_call 33; refine (HA.out _).mono ?_; rintro e w1 ⟨rfl, rfl⟩) | fail)
    refine bodyPost_ret (v := .tuple #[.pointer none, .int .i64 9]) (by simp [results, Try.results10, go_sem]; first | done | rfl) rfl ⟨rfl, by (repeat (first | with_reducible exact Below.refl _ _ | (with_reducible assumption) | (with_reducible refine below_alloc ?_ _) | (with_reducible refine below_ext (w1 := ?_) ?_ ?_; rotate_left 2; (with_reducible assumption)) | (with_reducible refine Below.setCell ?_ ?_ _; rotate_left; ((try simp) <;> omega)) | (with_reducible refine Below.drew ?_) | (with_reducible refine below_drewN ?_ _) | fail))⟩
end Bk
end Go.Proofs.Ytbnappiaomiciaa
namespace Go.Proofs.Ytbnappiaomiciaa
set_option linter.unusedVariables false
open Go.RowKit
namespace Bk
section
variable {w w' : World} {c c' : Nat → Nat} {b rb N most k k' : Nat} {ss ss' : List Sl} {A : Option Addr} {cap : Nat}
/-- A step of the document's book leaves the program's. -/
theorem right_bs (B : Bs w c b N most k ss) (h9 : c rb = 9) (h : ButL [rb] w.heap.size w w') : Bs w' c b N most k ss :=
  B.only9 (Only.butL h (fun g hg => by rw [List.mem_singleton.1 hg]; exact h9))
theorem right_c9 (B : Bs w c b N most k ss) {A' : Option Addr} (h : ∀ a, A = some a → c a.block = 9) (hA : ∀ a, A' = some a → w.heap.size ≤ a.block ∨ A = some a) : ∀ a, A' = some a → c a.block = 9 := fun a e => by
  obtain ⟨d, B, I⟩ := B
  rcases hA a e with h1 | h1
  · exact B.out _ h1
  · exact h a h1
/-- What a step on both books leaves: all blocks that are neither's own. -/
structure Cr (rb : Nat) (c c' : Nat → Nat) (w w' : World) : Prop where
  os : w'.os = w.os
  tape : w'.tape = w.tape
  output : w'.output = w.output
  size : w.heap.size ≤ w'.heap.size
  old : ∀ q, q < w.heap.size → c' q = c q
  same : ∀ q, q < w.heap.size → c q = 9 → q ≠ rb → w'.heap[q]? = w.heap[q]?
theorem Cr.of_cs (h : Cs c c' w w') : Cr rb c c' w w' := ⟨h.os, h.tape, h.output, h.size, h.old, fun q hq h9 _ => h.same q hq h9⟩
theorem Cr.of_butL (h : ButL [rb] w.heap.size w w') : Cr rb c c w w' := ⟨h.os, h.tape, h.output, h.size, fun _ _ => rfl, fun q hq _ hn => h.block q hq (by simpa using hn)⟩
theorem Cr.of_below (h : Below w.heap.size w w') : Cr rb c c w w' := Cr.of_cs (Cs.of_below h)
theorem Cr.trans {c1 c2 : Nat → Nat} {w1 w2 : World} (h : Cr rb c c1 w w1) (k : Cr rb c1 c2 w1 w2) : Cr rb c c2 w w2 :=
  ⟨k.os.trans h.os, k.tape.trans h.tape, k.output.trans h.output, Nat.le_trans h.size k.size, fun q hq => (k.old q (Nat.lt_of_lt_of_le hq h.size)).trans (h.old q hq),
    fun q hq h9 hn => (k.same q (Nat.lt_of_lt_of_le hq h.size) ((h.old q hq).trans h9) hn).trans (h.same q hq h9 hn)⟩
theorem Cr.upd {w1 w2 : World} {g : Nat} (h : Cr rb c c' w w1) (hg : w.heap.size ≤ g) (u : Upd g w1 w2) : Cr rb c c' w w2 :=
  ⟨u.os.trans h.os, u.tape.trans h.tape, u.output.trans h.output, by rw [u.size]; exact h.size, h.old, fun q hq h9 hn => (u.block q (by omega)).trans (h.same q hq h9 hn)⟩
theorem Cr.blk {z : Nat} {t : TypeId} {cs : Array Value} (h : Cr rb c c' w w') (hb : Blk w z t cs) (hz : c z = 9) (hn : z ≠ rb) : Blk w' z t cs := (h.same z hb.lt hz hn).trans hb
theorem Cr.below {B : Nat} (h : Cr rb c c' w w') (hB : B ≤ w.heap.size) (h9 : ∀ q, q < B → c q = 9) (hr : B ≤ rb) : Below B w w' :=
  ⟨h.os, h.tape, h.output, h.size, fun q hq => h.same q (Nat.lt_of_lt_of_le hq hB) (h9 q hq) (by omega)⟩
end
end Bk
end Go.Proofs.Ytbnappiaomiciaa
namespace Go.Proofs.Ytbnappiaomiciaa
set_option linter.unusedVariables false
open Go.RowKit
namespace Bk
set_option maxHeartbeats 4000000
set_option maxRecDepth 10000
open Idx (Wf)
/-- The orders that a book of those takes. -/
def bkO (l : List Ord) : List Ord := l.foldl (fun os o => addO 60 60 os o) []
theorem bkO_take {l : List Ord} {k : Nat} (hk : k < l.length) : bkO (l.take (k + 1)) = addO 60 60 (bkO (l.take k)) l[k] := by
  unfold bkO
  rw [List.take_succ_eq_append_getElem hk, List.foldl_append]
  rfl
theorem Bs.fewB {w : World} {c : Nat → Nat} {b N most k : Nat} {ss : List Sl} (B : Bs w c b N most k ss) : (osOf ss).length ≤ 500 := by
  obtain ⟨d, B, I⟩ := B
  have h1 := slots_le I.ai
  have h2 := I.lim
  unfold osOf
  rw [List.length_map]
  omega
theorem Bs.out14 {w : World} {c : Nat → Nat} {b N most k : Nat} {ss : List Sl} (B : Bs w c b N most k ss) {r : Nat} (h : w.heap.size ≤ r) : c r = 9 := by
  obtain ⟨d, B, I⟩ := B
  exact B.out _ h
theorem rd_rngB {α : Type} {c : α → List Value} {w : World} {k : Nat} {A : Option Addr} {xs : List α} (h : Rd w k A (xs.map c)) {i : Nat} (hi : i < xs.length) :
    ∃ b off, A = some ⟨b, off, none⟩ ∧ w.rangeAt b (off + i * k) (c xs[i]) := by
  obtain ⟨b, off, e, hc⟩ := h.at hi
  exact ⟨b, off, e, fun j v hv => by rw [Nat.add_assoc]; exact hc j v hv⟩
end Bk
end Go.Proofs.Ytbnappiaomiciaa
