/- This text proves what book.New answers where there can be no book. It has no conditions but those that it states. This text proves how both books, the program's and the document's, lie beside each other, and how a step on one leaves the other. It has no conditions but those that it states. This text proves what damperlaw14.Books makes: both books of orders, alike. It has no conditions but those that it states. -/
import Derived.Test.YtacpjpkhmdcagaaGreatBkV
import Derived.Test.YtacpjpkhmdcagaaGreatRkP
import Derived.Test.YtacpjpkhmdcagaaGreatBkEa
import Derived.Test.YtacpjpkhmdcagaaGreatBkPl
namespace Go.Proofs.YtacpjpkhmdcagaaGreat
set_option linter.unusedVariables false
open Go.RowKit
namespace Bk
set_option maxHeartbeats 2000000
set_option maxRecDepth 10000
theorem lad_bad (m : Int) (w : World) (h : m < 1 ∨ 200 < m) : Calls Tryz.prog 43 #[.int .i64 0, .int .i64 m] w fun e w' => e = .returned (.tuple #[.pointer none, .int .i64 9]) ∧ Below w.heap.size w w' := by
  by_cases h1 : m < 1
  · clear h
    go_enter Tryz.func43, Tryz.ntmps43
    go_wp2_with fail
    refine bodyPost_ret (v := .tuple #[.pointer none, .int .i64 9]) (by simp [results, Tryz.results43, go_sem]; first | done | rfl) rfl ⟨rfl, by (repeat (first | with_reducible exact Below.refl _ _ | (with_reducible assumption) | (with_reducible refine below_alloc ?_ _) | (with_reducible refine below_ext (w1 := ?_) ?_ ?_; rotate_left 2; (with_reducible assumption)) | (with_reducible refine Below.setCell ?_ ?_ _; rotate_left; ((try simp) <;> omega)) | (with_reducible refine Below.drew ?_) | (with_reducible refine below_drewN ?_ _) | fail))⟩
  · have h2 : 200 < m := by omega
    clear h
    go_enter Tryz.func43, Tryz.ntmps43
    go_wp2_with fail
    refine bodyPost_ret (v := .tuple #[.pointer none, .int .i64 9]) (by simp [results, Tryz.results43, go_sem]; first | done | rfl) rfl ⟨rfl, by (repeat (first | with_reducible exact Below.refl _ _ | (with_reducible assumption) | (with_reducible refine below_alloc ?_ _) | (with_reducible refine below_ext (w1 := ?_) ?_ ?_; rotate_left 2; (with_reducible assumption)) | (with_reducible refine Below.setCell ?_ ?_ _; rotate_left; ((try simp) <;> omega)) | (with_reducible refine Below.drew ?_) | (with_reducible refine below_drewN ?_ _) | fail))⟩
theorem new_bad (a b : Int) (h : a < 1 ∨ 500 < a ∨ b < 1 ∨ 200 < b) (w : World) : Calls Tryz.prog 22 #[.int .i64 a, .int .i64 b] w fun e w' => e = .returned (.tuple #[.pointer none, .int .i64 9]) ∧ Below w.heap.size w w' := by
  by_cases ha : 1 ≤ a ∧ a ≤ 500
  · have hb : b < 1 ∨ 200 < b := by omega
    have HL := Lib.hid (fun W => lad_bad b W hb)
    obtain ⟨n, rfl⟩ : ∃ n : Nat, a = n := ⟨a.toNat, by omega⟩
    have ha1 : 1 ≤ n := by omega
    have ha2 : n ≤ 500 := by omega
    clear h hb ha
    go_enter Tryz.func22, Tryz.ntmps22
    go_wp2_with fail
    refine (Are.new_any n _ ha1 ha2).mono ?_
    rintro e w1 ⟨ar, rfl, ha, hA1, hb1⟩
    go_wp2_with fail
    refine (Idx.new_any _).mono ?_
    rintro e w2 ⟨x, bs, bm, rfl, ⟨hx1, hx2, hx3⟩, hX2, hb2⟩
    go_wp2_with (first | (refine wpList_build_is (by rfl) _ _ (by rfl) ?_ ?_ ?_; rotate_left; (next => simp only [List.map_toArray, List.map_cons, List.map_nil, go_sem]; exact built_book _ _)) | fail)
    have hb3 : Below w.heap.size w (w2.alloc (.cells #[.pointer (some ⟨ar, 0, none⟩), .pointer none, .pointer none, .pointer none, .pointer none, .pointer (some ⟨x, 0, none⟩)] 91)) := below_alloc (below_ext hb1 hb2) _
    clear hA1 hX2 hb1 hb2 ha hx1 hx2 hx3
    generalize w2.alloc (.cells #[.pointer (some ⟨ar, 0, none⟩), .pointer none, .pointer none, .pointer none, .pointer none, .pointer (some ⟨x, 0, none⟩)] 91) = w3 at *
    go_loopw [26] (fun i wr => i = .int .i64 0 ∧ Below w.heap.size w wr) (fun i _ => 2 - (intOf i).toNat)
    case atStart => exact ⟨rfl, hb3⟩
    case round =>
      obtain ⟨rfl, hb⟩ := hrel
      go_wp2_with fail
      refine (HL.out _).mono ?_
      rintro e w4 ⟨rfl, hb4⟩
      go_wp2_with fail
      refine bodyPost_ret (v := .tuple #[.pointer none, .int .i64 9]) (by simp [results, Tryz.results22, go_sem]; first | done | rfl) rfl ⟨rfl, below_ext hb hb4⟩
  · have HA := Lib.hid (fun W => Are.new_bad a W ha)
    clear h ha
    go_enter Tryz.func22, Tryz.ntmps22
    go_wp2_with (first | (go_at_call 41; refine (HA.out _).mono ?_; rintro e w1 ⟨rfl, rfl⟩) | fail)
    refine bodyPost_ret (v := .tuple #[.pointer none, .int .i64 9]) (by simp [results, Tryz.results22, go_sem]; first | done | rfl) rfl ⟨rfl, by (repeat (first | with_reducible exact Below.refl _ _ | (with_reducible assumption) | (with_reducible refine below_alloc ?_ _) | (with_reducible refine below_ext (w1 := ?_) ?_ ?_; rotate_left 2; (with_reducible assumption)) | (with_reducible refine Below.setCell ?_ ?_ _; rotate_left; ((try simp) <;> omega)) | (with_reducible refine Below.drew ?_) | (with_reducible refine below_drewN ?_ _) | fail))⟩
end Bk
end Go.Proofs.YtacpjpkhmdcagaaGreat
namespace Go.Proofs.YtacpjpkhmdcagaaGreat
set_option linter.unusedVariables false
open Go.RowKit
namespace Bk
open Rk (Rb)
/-- Both books hold the same orders; the document's lies beside the program's. -/
structure Two (w : World) (c : Nat → Nat) (b rb N most k : Nat) (ss : List Sl) (A : Option Addr) (cap : Nat) : Prop where
  bs : Bs w c b N most k ss
  rf : Rb w rb (N : Int) (most : Int) (osOf ss) A cap
  c9 : c rb = 9 ∧ ∀ a, A = some a → c a.block = 9
section
variable {w w' : World} {c c' : Nat → Nat} {b rb N most k k' : Nat} {ss ss' : List Sl} {A : Option Addr} {cap : Nat}
theorem Two.ext (T : Two w c b rb N most k ss A cap) (h : Below w.heap.size w w') : Two w' c b rb N most k ss A cap := ⟨T.bs.ext h, T.rf.ext h, T.c9⟩
/-- A step of the program's book leaves the document's. -/
theorem Two.left (T : Two w c b rb N most k ss A cap) (h : Cs c c' w w') : Rb w' rb (N : Int) (most : Int) (osOf ss) A cap ∧ (c' rb = 9 ∧ ∀ a, A = some a → c' a.block = 9) := by
  have hl := T.rf.hd.lt
  refine ⟨T.rf.keep h.size (h.same _ hl T.c9.1) (fun a e => h.same _ (T.rf.far a e).2 (T.c9.2 a e)), (h.old _ hl).trans T.c9.1, fun a e => (h.old _ (T.rf.far a e).2).trans (T.c9.2 a e)⟩
/-- A step of the document's book leaves the program's. -/
theorem right_bs (B : Bs w c b N most k ss) (h9 : c rb = 9) (h : ButL [rb] w.heap.size w w') : Bs w' c b N most k ss :=
  B.only9 (Only.butL h (fun g hg => by rw [List.mem_singleton.1 hg]; exact h9))
theorem right_c9 (B : Bs w c b N most k ss) {A' : Option Addr} (h : ∀ a, A = some a → c a.block = 9) (hA : ∀ a, A' = some a → w.heap.size ≤ a.block ∨ A = some a) : ∀ a, A' = some a → c a.block = 9 := fun a e => by
  obtain ⟨d, B, I⟩ := B
  rcases hA a e with h1 | h1
  · exact B.out _ h1
  · exact h a h1
/-- What a step on both books leaves: all blocks that are neither's own. -/
structure Cr (rb : Nat) (c c' : Nat → Nat) (w w' : World) : Prop where
  os : w'.os = w.os
  tape : w'.tape = w.tape
  output : w'.output = w.output
  size : w.heap.size ≤ w'.heap.size
  old : ∀ q, q < w.heap.size → c' q = c q
  same : ∀ q, q < w.heap.size → c q = 9 → q ≠ rb → w'.heap[q]? = w.heap[q]?
theorem Cr.of_cs (h : Cs c c' w w') : Cr rb c c' w w' := ⟨h.os, h.tape, h.output, h.size, h.old, fun q hq h9 _ => h.same q hq h9⟩
theorem Cr.of_butL (h : ButL [rb] w.heap.size w w') : Cr rb c c w w' := ⟨h.os, h.tape, h.output, h.size, fun _ _ => rfl, fun q hq _ hn => h.block q hq (by simpa using hn)⟩
theorem Cr.of_below (h : Below w.heap.size w w') : Cr rb c c w w' := Cr.of_cs (Cs.of_below h)
theorem Cr.trans {c1 c2 : Nat → Nat} {w1 w2 : World} (h : Cr rb c c1 w w1) (k : Cr rb c1 c2 w1 w2) : Cr rb c c2 w w2 :=
  ⟨k.os.trans h.os, k.tape.trans h.tape, k.output.trans h.output, Nat.le_trans h.size k.size, fun q hq => (k.old q (Nat.lt_of_lt_of_le hq h.size)).trans (h.old q hq),
    fun q hq h9 hn => (k.same q (Nat.lt_of_lt_of_le hq h.size) ((h.old q hq).trans h9) hn).trans (h.same q hq h9 hn)⟩
theorem Cr.upd {w1 w2 : World} {g : Nat} (h : Cr rb c c' w w1) (hg : w.heap.size ≤ g) (u : Upd g w1 w2) : Cr rb c c' w w2 :=
  ⟨u.os.trans h.os, u.tape.trans h.tape, u.output.trans h.output, by rw [u.size]; exact h.size, h.old, fun q hq h9 hn => (u.block q (by omega)).trans (h.same q hq h9 hn)⟩
theorem Cr.blk {z : Nat} {t : TypeId} {cs : Array Value} (h : Cr rb c c' w w') (hb : Blk w z t cs) (hz : c z = 9) (hn : z ≠ rb) : Blk w' z t cs := (h.same z hb.lt hz hn).trans hb
theorem Cr.below {B : Nat} (h : Cr rb c c' w w') (hB : B ≤ w.heap.size) (h9 : ∀ q, q < B → c q = 9) (hr : B ≤ rb) : Below B w w' :=
  ⟨h.os, h.tape, h.output, h.size, fun q hq => h.same q (Nat.lt_of_lt_of_le hq hB) (h9 q hq) (by omega)⟩
end
end Bk
end Go.Proofs.YtacpjpkhmdcagaaGreat
namespace Go.Proofs.YtacpjpkhmdcagaaGreat
set_option linter.unusedVariables false
open Go.RowKit
namespace Bk
set_option maxHeartbeats 4000000
set_option maxRecDepth 10000
open Rk (Rb)
open Idx (Wf)
/-- The orders that a book of those takes. -/
def bkO (l : List Ord) : List Ord := l.foldl (fun os o => addO 60 60 os o) []
theorem bkO_take {l : List Ord} {k : Nat} (hk : k < l.length) : bkO (l.take (k + 1)) = addO 60 60 (bkO (l.take k)) l[k] := by
  unfold bkO
  rw [List.take_succ_eq_append_getElem hk, List.foldl_append]
  rfl
theorem Bs.fewB {w : World} {c : Nat → Nat} {b N most k : Nat} {ss : List Sl} (B : Bs w c b N most k ss) : (osOf ss).length ≤ 500 := by
  obtain ⟨d, B, I⟩ := B
  have h1 := slots_le I.ai
  have h2 := I.lim
  unfold osOf
  rw [List.length_map]
  omega
theorem Bs.out14 {w : World} {c : Nat → Nat} {b N most k : Nat} {ss : List Sl} (B : Bs w c b N most k ss) {r : Nat} (h : w.heap.size ≤ r) : c r = 9 := by
  obtain ⟨d, B, I⟩ := B
  exact B.out _ h
theorem rd_rngB {α : Type} {c : α → List Value} {w : World} {k : Nat} {A : Option Addr} {xs : List α} (h : Rd w k A (xs.map c)) {i : Nat} (hi : i < xs.length) :
    ∃ b off, A = some ⟨b, off, none⟩ ∧ w.rangeAt b (off + i * k) (c xs[i]) := by
  obtain ⟨b, off, e, hc⟩ := h.at hi
  exact ⟨b, off, e, fun j v hv => by rw [Nat.add_assoc]; exact hc j v hv⟩
/-- What holds of the world in the loop that makes both books. -/
structure Wb (w wr : World) (c : Nat → Nat) (b rb k : Nat) (ss : List Sl) (A : Option Addr) (cap : Nat) (os : List Ord) : Prop where
  two : Two wr c b rb 60 60 k ss A cap
  nine : ∀ q, q < w.heap.size → c q = 9
  below : Below w.heap.size w wr
  far : w.heap.size ≤ rb
  os : osOf ss = os
def BksPost (w : World) (l : List Ord) (e : Ending) (w' : World) : Prop :=
  ∃ b rb c ss A cap, e = .returned (.tuple #[.pointer (some ⟨b, 0, none⟩), .pointer (some ⟨rb, 0, none⟩)]) ∧ Wb w w' c b rb l.length ss A cap (bkO l)
theorem books_any (l : List Ord) (hwf : ∀ o ∈ l, Wf o.id) (A : Option Addr) (cap : Nat) (w : World) (hr : Rd w 7 A (l.map Ord.cells)) (hl : l.length ≤ 60) : Calls Tryz.prog 9 #[.slice A l.length cap] w (BksPost w l) := by
  have HR := Lib.hid hr
  have HBN := Lib.hid (fun W => new_ok 60 60 W (by omega) (by omega))
  have HRN := Lib.hid (fun W => Rk.rnew_ok 60 60 (by omega) W)
  clear hr
  go_enter Tryz.func9, Tryz.ntmps9
  go_wp2_with fail
  refine (HBN.out _).mono ?_
  rintro e w1 ⟨b, c, rfl, B1, hb1, h9⟩
  go_wp2_with fail
  refine (HRN.out _).mono ?_
  rintro e w2 ⟨rfl, hR2, hb2⟩
  have hz1 := hb1.size
  have h9r : c w1.heap.size = 9 := by
    obtain ⟨d, B, I⟩ := B1
    exact B.out _ (Nat.le_refl _)
  obtain ⟨rb, hrb⟩ : ∃ n, n = w1.heap.size := ⟨_, rfl⟩
  rw [← hrb] at hR2 h9r hz1 ⊢
  have W2 : Hid (Wb w w2 c b rb 0 [] none 0 []) := Lib.hid ⟨⟨B1.ext hb2, hR2, h9r, fun a e => by cases e⟩, h9, below_ext hb1 hb2, hz1, rfl⟩
  clear B1 hb1 h9 hR2 hb2 hz1 h9r hrb HBN HRN
  go_wp2_with fail
  go_loopw [8] (fun iv wr => ∃ (k : Nat) (c : Nat → Nat) (ss : List Sl) (A : Option Addr) (cap : Nat), iv = .int .i64 k ∧ k ≤ l.length ∧ Hid (Wb w wr c b rb k ss A cap (bkO (l.take k)))) (fun iv _ => l.length - (intOf iv).toNat)
  case atStart => exact ⟨0, _, _, _, _, rfl, Nat.zero_le _, W2⟩
  case round =>
    obtain ⟨k, c, ss, A', cap', rfl, hk, HW⟩ := hrel
    clear W2
    by_cases hlt : k < l.length
    · obtain ⟨ab, ao, rfl, hmid⟩ := rd_rngB (HR.out.below HW.out.below) hlt
      have hmem := l.getElem_mem hlt
      have hss : (osOf ss).length < 1000 := by have := HW.out.two.bs.fewB; omega
      have HAD := Lib.hid (add_any HW.out.two.bs l[k] (hwf _ hmem) (by omega))
      have HRA := Lib.hid (fun (W : World) (q : Rb W rb ((60 : Nat) : Int) ((60 : Nat) : Int) (osOf ss) A' cap') => Rk.radd_any q l[k] hss)
      have HS := Lib.hid (bkO_take hlt)
      obtain ⟨x, hx⟩ : ∃ x, x = l[k] := ⟨_, rfl⟩
      rw [← hx] at hmid HAD HRA HS
      have HXL := Lib.hid hx
      have HK := Lib.hid hk
      clear hx hmem hss
      go_wp2_with (first | (refine wpList_load_mid (by rfl) _ _ (by rfl) _ _ (by rfl) _ _ hmid Tryz.underlying52 rfl (by kernel_rfl) ?_) | fail)
      refine HAD.out.mono ?_
      rintro e w5 ⟨rfl, c5, ss5, B5, hos, hs5⟩
      obtain ⟨hR5, h95⟩ := HW.out.two.left hs5
      have hfar := HW.out.far
      have hC5 : Cr rb c c5 wr w5 := Cr.of_cs hs5
      have hbw5 : Below w.heap.size w w5 := HW.out.below.trans (hC5.below HW.out.below.size HW.out.nine hfar)
      have hmid5 : w5.rangeAt ab (ao + k * 7) x.cells := by
        obtain ⟨ab', ao', e1, h1⟩ := rd_rngB (HR.out.below hbw5) hlt
        injection e1 with e1
        injection e1 with e1 e2
        subst e1 e2
        rw [HXL.out]
        exact h1
      have HN5 := Lib.hid (fun q (hq : q < w.heap.size) => (hC5.old q (by have := HW.out.below.size; omega)).trans (HW.out.nine q hq))
      have HR5 := Lib.hid hR5
      have HB5 := Lib.hid B5
      have H95 := Lib.hid h95
      have HOS := Lib.hid (hos.trans (by rw [HW.out.os]))
      have HO0 := Lib.hid HW.out.os
      have HBW := Lib.hid hbw5
      have HFR := Lib.hid hfar
      clear hR5 B5 h95 hos hs5 hC5 hbw5 hfar hmid HW
      go_wp2_with (first | (refine wpList_load_mid (by rfl) _ _ (by rfl) _ _ (by rfl) _ _ hmid5 Tryz.underlying52 rfl (by kernel_rfl) ?_) | (go_at_call 25; refine (HRA.out _ HR5.out).mono ?_; rintro e w6 ⟨rfl, ⟨A6, cap6, hR6, hA6⟩, hb6⟩) | fail)
      have B6 := right_bs HB5.out H95.out.1 hb6
      have h96 := right_c9 HB5.out H95.out.2 hA6
      have W6 : Hid (Wb w w6 c5 b rb (k + 1) ss5 A6 cap6 (bkO (l.take (k + 1)))) := Lib.hid ⟨⟨B6, by rw [HOS.out, ← HO0.out]; exact hR6, H95.out.1, h96⟩, HN5.out, HBW.out.trans ⟨hb6.os, hb6.tape, hb6.output, hb6.size, fun q hq => hb6.block q (by have := HBW.out.size; omega) (by simp; have := HFR.out; omega)⟩, HFR.out, by rw [HS.out]; exact HOS.out⟩
      go_roundw
      case rel => exact ⟨k + 1, c5, ss5, A6, cap6, by go_num, by have := HK.out; omega, W6⟩
      case measure => (simp [intOf] <;> omega)
    · have hk' : k = l.length := by omega
      subst hk'
      rw [List.take_length] at HW
      go_wp2_with fail
      exact bodyPost_ret (v := .tuple #[.pointer (some ⟨b, 0, none⟩), .pointer (some ⟨rb, 0, none⟩)]) (by simp [results, Tryz.results9, go_sem]; first | done | rfl) rfl ⟨b, rb, c, ss, A', cap', rfl, HW.out⟩
end Bk
end Go.Proofs.YtacpjpkhmdcagaaGreat
