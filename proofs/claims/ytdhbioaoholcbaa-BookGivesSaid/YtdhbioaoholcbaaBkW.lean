/- This text proves how a book lies in memory: its parts, each in blocks of its own, and what a step on one part leaves of the others. It has no conditions but those that it states. -/
import Derived.Test.YtdhbioaoholcbaaBkT
namespace Go.Proofs.Ytdhbioaoholcbaa
set_option linter.unusedVariables false
open Go.RowKit
namespace Bk
set_option maxRecDepth 10000
open Are (St Ar)
open Lad (La LStep Fresh)
open Fif (Fq up up_same up_ne)
open Idx (R3 Xq)
/-- Where a book's parts lie, and what they hold. -/
structure Bd where
  a : Nat
  x : Nat
  bs : Nat
  bm : Nat
  l : Nat → Nat
  q : Nat → Nat
  bn : Nat → Nat
  be : Nat → Nat
  v : Nat → Value
  ls : Nat → List Lvl
  u : Nat → Nat → Nat
  L : Nat → Nat → List Nat
  st : St
  fl : List Nat
def bookArr (a x l0 q0 l1 q1 : Nat) : Array Value := #[.pointer (some ⟨a, 0, none⟩), .pointer (some ⟨l0, 0, none⟩), .pointer (some ⟨q0, 0, none⟩), .pointer (some ⟨l1, 0, none⟩), .pointer (some ⟨q1, 0, none⟩), .pointer (some ⟨x, 0, none⟩)]
/-- The book in memory. Each block has a colour: that of the part that it belongs to; 9: it isn't the book's. -/
structure Bw (w : World) (c : Nat → Nat) (b N most k : Nat) (d : Bd) (R : List R3) : Prop where
  hd : Blk w b 70 (bookArr d.a d.x (d.l 0) (d.q 0) (d.l 1) (d.q 1))
  ar : Ar w d.a d.st
  la : ∀ n : Nat, n < 2 → La w (d.l n) (n : Int) (most : Int) (d.v n) (d.ls n) (d.u n)
  fq : ∀ n, n < 2 → Fq w (d.q n) (d.bn n) (d.be n) N most (d.L n)
  ix : Xq w d.x d.bs d.bm k R
  cb : c b = 0
  ca : c d.a = 1
  cl : ∀ n, n < 2 → c (d.l n) = 2 + n
  cq : ∀ n, n < 2 → c (d.q n) = 4 + n ∧ c (d.bn n) = 4 + n ∧ c (d.be n) = 4 + n
  cx : c d.x = 6 ∧ c d.bs = 6 ∧ c d.bm = 6
  cv : ∀ n, n < 2 → ∀ r, (d.v n).ownBlock = some r → c r = 2 + n
  out : ∀ r, w.heap.size ≤ r → c r = 9
/-- What a step of a book leaves: all blocks that aren't its own. -/
structure Cs (c c' : Nat → Nat) (w w' : World) : Prop where
  os : w'.os = w.os
  tape : w'.tape = w.tape
  output : w'.output = w.output
  size : w.heap.size ≤ w'.heap.size
  old : ∀ q, q < w.heap.size → c' q = c q
  same : ∀ q, q < w.heap.size → c q = 9 → w'.heap[q]? = w.heap[q]?
theorem Cs.refl (c : Nat → Nat) (w : World) : Cs c c w w := ⟨rfl, rfl, rfl, Nat.le_refl _, fun _ _ => rfl, fun _ _ _ => rfl⟩
theorem Cs.trans {c c1 c2 : Nat → Nat} {w w1 w2 : World} (h : Cs c c1 w w1) (k : Cs c1 c2 w1 w2) : Cs c c2 w w2 :=
  ⟨k.os.trans h.os, k.tape.trans h.tape, k.output.trans h.output, Nat.le_trans h.size k.size, fun q hq => (k.old q (Nat.lt_of_lt_of_le hq h.size)).trans (h.old q hq),
    fun q hq h9 => (k.same q (Nat.lt_of_lt_of_le hq h.size) ((h.old q hq).trans h9)).trans (h.same q hq h9)⟩
theorem Cs.of_below {c : Nat → Nat} {w w' : World} (h : Below w.heap.size w w') : Cs c c w w' := ⟨h.os, h.tape, h.output, h.size, fun _ _ => rfl, fun q hq _ => h.block q hq⟩
theorem Cs.blk {c c' : Nat → Nat} {w w' : World} {z : Nat} {t : TypeId} {cs : Array Value} (h : Cs c c' w w') (hb : Blk w z t cs) (hz : c z = 9) : Blk w' z t cs := (h.same z hb.lt hz).trans hb
theorem Cs.nine {c c' : Nat → Nat} {w w' : World} {z : Nat} (h : Cs c c' w w') (hb : z < w.heap.size) (hz : c z = 9) : c' z = 9 := (h.old z hb).trans hz
theorem Cs.below {c c' : Nat → Nat} {w w' : World} {B : Nat} (h : Cs c c' w w') (hB : B ≤ w.heap.size) (h9 : ∀ q, q < B → c q = 9) : Below B w w' :=
  ⟨h.os, h.tape, h.output, h.size, fun q hq => h.same q (Nat.lt_of_lt_of_le hq hB) (h9 q hq)⟩
theorem Cs.cell {c c' : Nat → Nat} {w w' : World} {p : Addr} {v : Value} (h : Cs c c' w w') (hb : w.cell? p = some v) (hz : c p.block = 9) : w'.cell? p = some v :=
  (World.cell?_of_block (h.same p.block (cell_lt hb) hz)).trans hb
theorem Cs.rd {c c' : Nat → Nat} {w w' : World} {k : Nat} {A : Option Addr} {l : List (List Value)} (h : Cs c c' w w') (hr : Rd w k A l) (hz : ∀ a, A = some a → c a.block = 9) (hl : ∀ a, A = some a → a.block < w.heap.size) : Rd w' k A l :=
  hr.keep (fun a e => h.same a.block (hl a e) (hz a e))
section
variable {w w' : World} {c : Nat → Nat} {b N most k : Nat} {d : Bd} {R : List R3}
theorem ar_keep {g : Nat} {s : St} (h : Ar w g s) (hk : w'.heap[g]? = w.heap[g]?) : Ar w' g s := by
  obtain ⟨cs, h1, h2⟩ := h
  exact ⟨cs, hk.trans h1, h2⟩
theorem la_keep {g : Nat} {side m : Int} {v : Value} {ls : List Lvl} {u : Nat → Nat} (h : La w g side m v ls u) (hk : w'.heap[g]? = w.heap[g]?) (hv : ∀ r, v.ownBlock = some r → w'.heap[r]? = w.heap[r]?) : La w' g side m v ls u := by
  refine ⟨hk.trans h.hd, ⟨h.row.1, ?_⟩, h.len, h.rng⟩
  rcases h.row.2 with h0 | ⟨r, cap, cur, rfl, hb, hg, h1⟩
  · exact .inl h0
  · exact .inr ⟨r, cap, cur, rfl, hb, (hv r rfl).trans hg, h1⟩
theorem fq_keep {g bn be N Q : Nat} {L : Nat → List Nat} (h : Fq w g bn be N Q L) (hg : w'.heap[g]? = w.heap[g]?) (hn : w'.heap[bn]? = w.heap[bn]?) (he : w'.heap[be]? = w.heap[be]?) : Fq w' g bn be N Q L := by
  obtain ⟨s, cn, ce, f, I⟩ := h
  exact ⟨s, cn, ce, ⟨hg.trans f.hd, hn.trans f.fbn, he.trans f.fbe, f.tn, f.te, f.ne, f.lim⟩, I⟩
theorem xq_keep {xb bs bm n : Nat} {R : List R3} (h : Xq w xb bs bm n R) (h1 : w'.heap[xb]? = w.heap[xb]?) (h2 : w'.heap[bs]? = w.heap[bs]?) (h3 : w'.heap[bm]? = w.heap[bm]?) : Xq w' xb bs bm n R := by
  obtain ⟨p1, ⟨D, ⟨es, clock, hb', F, hs, hD⟩, hS⟩, ⟨E, ⟨es2, clock2, hb2, F2, hs2, hD2⟩, hS2⟩, p4, p5, p6, p7⟩ := h
  exact ⟨h1.trans p1, ⟨D, ⟨es, clock, h2.trans hb', F, hs, hD⟩, hS⟩, ⟨E, ⟨es2, clock2, h3.trans hb2, F2, hs2, hD2⟩, hS2⟩, p4, p5, p6, p7⟩
/-- Which blocks a step leaves: all but those of one colour. -/
structure Only (c : Nat → Nat) (j : Nat) (w w' : World) : Prop where
  os : w'.os = w.os
  tape : w'.tape = w.tape
  output : w'.output = w.output
  size : w.heap.size ≤ w'.heap.size
  same : ∀ q, q < w.heap.size → c q ≠ j → w'.heap[q]? = w.heap[q]?
theorem Only.cs {j : Nat} (h : Only c j w w') (hj : j ≠ 9) : Cs c c w w' := ⟨h.os, h.tape, h.output, h.size, fun _ _ => rfl, fun q hq h9 => h.same q hq (by omega)⟩
theorem Only.but {g j : Nat} (h : But g w.heap.size w w') (hc : c g = j) : Only c j w w' := ⟨h.os, h.tape, h.output, h.size, fun q hq hne => h.block q hq (fun e => hne (by rw [e, hc]))⟩
theorem Only.butL {l : List Nat} {j : Nat} (h : ButL l w.heap.size w w') (hc : ∀ g ∈ l, c g = j) : Only c j w w' := ⟨h.os, h.tape, h.output, h.size, fun q hq hne => h.block q hq (fun e => hne (hc q e))⟩
theorem Only.lstep {g j : Nat} {v v' : Value} (h : LStep g v v' w w') (hc : c g = j) (hv : ∀ r, v.ownBlock = some r → c r = j) : Only c j w w' :=
  ⟨h.os, h.tape, h.output, h.size, fun q hq hne => h.block q hq (fun e => hne (by rw [e, hc])) (fun e => hne (hv q e))⟩
theorem Bw.lt (B : Bw w c b N most k d R) : b < w.heap.size := B.hd.lt
theorem Bw.ext (B : Bw w c b N most k d R) (h : Below w.heap.size w w') : Bw w' c b N most k d R :=
  ⟨B.hd.ext h, B.ar.ext h, fun n hn => (B.la n hn).ext h, fun n hn => (B.fq n hn).ext h, B.ix.ext h, B.cb, B.ca, B.cl, B.cq, B.cx, B.cv, fun r hr => B.out r (Nat.le_trans h.size hr)⟩
theorem Bw.far (B : Bw w c b N most k d R) {z : Nat} (hz : c z = 9) : b ≠ z := fun e => by have := B.cb; rw [e, hz] at this; cases this
/-- A step on the arena. -/
theorem Bw.stepA (B : Bw w c b N most k d R) (h : But d.a w.heap.size w w') {st' : St} {fl' : List Nat} (hA : Ar w' d.a st') : Bw w' c b N most k { d with st := st', fl := fl' } R ∧ Cs c c w w' := by
  have O : Only c 1 w w' := Only.but h B.ca
  have hl : ∀ n, n < 2 → d.l n < w.heap.size := fun n hn => (B.la n hn).hd.lt
  have hq : ∀ n, n < 2 → _ := fun n hn => (B.fq n hn).lt
  obtain ⟨x1, x2, x3⟩ := B.ix.lt
  refine ⟨⟨(O.same b B.lt (by rw [B.cb]; decide)).trans B.hd, hA, fun n hn => la_keep (B.la n hn) (O.same _ (hl n hn) (by rw [B.cl n hn]; omega)) (fun r hr => O.same r ((B.la n hn).own_lt r hr).2 (by rw [B.cv n hn r hr]; omega)),
    fun n hn => fq_keep (B.fq n hn) (O.same _ (hq n hn).1 (by rw [(B.cq n hn).1]; omega)) (O.same _ (hq n hn).2.1 (by rw [(B.cq n hn).2.1]; omega)) (O.same _ (hq n hn).2.2 (by rw [(B.cq n hn).2.2]; omega)),
    xq_keep B.ix (O.same _ x1 (by rw [B.cx.1]; decide)) (O.same _ x2 (by rw [B.cx.2.1]; decide)) (O.same _ x3 (by rw [B.cx.2.2]; decide)), B.cb, B.ca, B.cl, B.cq, B.cx, B.cv, fun r hr => B.out r (Nat.le_trans h.size hr)⟩, O.cs (by decide)⟩
/-- A step on a side's queues. -/
theorem Bw.stepQ (B : Bw w c b N most k d R) {m : Nat} (hm : m < 2) (h : ButL [d.bn m, d.be m] w.heap.size w w') {L' : Nat → List Nat} (hF : Fq w' (d.q m) (d.bn m) (d.be m) N most L') : Bw w' c b N most k { d with L := up d.L m L' } R ∧ Cs c c w w' := by
  have O : Only c (4 + m) w w' := Only.butL h (fun g hg => by
    simp only [List.mem_cons, List.not_mem_nil, or_false] at hg
    rcases hg with rfl | rfl
    · exact (B.cq m hm).2.1
    · exact (B.cq m hm).2.2)
  have hl : ∀ n, n < 2 → d.l n < w.heap.size := fun n hn => (B.la n hn).hd.lt
  have hq : ∀ n, n < 2 → _ := fun n hn => (B.fq n hn).lt
  obtain ⟨x1, x2, x3⟩ := B.ix.lt
  refine ⟨⟨(O.same b B.lt (by rw [B.cb]; omega)).trans B.hd, ar_keep B.ar (O.same _ B.ar.lt (by rw [B.ca]; omega)), fun n hn => la_keep (B.la n hn) (O.same _ (hl n hn) (by rw [B.cl n hn]; omega)) (fun r hr => O.same r ((B.la n hn).own_lt r hr).2 (by rw [B.cv n hn r hr]; omega)),
    fun n hn => ?_,
    xq_keep B.ix (O.same _ x1 (by rw [B.cx.1]; omega)) (O.same _ x2 (by rw [B.cx.2.1]; omega)) (O.same _ x3 (by rw [B.cx.2.2]; omega)), B.cb, B.ca, B.cl, B.cq, B.cx, B.cv, fun r hr => B.out r (Nat.le_trans h.size hr)⟩, O.cs (by omega)⟩
  show Fq w' (d.q n) (d.bn n) (d.be n) N most (up d.L m L' n)
  by_cases e : n = m
  · subst e
    rw [up_same]
    exact hF
  · rw [up_ne _ _ e]
    exact fq_keep (B.fq n hn) (O.same _ (hq n hn).1 (by rw [(B.cq n hn).1]; omega)) (O.same _ (hq n hn).2.1 (by rw [(B.cq n hn).2.1]; omega)) (O.same _ (hq n hn).2.2 (by rw [(B.cq n hn).2.2]; omega))
/-- A step on the index. -/
theorem Bw.stepX (B : Bw w c b N most k d R) (h : ButL [d.bs, d.bm] w.heap.size w w') {k' : Nat} {R' : List R3} (hX : Xq w' d.x d.bs d.bm k' R') : Bw w' c b N most k' d R' ∧ Cs c c w w' := by
  have O : Only c 6 w w' := Only.butL h (fun g hg => by
    simp only [List.mem_cons, List.not_mem_nil, or_false] at hg
    rcases hg with rfl | rfl
    · exact B.cx.2.1
    · exact B.cx.2.2)
  have hl : ∀ n, n < 2 → d.l n < w.heap.size := fun n hn => (B.la n hn).hd.lt
  have hq : ∀ n, n < 2 → _ := fun n hn => (B.fq n hn).lt
  refine ⟨⟨(O.same b B.lt (by rw [B.cb]; omega)).trans B.hd, ar_keep B.ar (O.same _ B.ar.lt (by rw [B.ca]; omega)), fun n hn => la_keep (B.la n hn) (O.same _ (hl n hn) (by rw [B.cl n hn]; omega)) (fun r hr => O.same r ((B.la n hn).own_lt r hr).2 (by rw [B.cv n hn r hr]; omega)),
    fun n hn => fq_keep (B.fq n hn) (O.same _ (hq n hn).1 (by rw [(B.cq n hn).1]; omega)) (O.same _ (hq n hn).2.1 (by rw [(B.cq n hn).2.1]; omega)) (O.same _ (hq n hn).2.2 (by rw [(B.cq n hn).2.2]; omega)),
    hX, B.cb, B.ca, B.cl, B.cq, B.cx, B.cv, fun r hr => B.out r (Nat.le_trans h.size hr)⟩, O.cs (by omega)⟩
/-- A step on a side's ladder: its row may be a new one. -/
theorem Bw.stepL (B : Bw w c b N most k d R) {m : Nat} (hm : m < 2) {v' : Value} {ls' : List Lvl} {u' : Nat → Nat} (h : LStep (d.l m) (d.v m) v' w w') (hL : La w' (d.l m) (m : Int) (most : Int) v' ls' u') :
    ∃ c', Bw w' c' b N most k { d with v := up d.v m v', ls := up d.ls m ls', u := up d.u m u' } R ∧ Cs c c' w w' := by
  have O : Only c (2 + m) w w' := Only.lstep h (B.cl m hm) (B.cv m hm)
  have hl : ∀ n, n < 2 → d.l n < w.heap.size := fun n hn => (B.la n hn).hd.lt
  have hq : ∀ n, n < 2 → _ := fun n hn => (B.fq n hn).lt
  obtain ⟨x1, x2, x3⟩ := B.ix.lt
  obtain ⟨c', hc'⟩ : ∃ c' : Nat → Nat, c' = fun r => if w.heap.size ≤ r ∧ v'.ownBlock = some r then 2 + m else c r := ⟨_, rfl⟩
  have hold : ∀ q, q < w.heap.size → c' q = c q := fun q hq => by rw [hc']; simp only; rw [if_neg (by omega)]
  have hov : ∀ r, v'.ownBlock = some r → c' r = 2 + m := fun r hr => by
    rw [hc']
    simp only
    by_cases hs : w.heap.size ≤ r
    · rw [if_pos ⟨hs, hr⟩]
    · rw [if_neg (by omega)]
      rcases h.fresh with h1 | h1
      · exact B.cv m hm r (by rw [← h1]; exact hr)
      · exact absurd (h1 r hr) hs
  refine ⟨c', ⟨(O.same b B.lt (by rw [B.cb]; omega)).trans B.hd, ar_keep B.ar (O.same _ B.ar.lt (by rw [B.ca]; omega)), fun n hn => ?_,
    fun n hn => fq_keep (B.fq n hn) (O.same _ (hq n hn).1 (by rw [(B.cq n hn).1]; omega)) (O.same _ (hq n hn).2.1 (by rw [(B.cq n hn).2.1]; omega)) (O.same _ (hq n hn).2.2 (by rw [(B.cq n hn).2.2]; omega)),
    xq_keep B.ix (O.same _ x1 (by rw [B.cx.1]; omega)) (O.same _ x2 (by rw [B.cx.2.1]; omega)) (O.same _ x3 (by rw [B.cx.2.2]; omega)), (hold _ B.lt).trans B.cb, (hold _ B.ar.lt).trans B.ca, fun n hn => (hold _ (hl n hn)).trans (B.cl n hn),
    fun n hn => ⟨(hold _ (hq n hn).1).trans (B.cq n hn).1, (hold _ (hq n hn).2.1).trans (B.cq n hn).2.1, (hold _ (hq n hn).2.2).trans (B.cq n hn).2.2⟩, ⟨(hold _ x1).trans B.cx.1, (hold _ x2).trans B.cx.2.1, (hold _ x3).trans B.cx.2.2⟩, fun n hn r hr => ?_, fun r hr => ?_⟩, ⟨h.os, h.tape, h.output, h.size, hold, fun q hq h9 => O.same q hq (by omega)⟩⟩
  · show La w' (d.l n) (n : Int) (most : Int) (up d.v m v' n) (up d.ls m ls' n) (up d.u m u' n)
    by_cases e : n = m
    · subst e
      rw [up_same, up_same, up_same]
      exact hL
    · rw [up_ne _ _ e, up_ne _ _ e, up_ne _ _ e]
      exact la_keep (B.la n hn) (O.same _ (hl n hn) (by rw [B.cl n hn]; omega)) (fun r hr => O.same r ((B.la n hn).own_lt r hr).2 (by rw [B.cv n hn r hr]; omega))
  · have hr' : (up d.v m v' n).ownBlock = some r := hr
    by_cases e : n = m
    · subst e
      rw [up_same] at hr'
      exact hov r hr'
    · rw [up_ne _ _ e] at hr'
      exact (hold r ((B.la n hn).own_lt r hr').2).trans (B.cv n hn r hr')
  · rw [hc']
    simp only
    rw [if_neg]
    · exact B.out r (Nat.le_trans h.size hr)
    · rintro ⟨_, h2⟩
      have := (hL.own_lt r h2).2
      omega
end
end Bk
end Go.Proofs.Ytdhbioaoholcbaa
