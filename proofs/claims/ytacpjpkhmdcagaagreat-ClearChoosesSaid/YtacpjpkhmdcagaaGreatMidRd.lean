/- This text proves a law for a statement 'for x := range f' over an iterator that itself ranges over iterators: the caller's invariant is told to abide the turns of blocks that are no cells. It has no conditions but those that it states. This text proves a law for a region whose order is open, in a function that is walked inside a fence: operations that leave a class of worlds alone, and behind all of them the last ones in the order of the text. It has no conditions of its own. This text proves a law for a region whose order is open, in a round of a range over a function: operations that leave a class of worlds alone, and behind all of them the last ones in the order of the text. It has no conditions of its own. -/
import Derived.Test.YtacpjpkhmdcagaaGreatRangeH
import Derived.Test.YtacpjpkhmdcagaaGreatFree
namespace Go.Proofs.YtacpjpkhmdcagaaGreat
set_option linter.unusedVariables false
open Go.RowKit
/-- What a round of a body leaves: all blocks of cells but those that are named, and all that lay below B. -/
structure Kc (nb : List Nat) (ts : List TypeId) (B : Nat) (W W' : World) : Prop where
  low : ButL nb B W W'
  cells : ∀ k cs t fr, W.heap[k]? = some (.cells cs t fr) → k ∉ nb → t ∉ ts → W'.heap[k]? = some (.cells cs t fr)
theorem Kc.refl (nb : List Nat) (ts : List TypeId) (B : Nat) (W : World) : Kc nb ts B W W := ⟨ButL.refl _ _ _, fun _ _ _ _ h _ _ => h⟩
theorem Kc.trans {nb : List Nat} {ts : List TypeId} {B : Nat} {U V W : World} (h : Kc nb ts B U V) (k : Kc nb ts B V W) : Kc nb ts B U W := ⟨h.low.trans k.low, fun i cs t fr hi hn ht => k.cells i cs t fr (h.cells i cs t fr hi hn ht) hn ht⟩
theorem Kc.of_below {nb : List Nat} {ts : List TypeId} {B : Nat} {W W' : World} (h : Below W.heap.size W W') (hB : B ≤ W.heap.size) : Kc nb ts B W W' := ⟨ButL.of_below (h.mono hB), fun k cs t fr hk _ _ => (h.block k (Array.getElem?_eq_some_iff.1 hk).1).trans hk⟩
theorem Kc.blk {nb : List Nat} {ts : List TypeId} {B : Nat} {W W' : World} {z : Nat} {t : TypeId} {cs : Array Value} (h : Kc nb ts B W W') (hb : Blk W z t cs) (hz : z ∉ nb) (ht : t ∉ ts) : Blk W' z t cs := h.cells z cs t _ hb hz ht
theorem Kc.low_blk {nb : List Nat} {ts : List TypeId} {B : Nat} {W W' : World} {z : Nat} {t : TypeId} {cs : Array Value} (h : Kc nb ts B W W') (hb : Blk W z t cs) (hz : z ∉ nb) (hl : z < B) : Blk W' z t cs := (h.low.block z hl hz).trans hb
theorem Kc.cell {nb : List Nat} {ts : List TypeId} {B : Nat} {W W' : World} {p : Addr} {v : Value} (h : Kc nb ts B W W') (hc : W.cell? p = some v) (hz : p.block ∉ nb) (hl : p.block < B) : W'.cell? p = some v :=
  (World.cell?_of_block (h.low.block _ hl hz)).trans hc
theorem kc_b {nb : List Nat} {ts : List TypeId} {B : Nat} (W : World) (l : Nat) (o o' : Obj) (hl : B ≤ l) (h : W.heap[l]? = some o) (hc : o.isCells = false) : Kc nb ts B W (W.putObj l o') := by
  have hlt := (Array.getElem?_eq_some_iff.1 h).1
  have hb : Below B W (W.putObj l o') := (Below.refl B W).grown (grownBy_putObj' W l o') (by omega) (fun k e => by cases e; omega)
  refine ⟨ButL.of_below hb, fun k cs t fr hk _ _ => ?_⟩
  rw [World.putObj_heap_other]
  · exact hk
  · rintro rfl
    rw [h] at hk
    cases hk
    cases hc
/-- What an iterator gives that may range over iterators. -/
def SeqO {α : Type} (P : Program) (g : Nat) (lb : Array Value) (encs : α → Array Value) (Kp : World → World → Prop) (S Sp : List α → Prop) (N : Nat) (w : World) : Prop :=
  ∀ (l : Nat) (J Jx : List α → World → Prop) (W : World), Below w.heap.size w W → OwnFrom W.heap.size J → OwnFrom W.heap.size Jx →
    (∀ pre x W1, J pre W1 → pre.length < N → YieldAt Fence.wide 7 P l (encs x) W1 fun e W' => (e = .returned (.bool true) ∧ J (pre ++ [x]) W' ∧ Kp W1 W' ∧ KeepsFrom W.heap.size W1 W') ∨ (e = .returned (.bool false) ∧ Jx (pre ++ [x]) W' ∧ KeepsFrom W.heap.size W1 W')) →
    J [] W → Calls P g (#[.func (.yield l) #[] #[]] ++ lb) W fun e W' => (∃ v, e = .returned v) ∧ ((∃ xs, S xs ∧ J xs W') ∨ (∃ pre, Sp pre ∧ Jx pre W'))
/-- A loop's record. -/
def recd (fn : FuncId) (tmps : Array Value) (ps : Array Tmp) (assign body : Code) (D : Nat) (st : LoopState) (pe : Option Code) : Loop := { state := st, pending := pe, fn, tmps, params := ps, assign, body, defers := D }
/-- The loop's two blocks: its record in a state, and an empty list of deferred calls. -/
structure Lp (D l : Nat) (r : Loop) (W : World) : Prop where
  lp : W.heap[l]? = some (.loop r)
  df : W.heap[D]? = some (.deferred (some []))
theorem Lp.lt {D l : Nat} {r : Loop} {W : World} (h : Lp D l r W) : D < W.heap.size ∧ l < W.heap.size := ⟨(Array.getElem?_eq_some_iff.1 h.df).1, (Array.getElem?_eq_some_iff.1 h.lp).1⟩
theorem Lp.ne {D l : Nat} {r : Loop} {W : World} (h : Lp D l r W) : D ≠ l := fun e => by
  have h1 := h.df
  rw [e, h.lp] at h1
  cases h1
theorem Lp.put {D l : Nat} {r : Loop} {W : World} (h : Lp D l r W) (r' : Loop) : Lp D l r' (W.putObj l (.loop r')) := ⟨World.putObj_heap_same h.lt.2, (World.putObj_heap_other h.ne).trans h.df⟩
theorem Lp.keeps {B D l : Nat} {r : Loop} {W W' : World} (h : Lp D l r W) (hD : B ≤ D) (hl : B ≤ l) (k : KeepsFrom B W W') : Lp D l r W' := ⟨k.same _ _ hl h.lp rfl, k.same _ _ hD h.df rfl⟩
theorem Lp.grown {B D l : Nat} {r : Loop} {W W' : World} {row : Option Nat} (h : Lp D l r W) (hD : D < B) (hl : l < B) (hg : W.grownBy W' row) (hr : ∀ q, row = some q → B ≤ q) : Lp D l r W' :=
  ⟨(hg.block l h.lt.2 (fun e => by have := hr l e.symm; omega)).trans h.lp, (hg.block D h.lt.1 (fun e => by have := hr D e.symm; omega)).trans h.df⟩
theorem keeps_more {B B' : Nat} {W W' : World} (h : KeepsFrom B W W') (hB : B ≤ B') : KeepsFrom B' W W' := ⟨h.size, fun k o hk ho hc => h.same k o (Nat.le_trans hB hk) ho hc⟩
theorem keeps_put {B : Nat} (W : World) (l : Nat) (o : Obj) (hl : l < B) : KeepsFrom B W (W.putObj l o) := KeepsFrom.of_grownBy (grownBy_putObj' W l o) (fun j e => by cases e; exact hl)
theorem wp_rangeFuncO {α : Type} {P : Program} {g : Operand} {ps : Array Tmp} {assign body : Code} {Q : Exit → Act → World → Prop} {a : Act} {w : World} {gf : Nat} {lb : Array Value} (hg : a.eval g = .func (.func gf) #[] lb) (eg : ∀ args w, (callFunc gf args).run P w = .ok (.enter gf args) w)
    {encs : α → Array Value} {Kp : World → World → Prop} {S Sp : List α → Prop} {N : Nat} (hseq : SeqO P gf lb encs Kp S Sp N w) (hKt : ∀ {A B C : World}, Kp A B → Kp B C → Kp A C)
    (hKb : ∀ (W : World) (l : Nat) (o o' : Obj), w.heap.size ≤ l → W.heap[l]? = some o → o.isCells = false → Kp W (W.putObj l o')) (hps : ∀ x, (encs x).size = ps.size)
    (I : List α → World → Prop) (Ix : Code → List α → World → Prop) (hI : OwnFrom w.heap.size I) (hIx : ∀ c, OwnFrom w.heap.size (Ix c)) (h0 : I [] w) (Ax : α → Act → World → Prop) (hAx : ∀ x a', OwnFrom w.heap.size (fun (_ : Unit) W => Ax x a' W))
    (hassign : ∀ (l : Nat) (pre : List α) (x : α) (W : World) (K : Act → World → Prop), I pre W → (∀ a' W', KeepsFrom w.heap.size W W' → Kp W W' → I pre W' → Ax x a' W' → K a' W') →
      assign.wpIn (Fence.wide.inRound l) 7 P (Exit.then K (fun _ _ _ => False)) { tmps := (ps.zip (encs x)).foldl (fun t (p, v) => t.setIfInBounds p v) a.tmps, defers := [] } W)
    (hbody : ∀ (l : Nat) (pre : List α) (x : α) (a' : Act) (W : World), w.heap.size ≤ l → (∃ r, W.heap[l]? = some (.loop r)) → I pre W → Ax x a' W → pre.length < N → body.wpIn (Fence.wide.inRound l) 7 P (ownPostG w.heap.size Kp I Ix (pre ++ [x]) W) a' W)
    (hdone : ∀ (D : Nat) (xs : List α) (W : World), w.heap.size ≤ D → S xs → I xs W → W.heap[D]? = some (.deferred (some [])) → Q .normal { a with defers := { target := .collected D, args := #[] } :: a.defers } W)
    (hstop : ∀ (D : Nat) (c : Code) (pre : List α) (W : World), w.heap.size ≤ D → Sp pre → Ix c pre W → W.heap[D]? = some (.deferred (some [])) → c.wp P Q { a with defers := { target := .collected D, args := #[] } :: a.defers } W) :
    (Code.rangeFunc g ps assign body).wp P Q a w := by
  refine (wpIn_wide (n := 9)).1 (wpIn_rangeFunc fun fn hfn => ?_)
  obtain ⟨D, hD⟩ : ∃ D, D = w.heap.size := ⟨_, rfl⟩
  obtain ⟨l, hl⟩ : ∃ l, l = w.heap.size + 1 := ⟨_, rfl⟩
  obtain ⟨r, hr⟩ : ∃ r, r = recd fn a.tmps ps assign body D := ⟨_, rfl⟩
  obtain ⟨W1, hW1⟩ : ∃ W1, W1 = (w.alloc (.deferred (some []))).alloc (.loop (r .ready none)) := ⟨_, rfl⟩
  have hsz : W1.heap.size = w.heap.size + 2 := by rw [hW1]; simp
  have hb1 : Below w.heap.size w W1 := by
    rw [hW1]
    exact below_alloc (below_alloc (Below.refl _ _) _) _
  have hp1 : Lp D l (r .ready none) W1 := by
    rw [hW1, hD, hl]
    refine ⟨?_, ?_⟩
    · have h := World.alloc_heap_new (w.alloc (.deferred (some []))) (.loop (r .ready none))
      rwa [World.size_alloc] at h
    · exact (Below.heap_alloc _ _ _ (by simp)).trans (World.alloc_heap_new w _)
  have hi1 : I [] W1 := by
    rw [hW1]
    exact hI.alloc _ (hI.alloc _ h0)
  have hDB : w.heap.size ≤ D := by omega
  have hlB : w.heap.size ≤ l := by omega
  refine ⟨l, [{ target := .collected D, args := #[] }], W1, { target := .fn (.func gf) lb, args := #[.func (.yield l) #[] #[]] }, W1, gf, #[.func (.yield l) #[] #[]] ++ lb, W1, ?_, ?_, fun _ _ => trivial, ?_, fun _ => by decide, ?_⟩
  · rw [hW1, hr, hD, hl]
    exact run_enterLoop_outer _ _ _ _ _
  · simp only [resolve, hg]
    simp [go_sem]
  · simp [invoke, go_sem, eg]
  · refine callsIn_wide.2 ((hseq l (fun pre W => I pre W ∧ Lp D l (r .ready none) W) (fun pre W => ∃ c, Ix c pre W ∧ Lp D l (r .done (some c)) W) W1 hb1 ?_ ?_ ?_ ⟨hi1, hp1⟩).mono ?_)
    · rintro s A B row ⟨h1, h2⟩ hgr hrow
      exact ⟨hI s A B row h1 hgr (fun q e => ⟨by have := (hrow q e).1; omega, (hrow q e).2⟩), h2.grown (B := W1.heap.size) (by omega) (by omega) hgr (fun q e => (hrow q e).1)⟩
    · rintro s A B row ⟨c, h1, h2⟩ hgr hrow
      exact ⟨c, hIx c s A B row h1 hgr (fun q e => ⟨by have := (hrow q e).1; omega, (hrow q e).2⟩), h2.grown (B := W1.heap.size) (by omega) (by omega) hgr (fun q e => (hrow q e).1)⟩
    · rintro pre x W ⟨hi, hp⟩ hlen
      have hy := run_yield (P := P) (args := encs x) hp.lp (by rw [hr]; exact hps x)
      have hy2 : (Instr.yield l (encs x)).run P W = .ok (.round l fn ((ps.zip (encs x)).foldl (fun t (p, v) => t.setIfInBounds p v) a.tmps) assign body) W := by
        rw [hr] at hy
        exact hy
      refine ⟨fn, _, assign, body, hy2, roundIn_of_wpIn (n := 7) hfn (hassign l pre x W _ hi fun a' W' hk hkp hi' hax => ?_)⟩
      have hp' := hp.keeps hDB hlB hk
      have hbeg : (Instr.beginRound l).run P W' = .ok () (W'.putObj l (.loop (r .busy none))) := by
        have h := run_beginRound (P := P) hp'.lp (by rw [hr]; rfl)
        rw [hr] at h ⊢
        exact h
      have hpb := hp'.put (r .busy none)
      refine ⟨_, hbeg, wpIn_mono (hbody l pre x a' _ hlB ⟨_, hpb.lp⟩ (hI.putObj _ hi' hlB hp'.lp rfl) ((hAx x a').putObj (s := ()) _ hax hlB hp'.lp rfl) hlen) ?_⟩
      have hkb : Kp W (W'.putObj l (.loop (r .busy none))) := hKt hkp (hKb _ _ _ _ hlB hp'.lp rfl)
      have out : ∀ (j : Option Code) (W3 : World), KeepsFrom w.heap.size (W'.putObj l (.loop (r .busy none))) W3 → Lp D l (r .busy none) W3 ∧ (Instr.endRound l j).run P W3 = .ok (.bool j.isNone) (W3.putObj l (.loop (r (if j.isNone then .ready else .done) j))) := fun j W3 hk3 => by
        have hp3 := hpb.keeps hDB hlB hk3
        refine ⟨hp3, ?_⟩
        have h := run_endRound (P := P) j hp3.lp
        rw [hr] at h ⊢
        exact h
      have keep : ∀ (W3 : World) (o : Obj), KeepsFrom w.heap.size (W'.putObj l (.loop (r .busy none))) W3 → KeepsFrom W1.heap.size W (W3.putObj l o) := fun W3 o hk3 =>
        (((keeps_more hk (by omega)).trans (keeps_put _ _ _ (by omega))).trans (keeps_more hk3 (by omega))).trans (keeps_put _ _ _ (by omega))
      intro e a3 W3 hpost
      cases e with
      | normal =>
        obtain ⟨hk3, hkp3, hi3⟩ := hpost
        obtain ⟨hp3, hrun⟩ := out none W3 hk3
        exact ⟨_, _, hrun, .inl ⟨rfl, ⟨hI.putObj _ hi3 hlB hp3.lp rfl, hp3.put _⟩, hKt (hKt hkb hkp3) (hKb _ _ _ _ hlB hp3.lp rfl), keep _ _ hk3⟩⟩
      | ret =>
        obtain ⟨hp3, hrun⟩ := out (some .ret) W3 hpost.1
        exact ⟨_, _, hrun, .inr ⟨rfl, ⟨.ret, (hIx _).putObj _ hpost.2 hlB hp3.lp rfl, hp3.put _⟩, keep _ _ hpost.1⟩⟩
      | exit i =>
        obtain ⟨hp3, hrun⟩ := out (some (.exit i)) W3 hpost.1
        exact ⟨_, _, hrun, .inr ⟨rfl, ⟨.exit i, (hIx _).putObj _ hpost.2 hlB hp3.lp rfl, hp3.put _⟩, keep _ _ hpost.1⟩⟩
      | goto t =>
        obtain ⟨hp3, hrun⟩ := out (some (.goto t)) W3 hpost.1
        exact ⟨_, _, hrun, .inr ⟨rfl, ⟨.goto t, (hIx _).putObj _ hpost.2 hlB hp3.lp rfl, hp3.put _⟩, keep _ _ hpost.1⟩⟩
      | panic ch => exact hpost.elim
      | outgrown => exact hpost.elim
    · have fin : ∀ (st : LoopState) (pe : Option Code) (W2 : World), st ≠ .busy → Lp D l (r st pe) W2 → (Instr.endLoop l).run P W2 = .ok pe (W2.putObj l (.loop (r .exhausted pe))) := fun st pe W2 hst hp2 => by
        have h := run_endLoop (P := P) hp2.lp (by rw [hr]; exact hst)
        rw [hr] at h ⊢
        exact h
      rintro e W2 ⟨⟨v, rfl⟩, ⟨xs, hS, hi, hp2⟩ | ⟨pre, hSp, c, hi, hp2⟩⟩
      · exact ⟨none, _, fin .ready none W2 (by decide) hp2, hdone D xs _ hDB hS (hI.putObj _ hi hlB hp2.lp rfl) (hp2.put _).df⟩
      · exact ⟨some c, _, fin .done (some c) W2 (by decide) hp2, wpIn_wide.2 (hstop D c pre _ hDB hSp ((hIx c).putObj _ hi hlB hp2.lp rfl) (hp2.put _).df)⟩
theorem wp_rangeFuncOF {α : Type} {P : Program} {g : Operand} {ps : Array Tmp} {assign body : Code} {Q : Exit → Act → World → Prop} {a : Act} {w : World} {gf : Nat} {lb : Array Value} (nb : List Nat) (ts : List TypeId) (hg : a.eval g = .func (.func gf) #[] lb) (eg : ∀ args w, (callFunc gf args).run P w = .ok (.enter gf args) w)
    {encs : α → Array Value} {S Sp : List α → Prop} {N : Nat} (hseq : SeqO P gf lb encs (Kc nb ts w.heap.size) S Sp N w) (hps : ∀ x, (encs x).size = ps.size)
    (I : List α → World → Prop) (Ix : Code → List α → World → Prop) (hI : OwnFrom w.heap.size I) (hIx : ∀ c, OwnFrom w.heap.size (Ix c)) (h0 : I [] w) (F : α → Nat → Act) (Bx : α → Nat → World → Prop) (hBx : ∀ x b, OwnFrom w.heap.size (fun (_ : Unit) W => Bx x b W))
    (hassign : ∀ (l : Nat) (pre : List α) (x : α) (W : World) (K : Act → World → Prop), I pre W → (∀ b W', KeepsFrom w.heap.size W W' → Kc nb ts w.heap.size W W' → I pre W' → Bx x b W' → K (F x b) W') →
      assign.wpIn (Fence.wide.inRound l) 7 P (Exit.then K (fun _ _ _ => False)) { tmps := (ps.zip (encs x)).foldl (fun t (p, v) => t.setIfInBounds p v) a.tmps, defers := [] } W)
    (hbody : ∀ (l : Nat) (pre : List α) (x : α) (b : Nat) (W : World), I pre W → Bx x b W → pre.length < N → body.wpIn (Fence.wide.inRound l) 7 P (ownPostG w.heap.size (Kc nb ts w.heap.size) I Ix (pre ++ [x]) W) (F x b) W)
    (hdone : ∀ (D : Nat) (xs : List α) (W : World), w.heap.size ≤ D → S xs → I xs W → W.heap[D]? = some (.deferred (some [])) → Q .normal { a with defers := { target := .collected D, args := #[] } :: a.defers } W)
    (hstop : ∀ (D : Nat) (c : Code) (pre : List α) (W : World), w.heap.size ≤ D → Sp pre → Ix c pre W → W.heap[D]? = some (.deferred (some [])) → c.wp P Q { a with defers := { target := .collected D, args := #[] } :: a.defers } W) :
    (Code.rangeFunc g ps assign body).wp P Q a w :=
  wp_rangeFuncO hg eg hseq (fun h k => h.trans k) (fun W l o o' h1 h2 h3 => kc_b W l o o' h1 h2 h3) hps I Ix hI hIx h0 (fun x a' W => ∃ b, a' = F x b ∧ Bx x b W) (fun x a' _ W W' row ⟨b, h1, h2⟩ hg hr => ⟨b, h1, hBx x b () W W' row h2 hg hr⟩)
    (fun l pre x W K h1 h2 => hassign l pre x W K h1 (fun b W' k1 k2 k3 k4 => h2 _ W' k1 k2 k3 ⟨b, rfl, k4⟩))
    (fun l pre x a' W _ _ h1 ⟨b, h2, h3⟩ h4 => by rw [h2]; exact hbody l pre x b W h1 h3 h4) hdone hstop
/-- Where no depth is asked the figures are all one. -/
theorem yieldAt_any {m m' : Nat} {P : Program} {l : Nat} {args : Array Value} {W : World} {R : Ending → World → Prop} (h : YieldAt Fence.wide m P l args W R) : YieldAt Fence.wide m' P l args W R := by
  obtain ⟨fn, tmps, assign, body, hy, h1, h2⟩ := h
  exact ⟨fn, tmps, assign, body, hy, h1, fun c cs _ => h2 c cs (room_wide _)⟩
theorem seqK_any {α : Type} {m m' : Nat} {P : Program} {g : Nat} {lb : Array Value} {encs : α → Array Value} {Kp : World → World → Prop} {S Sp : List α → Prop} {N : Nat} {w : World} (h : SeqStopsK Fence.wide m P g lb encs Kp S Sp N w) : SeqStopsK Fence.wide m' P g lb encs Kp S Sp N w :=
  fun l J Jx W hW hJ hJx hY h0 => callsIn_wide.2 (callsIn_wide.1 (h l J Jx W hW hJ hJx (fun pre x W1 h1 h2 => yieldAt_any (hY pre x W1 h1 h2)) h0))
/-- The law, in the plain walk, where the body holds a loop of this kind itself: it is told of its loop's record. -/
theorem wp_rangeFuncHK {α : Type} {P : Program} {g : Operand} {ps : Array Tmp} {assign body : Code} {Q : Exit → Act → World → Prop} {a : Act} {w : World} {gf : Nat} {lb : Array Value} (nb : List Nat) (ts : List TypeId) {B : Nat} (hB : B ≤ w.heap.size) (hg : a.eval g = .func (.func gf) #[] lb) (eg : ∀ args w, (callFunc gf args).run P w = .ok (.enter gf args) w)
    {encs : α → Array Value} {S Sp : List α → Prop} {N : Nat} (hseq : SeqStopsK Fence.wide 8 P gf lb encs (Kc nb ts B) S Sp N w) (hps : ∀ x, (encs x).size = ps.size)
    (I : List α → World → Prop) (Ix : Code → List α → World → Prop) (hI : OwnFrom w.heap.size I) (hIx : ∀ c, OwnFrom w.heap.size (Ix c)) (h0 : I [] w) (F : α → Nat → Act) (Bx : α → Nat → World → Prop) (hBx : ∀ x b, OwnFrom w.heap.size (fun (_ : Unit) W => Bx x b W))
    (hassign : ∀ (l : Nat) (pre : List α) (x : α) (W : World) (K : Act → World → Prop), I pre W → (∀ b W', KeepsFrom w.heap.size W W' → Kc nb ts B W W' → I pre W' → Bx x b W' → K (F x b) W') →
      assign.wpIn (Fence.wide.inRound l) 7 P (Exit.then K (fun _ _ _ => False)) { tmps := (ps.zip (encs x)).foldl (fun t (p, v) => t.setIfInBounds p v) a.tmps, defers := [] } W)
    (hbody : ∀ (l : Nat) (pre : List α) (x : α) (b : Nat) (W : World) (r : Loop), w.heap.size ≤ l → W.heap[l]? = some (.loop r) → I pre W → Bx x b W → pre.length < N → body.wpIn (Fence.wide.inRound l) 7 P (ownPostG w.heap.size (Kc nb ts B) I Ix (pre ++ [x]) W) (F x b) W)
    (hdone : ∀ (D : Nat) (xs : List α) (W : World), w.heap.size ≤ D → S xs → I xs W → W.heap[D]? = some (.deferred (some [])) → Q .normal { a with defers := { target := .collected D, args := #[] } :: a.defers } W)
    (hstop : ∀ (D : Nat) (c : Code) (pre : List α) (W : World), w.heap.size ≤ D → Sp pre → Ix c pre W → W.heap[D]? = some (.deferred (some [])) → c.wp P Q { a with defers := { target := .collected D, args := #[] } :: a.defers } W) :
    (Code.rangeFunc g ps assign body).wp P Q a w :=
  (wpIn_wide (n := 9)).1 (wpIn_rangeFunc_ownH (F := Fence.wide) (n := 9) rfl (by decide) hg trivial eg hseq (fun h k => h.trans k) (fun W l o o' h1 h2 h3 _ => kc_b W l o o' (Nat.le_trans hB h1) h2 h3) (Below.refl _ _) hps I Ix hI hIx h0
    (fun x a' W => ∃ b, a' = F x b ∧ Bx x b W) (fun x a' _ W W' row ⟨b, h1, h2⟩ hg hr => ⟨b, h1, hBx x b () W W' row h2 hg hr⟩)
    (fun l pre x W K h1 h2 => hassign l pre x W K h1 (fun b W' k1 k2 k3 k4 => h2 _ W' k1 k2 k3 ⟨b, rfl, k4⟩))
    (fun l pre x a' W hl ⟨r, hr⟩ h1 ⟨b, h2, h3⟩ h4 => by rw [h2]; exact hbody l pre x b W r hl hr h1 h3 h4) hdone
    (fun D c pre W h1 h2 h3 h4 => wpIn_wide.2 (hstop D c pre W h1 h2 h3 h4)))
/-- The law within a round of loop l₀. -/
theorem wpIn_rangeN {α : Type} {P : Program} {g : Operand} {ps : Array Tmp} {assign body : Code} {Q : Exit → Act → World → Prop} {a : Act} {w : World} {l₀ : Nat} {r₀ : Loop} (hl₀ : w.heap[l₀]? = some (.loop r₀)) {gf : Nat} {lb : Array Value} (nb : List Nat) (ts : List TypeId) {B : Nat} (hB : B ≤ w.heap.size) (hg : a.eval g = .func (.func gf) #[] lb) (eg : ∀ args w, (callFunc gf args).run P w = .ok (.enter gf args) w)
    {encs : α → Array Value} {S Sp : List α → Prop} {N : Nat} (hseq : SeqStopsK Fence.wide 8 P gf lb encs (Kc nb ts B) S Sp N w) (hps : ∀ x, (encs x).size = ps.size)
    (I : List α → World → Prop) (Ix : Code → List α → World → Prop) (hI : OwnFrom w.heap.size I) (hIx : ∀ c, OwnFrom w.heap.size (Ix c)) (h0 : I [] w) (a₁ : α → Act)
    (hassign : ∀ (l : Nat) (x : α) (W : World) (K : Act → World → Prop), K (a₁ x) W →
      assign.wpIn (Fence.wide.inRound l) 5 P (Exit.then K (fun _ _ _ => False)) { tmps := (ps.zip (encs x)).foldl (fun t (p, v) => t.setIfInBounds p v) a.tmps, defers := [] } W)
    (hbody : ∀ (l : Nat) (pre : List α) (x : α) (W : World), I pre W → pre.length < N → body.wpIn (Fence.wide.inRound l) 5 P (ownPostG w.heap.size (Kc nb ts B) I Ix (pre ++ [x]) W) (a₁ x) W)
    (hdone : ∀ (xs : List α) (W : World), S xs → I xs W → Q .normal a W)
    (hstop : ∀ (c : Code) (pre : List α) (W : World), Sp pre → Ix c pre W → c.wpIn (Fence.wide.inRound l₀) 7 P Q a W) :
    (Code.rangeFunc g ps assign body).wpIn (Fence.wide.inRound l₀) 7 P Q a w :=
  wpIn_rangeFunc_ownN (F := Fence.wide.inRound l₀) (n := 7) (l₀ := l₀) (r₀ := r₀) rfl hl₀ (by decide) hg trivial eg ((seqK_any (m' := 6) hseq).inRound l₀) (fun h k => h.trans k) (fun W l o o' h1 h2 h3 _ => kc_b W l o o' (Nat.le_trans hB h1) h2 h3) (Below.refl _ _) hps I Ix hI hIx h0
    (fun x a' _ => a' = a₁ x) (fun _ _ _ _ _ _ hs _ _ => hs) (fun l pre x W K h1 h2 => hassign l x W K (h2 _ _ (KeepsFrom.refl _ _) (Kc.refl _ _ _ _) h1 rfl))
    (fun l pre x a' W _ _ h1 e h4 => by subst e; exact hbody l pre x W h1 h4) hdone hstop
end Go.Proofs.YtacpjpkhmdcagaaGreat
namespace Go.Proofs.YtacpjpkhmdcagaaGreat
set_option linter.unusedVariables false
open Go.RowKit
section
variable {n : Nat} {P : Program} {ops : Array Oper} {Q : Exit → Act → World → Prop} {md : Region.Mode} {C : World → Prop}
theorem op_wide {o : Oper} {a : Act} {w : World} {K : Act → World → Prop} (hd : ∀ c, o.op ≠ .defer c) (h : o.wp P a w K Q) : o.wpIn Fence.wide n P a w K Q := by
  refine ⟨fun _ _ => trivial, ?_⟩
  rw [Oper.semAt_eq _ _ _ hd]
  unfold Oper.wp at h
  have hdep : Fence.wide.depth.isSome = true → 1 ≤ n := fun h => by simp [Fence.wide] at h
  generalize (execOp a.eval o).run P w = r at *
  cases r with
  | ok x w' =>
    cases x
    case value v => exact h
    case skip => exact h
    case defer d => exact h
    case enter f args => exact ⟨hdep, callsIn_wide.2 h⟩
    case row row args => exact ⟨hdep, fun c cs _ => (h c cs).elim fun v h => h.elim fun w2 h => ⟨v, w2, h.1, stepsIn_wide.2 h.2⟩⟩
    all_goals exact h.elim
  | halt x w' =>
    cases x <;> first | exact h | exact h.elim
theorem wpOp_wide {i : Nat} {K : Act → World → Prop} {a : Act} {w : World} (hc : calmB ops = true) (hQ : ¬ LetsOut Q) (h : wpOp P ops Q i K a w) : wpOpIn Fence.wide n P ops Q i K a w := by
  unfold wpOp at h
  unfold wpOpIn
  split
  · rename_i ho
    simp only [ho] at h
    exact h
  · rename_i o ho
    simp only [ho] at h
    split
    · rename_i hw
      rw [if_pos hw] at h
      rcases h with h | h
      · exact op_wide (calmB_spec hc ho) h
      · exact absurd h.2 hQ
    · rename_i hw
      rw [if_neg hw] at h
      exact ⟨fun _ _ => trivial, h⟩
theorem headQ_wpIn {k g : Nat} {L : Array Bool → Act → Prop} (hc : calmB ops = true) (hQ : ¬ LetsOut Q) (hL : ∀ done a w, C w → L done a → wpAnyIn Fence.wide n P md ops Q g done a w) :
    ∀ (f : Nat) (done : Array Bool) (a : Act) (w : World), C w → headQ P md ops C k L f done a → wpAnyIn Fence.wide n P md ops Q (f + g) done a w
  | 0, done, a, w, hw, h => by rw [Nat.zero_add]; exact hL _ _ _ hw h
  | f + 1, done, a, w, hw, h => by
    rw [show f + 1 + g = (f + g) + 1 by omega]
    exact ⟨fun h0 => absurd h0 h.1, fun i hi => wpOp_wide hc hQ (wpOp_of_qOp hw (fun a' w' hw' h' => headQ_wpIn hc hQ hL f _ a' w' hw' h') (h.2 i hi).2)⟩
theorem anyIn_of_seq {F : Fence} : ∀ (l : List Oper) (k : Nat) (listed : Array Bool) (a : Act) (w : World), (∀ j, l[j]? = ops[k + j]?) →
    Region.seqB md ops l.length k listed = true → wpListIn F n P ops Q l a w → wpAnyIn F n P md ops Q l.length listed a w
  | [], _, _, _, _, _, hB, h => ⟨by simpa [Region.seqB] using hB, h⟩
  | o :: l, k, listed, a, w, hl, hB, h => by
    have h0 : ops[k]? = some o := by simpa using (hl 0).symm
    simp only [List.length_cons, Region.seqB, Bool.and_eq_true, decide_eq_true_eq] at hB
    refine ⟨fun h1 => (by rw [hB.1] at h1; cases h1), fun i hi => ?_⟩
    rw [hB.1] at hi
    have hik : i = k := by simpa using hi
    subst hik
    have hw : wpOpIn F n P ops Q i (wpListIn F n P ops Q l) a w := by unfold wpOpIn; simp only [h0]; exact h
    exact wpOpIn_mono (fun a' w' h' => anyIn_of_seq l (i + 1) _ a' w' (fun j => by have := hl (j + 1); simpa [Nat.add_assoc, Nat.add_comm 1 j] using this) hB.2 h') hw
theorem wpIn_region_tail {id : Nat} {a : Act} {w : World} {l : List Oper} (k : Nat) (hm : P.follows .mixedOrders = true) (hcalm : calmB l.toArray = true) (hQ : ¬ LetsOut Q) (hB : Region.lexTailB .any l.toArray k = true) (hC : C { w with drawn := w.drawn + 1 })
    (h : wpQuiet P l.toArray C (fun a' => ∀ w', C w' → wpListIn Fence.wide n P l.toArray Q (l.drop k) a' w') (l.take k) a) : (Code.region id l.toArray true).wpIn Fence.wide n P Q a w := by
  simp only [Region.lexTailB, Bool.and_eq_true, decide_eq_true_eq] at hB
  obtain ⟨⟨⟨⟨hsel, hn⟩, hs⟩, hc⟩, hlex⟩ := hB
  have hn' : k < l.length := by simpa using hn
  have htl : (l.take k).length = k := by simp; omega
  have inv0 : HeadInv .any l.toArray k (Array.replicate l.toArray.size false) :=
    ⟨by simp, fun j oj _ hl => (by rw [getD_replicate_false] at hl; cases hl), fun t _ ht => getD_in (by simpa using ht) (getD_replicate_false _ _)⟩
  have H := headQ_lex (P := P) (C := C) (md := .any) (g := l.toArray.size - k) hsel hs hc hn (l.take k) 0 _ a (fun j hj => by
    rw [htl] at hj
    simp [hj]) (by omega) inv0 (by rw [htl]; exact hlex) h
  have K := headQ_wpIn (n := n) (Q := Q) (g := l.toArray.size - k) hcalm hQ (fun done a' w' hw' hL => by
    have := anyIn_of_seq (F := Fence.wide) (n := n) (P := P) (md := .any) (Q := Q) (l.drop k) k done a' w' (fun j => by simp [List.getElem?_drop]) (by simpa using hL.1) (hL.2 w' hw')
    simpa using this) _ _ a _ hC H
  rw [htl, show k + (l.toArray.size - k) = l.toArray.size by omega] at K
  exact wpIn_region_any hm K
theorem wpIn_region_below_tail {id : Nat} {a : Act} {w : World} {l : List Oper} (k : Nat) (hm : P.follows .mixedOrders = true) (hcalm : calmB l.toArray = true) (hQ : ¬ LetsOut Q) (hB : Region.lexTailB .any l.toArray k = true)
    (h : wpQuiet P l.toArray (fun w' => Ext w w') (fun a' => ∀ w', Below w.heap.size w w' → wpListIn Fence.wide n P l.toArray Q (l.drop k) a' w') (l.take k) a) : (Code.region id l.toArray true).wpIn Fence.wide n P Q a w :=
  wpIn_region_tail (C := fun w' => Ext w w') k hm hcalm hQ hB (Below.refl _ _).drew h
end
end Go.Proofs.YtacpjpkhmdcagaaGreat
namespace Go.Proofs.YtacpjpkhmdcagaaGreat
set_option linter.unusedVariables false
open Go.RowKit
section
variable {rl n : Nat} {P : Program} {ops : Array Oper} {Q : Exit → Act → World → Prop} {md : Region.Mode} {C : World → Prop}
theorem wpOp_rd {i : Nat} {K : Act → World → Prop} {a : Act} {w : World} (hc : calmB ops = true) (hQ : ¬ LetsOut Q) (h : wpOp P ops Q i K a w) : wpOpIn (Fence.wide.inRound rl) n P ops Q i K a w := by
  unfold wpOp at h
  unfold wpOpIn
  split
  · rename_i ho
    simp only [ho] at h
    exact h
  · rename_i o ho
    simp only [ho] at h
    split
    · rename_i hw
      rw [if_pos hw] at h
      rcases h with h | h
      · exact op_round (calmB_spec hc ho) h
      · exact absurd h.2 hQ
    · rename_i hw
      rw [if_neg hw] at h
      exact ⟨fun _ _ => trivial, h⟩
theorem headQ_rd {k g : Nat} {L : Array Bool → Act → Prop} (hc : calmB ops = true) (hQ : ¬ LetsOut Q) (hL : ∀ done a w, C w → L done a → wpAnyIn (Fence.wide.inRound rl) n P md ops Q g done a w) :
    ∀ (f : Nat) (done : Array Bool) (a : Act) (w : World), C w → headQ P md ops C k L f done a → wpAnyIn (Fence.wide.inRound rl) n P md ops Q (f + g) done a w
  | 0, done, a, w, hw, h => by rw [Nat.zero_add]; exact hL _ _ _ hw h
  | f + 1, done, a, w, hw, h => by
    rw [show f + 1 + g = (f + g) + 1 by omega]
    exact ⟨fun h0 => absurd h0 h.1, fun i hi => wpOp_rd hc hQ (wpOp_of_qOp hw (fun a' w' hw' h' => headQ_rd hc hQ hL f _ a' w' hw' h') (h.2 i hi).2)⟩
theorem rd_region_tail {id : Nat} {a : Act} {w : World} {l : List Oper} (k : Nat) (hm : P.follows .mixedOrders = true) (hcalm : calmB l.toArray = true) (hQ : ¬ LetsOut Q) (hB : Region.lexTailB .any l.toArray k = true) (hC : C { w with drawn := w.drawn + 1 })
    (h : wpQuiet P l.toArray C (fun a' => ∀ w', C w' → wpListIn (Fence.wide.inRound rl) n P l.toArray Q (l.drop k) a' w') (l.take k) a) : (Code.region id l.toArray true).wpIn (Fence.wide.inRound rl) n P Q a w := by
  simp only [Region.lexTailB, Bool.and_eq_true, decide_eq_true_eq] at hB
  obtain ⟨⟨⟨⟨hsel, hn⟩, hs⟩, hc⟩, hlex⟩ := hB
  have hn' : k < l.length := by simpa using hn
  have htl : (l.take k).length = k := by simp; omega
  have inv0 : HeadInv .any l.toArray k (Array.replicate l.toArray.size false) :=
    ⟨by simp, fun j oj _ hl => (by rw [getD_replicate_false] at hl; cases hl), fun t _ ht => getD_in (by simpa using ht) (getD_replicate_false _ _)⟩
  have H := headQ_lex (P := P) (C := C) (md := .any) (g := l.toArray.size - k) hsel hs hc hn (l.take k) 0 _ a (fun j hj => by
    rw [htl] at hj
    simp [hj]) (by omega) inv0 (by rw [htl]; exact hlex) h
  have K := headQ_rd (n := n) (Q := Q) (g := l.toArray.size - k) hcalm hQ (fun done a' w' hw' hL => by
    have := anyIn_of_seq (F := Fence.wide.inRound rl) (n := n) (P := P) (md := .any) (Q := Q) (l.drop k) k done a' w' (fun j => by simp [List.getElem?_drop]) (by simpa using hL.1) (hL.2 w' hw')
    simpa using this) _ _ a _ hC H
  rw [htl, show k + (l.toArray.size - k) = l.toArray.size by omega] at K
  exact wpIn_region_any hm K
theorem rd_region_below_tail {id : Nat} {a : Act} {w : World} {l : List Oper} (k : Nat) (hm : P.follows .mixedOrders = true) (hcalm : calmB l.toArray = true) (hQ : ¬ LetsOut Q) (hB : Region.lexTailB .any l.toArray k = true)
    (h : wpQuiet P l.toArray (fun w' => Ext w w') (fun a' => ∀ w', Below w.heap.size w w' → wpListIn (Fence.wide.inRound rl) n P l.toArray Q (l.drop k) a' w') (l.take k) a) : (Code.region id l.toArray true).wpIn (Fence.wide.inRound rl) n P Q a w :=
  rd_region_tail (C := fun w' => Ext w w') k hm hcalm hQ hB (Below.refl _ _).drew h
end
end Go.Proofs.YtacpjpkhmdcagaaGreat
