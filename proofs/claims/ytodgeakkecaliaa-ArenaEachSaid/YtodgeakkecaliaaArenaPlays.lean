/- This text proves ArenaPlays: whatever the input, the law returns true. It has no conditions. -/
import Derived.Test.YtodgeakkecaliaaArenaRef
import Derived.Test.YtodgeakkecaliaaArenaLaw
import Derived.Deep.RegionHeld3
namespace Go.Proofs.Ytodgeakkecaliaa
set_option linter.unusedVariables false
open Go.RowKit
namespace Are
set_option maxHeartbeats 1000000
set_option maxRecDepth 10000
structure Act where
  (kind slot : Int)
  o : Ord
def Act.cells (x : Act) : List Value := [.int .i64 x.kind, .int .i64 x.slot] ++ x.o.cells
def Act.arr (x : Act) : Array Value := x.cells.toArray
@[go_sem] theorem Act.arr_size (x : Act) : x.arr.size = 9 := rfl
@[go_sem] theorem Act.arr_0 (x : Act) : x.arr[0]? = some (.int .i64 x.kind) := rfl
@[go_sem] theorem Act.arr_1 (x : Act) : x.arr[1]? = some (.int .i64 x.slot) := rfl
theorem Act.range {w : World} {b : Nat} {t : TypeId} {x : Act} (h : Blk w b t x.arr) : w.rangeAt b 2 x.o.cells := fun j v hv => by
  rw [h.cell, ← hv]
  show (x.cells.toArray)[2 + j]? = _
  rw [List.getElem?_toArray]
  unfold Act.cells
  rw [List.getElem?_append_right (by simp)]
  simp
/-- Both arenas lie there, and go along. -/
structure Both (w : World) (g h bo bt n : Nat) (s : St) (r : Rs) (A : Option Addr) (cap : Nat) (co ct : Array Value) : Prop where
  ar : Ar w g s
  rf : Rf w h bo bt r A cap co ct
  sim : Sim s r
  hn : r.n = n
  far : ∀ x, A = some x → x.block ≠ g
  ne : g ≠ h ∧ g ≠ bo ∧ g ≠ bt
def ActPost (w : World) (g h bo bt n m : Nat) (e : Ending) (w' : World) : Prop :=
  e = .returned (.bool true) ∧ (∃ s r A cap co ct, Both w' g h bo bt n s r A cap co ct ∧ r.d.length ≤ m) ∧ ButL [g, h, bo, bt] w.heap.size w w'
theorem Both.lt {w : World} {g h bo bt n : Nat} {s : St} {r : Rs} {A : Option Addr} {cap : Nat} {co ct : Array Value} (b : Both w g h bo bt n s r A cap co ct) : g < w.heap.size ∧ h < w.heap.size ∧ bo < w.heap.size ∧ bt < w.heap.size :=
  ⟨b.ar.lt, b.rf.hd.lt, b.rf.fbo.lt, b.rf.fbt.lt⟩
theorem Both.ext {w w' : World} {g h bo bt n : Nat} {s : St} {r : Rs} {A : Option Addr} {cap : Nat} {co ct : Array Value} (b : Both w g h bo bt n s r A cap co ct) (hb : Below w.heap.size w w') : Both w' g h bo bt n s r A cap co ct :=
  ⟨b.ar.ext hb, b.rf.ext hb, b.sim, b.hn, b.far, b.ne⟩
/-- The document's arena abides a turn of the program's. -/
theorem Both.rbut {w w' : World} {g h bo bt n : Nat} {s : St} {r : Rs} {A : Option Addr} {cap : Nat} {co ct : Array Value} (b : Both w g h bo bt n s r A cap co ct) (hb : But g w.heap.size w w') : Rf w' h bo bt r A cap co ct :=
  b.rf.keep hb.size (fun x hx => by
    obtain ⟨n1, n2, n3⟩ := b.ne
    rcases hx with rfl | rfl | rfl | ⟨a, e, rfl⟩
    · exact hb.block _ b.rf.hd.lt (Ne.symm n1)
    · exact hb.block _ b.rf.fbo.lt (Ne.symm n2)
    · exact hb.block _ b.rf.fbt.lt (Ne.symm n3)
    · exact hb.block _ (b.rf.far a e).2.2.2 (b.far a e))
theorem butL_of {g h bo bt : Nat} {w w1 w2 : World} (h1 : But g w.heap.size w w1) (h2 : ButL [h, bo, bt] w1.heap.size w1 w2) : ButL [g, h, bo, bt] w.heap.size w w2 :=
  ⟨h2.os.trans h1.os, h2.tape.trans h1.tape, h2.output.trans h1.output, Nat.le_trans h1.size h2.size, fun k hk hn => by
    simp only [List.mem_cons, not_or] at hn
    rw [h2.block k (by have := h1.size; omega) (by simp only [List.mem_cons, not_or]; exact hn.2), h1.block k hk hn.1]⟩
theorem ButL.pre {l : List Nat} {B : Nat} {w w1 w2 : World} (h : Below w.heap.size w w1) (hB : B ≤ w.heap.size) (k : ButL l w1.heap.size w1 w2) : ButL l B w w2 :=
  ⟨k.os.trans h.os, k.tape.trans h.tape, k.output.trans h.output, Nat.le_trans h.size k.size, fun i hi hn => (k.block i (by have := h.size; omega) hn).trans (h.block i (by omega))⟩
theorem ButL.post {l : List Nat} {B : Nat} {w w1 w2 : World} (h : ButL l B w w1) (hB : B ≤ w1.heap.size) (k : Below w1.heap.size w1 w2) : ButL l B w w2 := h.ext hB k

theorem rtake_any {w : World} {h bo bt : Nat} {r : Rs} {A : Option Addr} {cap : Nat} {co ct : Array Value} (f : Rf w h bo bt r A cap co ct) {k : Nat} {l : List Nat} (hf : r.free = k :: l) (hk : k < r.n) (x : Ord) :
    ∃ d next, (d.reverse ++ List.range' next (r.n - next) = l ∧ next ≤ r.n ∧ d.length ≤ r.d.length) ∧ Calls Try.prog 37 #[.pointer (some ⟨h, 0, none⟩), .agg x.arr] w fun e w' => e = .returned (.tuple #[.int .i64 k, .int .i64 0]) ∧ (∃ co' ct', Rf w' h bo bt (r.take k x d next) A cap co' ct') ∧ ButL [h, bo, bt] w.heap.size w w' := by
  cases hd : r.d.reverse with
  | nil =>
    have hd' : r.d = [] := by simpa using hd
    have hf' : List.range' r.next (r.n - r.next) = k :: l := by
      have := hf
      unfold Rs.free at this
      rw [hd] at this
      exact this
    obtain ⟨m, hm⟩ : ∃ m, r.n - r.next = m + 1 := ⟨r.n - r.next - 1, by
      have : r.n - r.next ≠ 0 := fun e => by rw [e] at hf'; simp at hf'
      omega⟩
    rw [hm, List.range'_succ] at hf'
    injection hf' with h1 h2
    subst h1
    refine ⟨[], r.next + 1, ⟨?_, by omega, Nat.zero_le _⟩, rtake_next h bo bt r A cap co ct x w f hd' (by omega)⟩
    rw [← h2, show r.n - (r.next + 1) = m by omega]
    rfl
  | cons y t =>
    have hd' : r.d = t.reverse ++ [y] := by
      have := congrArg List.reverse hd
      simpa using this
    have hf' : y :: (t ++ List.range' r.next (r.n - r.next)) = k :: l := by
      have := hf
      unfold Rs.free at this
      rw [hd] at this
      exact this
    injection hf' with h1 h2
    subst h1
    exact ⟨t.reverse, r.next, ⟨by rw [List.reverse_reverse]; exact h2, f.next, by rw [hd']; simp⟩, rtake_back h bo bt r A cap co ct x w f t.reverse y hd' hk⟩
theorem rtake_none {w : World} {h bo bt : Nat} {r : Rs} {A : Option Addr} {cap : Nat} {co ct : Array Value} (f : Rf w h bo bt r A cap co ct) (hf : r.free = []) (x : Ord) :
    Calls Try.prog 37 #[.pointer (some ⟨h, 0, none⟩), .agg x.arr] w fun e w' => e = .returned (.tuple #[.int .i64 0, .int .i64 7]) ∧ Below w.heap.size w w' := by
  unfold Rs.free at hf
  obtain ⟨h1, h2⟩ := List.append_eq_nil_iff.1 hf
  refine rtake_full h bo bt r A cap co ct x w f (by simpa using h1) ?_
  have h3 : r.n - r.next = 0 := by
    have := congrArg List.length h2
    simpa using this
  have := f.next
  omega
theorem act_take (x : Act) {w : World} {g h bo bt n : Nat} {s : St} {r : Rs} {A : Option Addr} {cap : Nat} {co ct : Array Value} (b : Both w g h bo bt n s r A cap co ct) (h0 : x.kind = 0) (m : Nat) (hm : r.d.length ≤ m) :
    Calls Try.prog 16 #[.pointer (some ⟨g, 0, none⟩), .pointer (some ⟨h, 0, none⟩), .agg x.arr] w (ActPost w g h bo bt n m) := by
  have hb1 : Below w.heap.size w (w.alloc (.cells x.arr 42)) := by (repeat (first | with_reducible exact Below.refl _ _ | (with_reducible assumption) | (with_reducible refine below_alloc ?_ _) | (with_reducible refine below_ext (w1 := ?_) ?_ ?_; rotate_left 2; (with_reducible assumption)) | (with_reducible refine Below.setCell ?_ ?_ _; rotate_left; ((try simp) <;> omega)) | (with_reducible refine Below.drew ?_) | (with_reducible refine below_drewN ?_ _) | fail))
  have b1 := b.ext hb1
  have hX : Blk (w.alloc (.cells x.arr 42)) w.heap.size 42 x.arr := Blk.new _ _ _ _ rfl
  have hrx := Act.range hX
  have hlt := b.lt
  have hk0 : (x.kind == 0) = true := by simp [h0]
  have hlim := b.rf.n
  have hu := b.sim.used
  have hcl := cnt_le r.t r.n
  cases hf : r.free with
  | nil =>
    have hs : s.free = -1 := by have := b.sim.chain; rw [hf] at this; exact this
    have HT := Lib.hid (take_full g s x.o _ b1.ar hs)
    have HF := Lib.hid hf
    clear h0 hs hf hu
    go_enter Try.func16, Try.ntmps16
    go_wp2_with (first | (refine wpList_load_mid (by rfl) _ _ (by rfl) _ _ (by rfl) _ _ hrx Try.underlying32 rfl (by kernel_rfl) ?_) | fail)
    refine HT.out.mono ?_
    rintro e w2 ⟨rfl, hb2⟩
    have b2 := b1.ext hb2
    have hrx2 := Act.range (hX.ext hb2)
    go_wp2_with (first | (refine wpList_load_mid (by rfl) _ _ (by rfl) _ _ (by rfl) _ _ hrx2 Try.underlying32 rfl (by kernel_rfl) ?_) | fail)
    refine (rtake_none b2.rf HF.out x.o).mono ?_
    rintro e w3 ⟨rfl, hb3⟩
    go_wp2_with fail
    go_ret
    exact ⟨rfl, ⟨_, _, _, _, _, _, b2.ext hb3, hm⟩, ButL.of_below (by (repeat (first | with_reducible exact Below.refl _ _ | (with_reducible assumption) | (with_reducible refine below_alloc ?_ _) | (with_reducible refine below_ext (w1 := ?_) ?_ ?_; rotate_left 2; (with_reducible assumption)) | (with_reducible refine Below.setCell ?_ ?_ _; rotate_left; ((try simp) <;> omega)) | (with_reducible refine Below.drew ?_) | (with_reducible refine below_drewN ?_ _) | fail)))⟩
  | cons k l =>
    have hmem := (b.sim.mem k).1 (by rw [hf]; simp)
    have hs : s.free = k := by have := b.sim.chain; rw [hf] at this; exact this.1
    have HT := Lib.hid (take_any g s k x.o _ b1.ar hs (by omega) ⟨by omega, by omega⟩)
    have HF := Lib.hid hf
    clear h0 hs hf hu
    go_enter Try.func16, Try.ntmps16
    go_wp2_with (first | (refine wpList_load_mid (by rfl) _ _ (by rfl) _ _ (by rfl) _ _ hrx Try.underlying32 rfl (by kernel_rfl) ?_) | fail)
    refine HT.out.mono ?_
    rintro e w2 ⟨rfl, hA2, hu2⟩
    have f2 := b1.rbut hu2
    have hX2 := hX.but hu2 (by omega)
    have hrx2 := Act.range hX2
    obtain ⟨d, next, ⟨hl, hn, hdl⟩, HR⟩ := rtake_any f2 HF.out hmem.1 x.o
    have HR' := Lib.hid HR
    clear HR
    go_wp2_with (first | (refine wpList_load_mid (by rfl) _ _ (by rfl) _ _ (by rfl) _ _ hrx2 Try.underlying32 rfl (by kernel_rfl) ?_) | fail)
    refine HR'.out.mono ?_
    rintro e w3 ⟨rfl, ⟨co', ct', f3⟩, hu3⟩
    go_wp2_with fail
    go_ret
    have hne := b.ne
    refine ⟨rfl, ⟨_, _, _, _, _, _, ⟨hA2.butL hu3 (by simp; omega), f3, b.sim.take HF.out x.o d next hl hn, b.hn, b.far, b.ne⟩, by show d.length ≤ m; omega⟩, ButL.pre hb1 (Nat.le_refl _) (butL_of hu2 hu3)⟩
theorem has_yes {r : Rs} {n : Int} (h : r.has n = true) : ∃ k : Nat, n = k ∧ k < r.n ∧ r.t k = true := by
  unfold Rs.has at h
  simp only [Bool.and_eq_true, decide_eq_true_eq] at h
  exact ⟨n.toNat, by omega, by omega, h.2⟩
theorem act_drop (x : Act) {w : World} {g h bo bt n : Nat} {s : St} {r : Rs} {A : Option Addr} {cap : Nat} {co ct : Array Value} (b : Both w g h bo bt n s r A cap co ct) (h0 : x.kind = 1) (m : Nat) (hm : r.d.length ≤ m) (hm5 : m < 500) :
    Calls Try.prog 16 #[.pointer (some ⟨g, 0, none⟩), .pointer (some ⟨h, 0, none⟩), .agg x.arr] w (ActPost w g h bo bt n (m + 1)) := by
  have hb1 : Below w.heap.size w (w.alloc (.cells x.arr 42)).drew := by (repeat (first | with_reducible exact Below.refl _ _ | (with_reducible assumption) | (with_reducible refine below_alloc ?_ _) | (with_reducible refine below_ext (w1 := ?_) ?_ ?_; rotate_left 2; (with_reducible assumption)) | (with_reducible refine Below.setCell ?_ ?_ _; rotate_left; ((try simp) <;> omega)) | (with_reducible refine Below.drew ?_) | (with_reducible refine below_drewN ?_ _) | fail))
  have b1 := b.ext hb1
  have hX : Blk (w.alloc (.cells x.arr 42)).drew w.heap.size 42 x.arr := (Blk.new _ _ _ _ rfl).drew
  have hlt := b.lt
  have hk0 : (x.kind == 0) = false := by simp [h0]
  have hk1 : (x.kind == 1) = true := by simp [h0]
  have hlim := b.rf.n
  have hc1 : (w.alloc (.cells x.arr 42)).cell? ⟨w.heap.size, 1, none⟩ = some (.int .i64 x.slot) := hX.cell 1
  cases hf : r.has x.slot with
  | false =>
    have HA : Hid (∀ W, Ar W g s → Calls Try.prog 22 #[.pointer (some ⟨g, 0, none⟩), .int .i64 x.slot] W fun e w' => e = .returned (.bool false) ∧ Below W.heap.size W w') :=
      Lib.hid (fun W hW => drop_no g s x.slot W hW (by rw [b.sim.size]; omega) (by rw [b.sim.has]; exact hf))
    have HF := Lib.hid hf
    clear h0 hf
    go_enter Try.func16, Try.ntmps16
    go_wp2_with fail
    go_region_with (first | (go_at_call 22; refine (HA.out _ (b1.ar.ext (by (repeat (first | with_reducible exact Below.refl _ _ | (with_reducible assumption) | (with_reducible refine below_alloc ?_ _) | (with_reducible refine below_ext (w1 := ?_) ?_ ?_; rotate_left 2; (with_reducible assumption)) | (with_reducible refine Below.setCell ?_ ?_ _; rotate_left; ((try simp) <;> omega)) | (with_reducible refine Below.drew ?_) | (with_reducible refine below_drewN ?_ _) | fail))))).mono ?_; rintro e w2 ⟨rfl, hb2⟩; have b2 := b1.ext hb2; have hc2 : w2.cell? ⟨w.heap.size, 1, none⟩ = some (.int .i64 x.slot) := (hX.ext hb2).cell 1) | (go_at_call 38; refine (rdrop_no h bo bt r A cap co ct x.slot _ b2.rf HF.out).mono ?_; rintro e w3 ⟨rfl, hb3⟩))
    all_goals go_wp2_with fail
    all_goals go_ret
    all_goals exact ⟨rfl, ⟨_, _, _, _, _, _, b2.ext hb3, by omega⟩, ButL.of_below (by (repeat (first | with_reducible exact Below.refl _ _ | (with_reducible assumption) | (with_reducible refine below_alloc ?_ _) | (with_reducible refine below_ext (w1 := ?_) ?_ ?_; rotate_left 2; (with_reducible assumption)) | (with_reducible refine Below.setCell ?_ ?_ _; rotate_left; ((try simp) <;> omega)) | (with_reducible refine Below.drew ?_) | (with_reducible refine below_drewN ?_ _) | fail)))⟩
  | true =>
    obtain ⟨k, hsl, hkn, hkt⟩ := has_yes hf
    have hnx := (b.sim.tk k hkn).2 hkt
    have hcp := cnt_off r.t k r.n hkn hkt
    have hcl := cnt_le r.t r.n
    have hus := b.sim.used
    have HA : Hid (∀ W, Ar W g s → Calls Try.prog 22 #[.pointer (some ⟨g, 0, none⟩), .int .i64 x.slot] W fun e w' => e = .returned (.bool true) ∧ Ar w' g (dropS s k) ∧ But g W.heap.size W w') :=
      Lib.hid (fun W hW => by rw [hsl]; exact drop_yes g s k W hW (by rw [b.sim.size]; omega) (by rw [b.sim.size]; exact hkn) hnx ⟨by omega, by omega⟩)
    have HR : Hid (∀ W, Rf W h bo bt r A cap co ct → Calls Try.prog 38 #[.pointer (some ⟨h, 0, none⟩), .int .i64 x.slot] W fun e w' => e = .returned (.bool true) ∧ (∃ A' cap' co' ct', Rf w' h bo bt (r.drop k) A' cap' co' ct' ∧ ∀ a, A' = some a → W.heap.size ≤ a.block) ∧ ButL [h, bo, bt] W.heap.size W w') :=
      Lib.hid (fun W hW => by rw [hsl]; exact rdrop_yes h bo bt r A cap co ct k W hW hkn hkt (by omega))
    clear h0 hf hsl hus hnx
    have HK := Lib.hid hkt
    clear hkt
    go_enter Try.func16, Try.ntmps16
    go_wp2_with fail
    go_region_with (first | (go_at_call 22; refine (HA.out _ (b1.ar.ext (by (repeat (first | with_reducible exact Below.refl _ _ | (with_reducible assumption) | (with_reducible refine below_alloc ?_ _) | (with_reducible refine below_ext (w1 := ?_) ?_ ?_; rotate_left 2; (with_reducible assumption)) | (with_reducible refine Below.setCell ?_ ?_ _; rotate_left; ((try simp) <;> omega)) | (with_reducible refine Below.drew ?_) | (with_reducible refine below_drewN ?_ _) | fail))))).mono ?_; rintro e w2 ⟨rfl, hA2, hu2⟩; have f2 := b1.rbut hu2; have hc2 : w2.cell? ⟨w.heap.size, 1, none⟩ = some (.int .i64 x.slot) := (hX.but hu2 (by omega)).cell 1) | (go_at_call 38; refine (HR.out _ f2).mono ?_; rintro e w3 ⟨rfl, ⟨A', cap', co', ct', f3, hfar⟩, hu3⟩))
    all_goals go_wp2_with fail
    all_goals go_ret
    all_goals
      have hne := b.ne
      have hsz := hu2.size
      have hsz1 := hb1.size
      exact ⟨rfl, ⟨_, _, _, _, _, _, ⟨hA2.butL hu3 (by simp; omega), f3, b.sim.drop hkn HK.out, b.hn, fun a e => by have := hfar a e; omega, b.ne⟩, by show (r.d ++ [k]).length ≤ m + 1; simp; omega⟩, ButL.pre hb1 (Nat.le_refl _) (butL_of hu2 hu3)⟩
theorem act_set (x : Act) {w : World} {g h bo bt n : Nat} {s : St} {r : Rs} {A : Option Addr} {cap : Nat} {co ct : Array Value} (b : Both w g h bo bt n s r A cap co ct) (h0 : x.kind = 2) (m : Nat) (hm : r.d.length ≤ m) :
    Calls Try.prog 16 #[.pointer (some ⟨g, 0, none⟩), .pointer (some ⟨h, 0, none⟩), .agg x.arr] w (ActPost w g h bo bt n m) := by
  have hb1 : Below w.heap.size w (w.alloc (.cells x.arr 42)).drew := by (repeat (first | with_reducible exact Below.refl _ _ | (with_reducible assumption) | (with_reducible refine below_alloc ?_ _) | (with_reducible refine below_ext (w1 := ?_) ?_ ?_; rotate_left 2; (with_reducible assumption)) | (with_reducible refine Below.setCell ?_ ?_ _; rotate_left; ((try simp) <;> omega)) | (with_reducible refine Below.drew ?_) | (with_reducible refine below_drewN ?_ _) | fail))
  have b1 := b.ext hb1
  have hX : Blk (w.alloc (.cells x.arr 42)).drew w.heap.size 42 x.arr := (Blk.new _ _ _ _ rfl).drew
  have hlt := b.lt
  have hk0 : (x.kind == 0) = false := by simp [h0]
  have hk1 : (x.kind == 1) = false := by simp [h0]
  have hk2 : (x.kind == 2) = true := by simp [h0]
  have hlim := b.rf.n
  have hc1 : (w.alloc (.cells x.arr 42)).cell? ⟨w.heap.size, 1, none⟩ = some (.int .i64 x.slot) := hX.cell 1
  cases hf : r.has x.slot with
  | false =>
    have HA : Hid (∀ W, Ar W g s → Calls Try.prog 23 #[.pointer (some ⟨g, 0, none⟩), .int .i64 x.slot, .agg (x.o).arr] W fun e w' => e = .returned (.bool false) ∧ Below W.heap.size W w') :=
      Lib.hid (fun W hW => set_no g s x.slot x.o W hW (by rw [b.sim.size]; omega) (by rw [b.sim.has]; exact hf))
    have HF := Lib.hid hf
    clear h0 hf
    go_enter Try.func16, Try.ntmps16
    go_wp2_with fail
    go_region_held3 (fun w' => w'.cell? ⟨w.heap.size, 1, none⟩ = some (.int .i64 x.slot) ∧ w'.cell? ⟨w.heap.size, 2, none⟩ = some (.int .i64 x.o.id) ∧ w'.cell? ⟨w.heap.size, 3, none⟩ = some (.int .i64 x.o.owner) ∧ w'.cell? ⟨w.heap.size, 4, none⟩ = some (.int .i64 x.o.side) ∧ w'.cell? ⟨w.heap.size, 5, none⟩ = some (.int .i64 x.o.price) ∧ w'.cell? ⟨w.heap.size, 6, none⟩ = some (.int .i64 x.o.qty) ∧ w'.cell? ⟨w.heap.size, 7, none⟩ = some (.int .i64 x.o.flags) ∧ w'.cell? ⟨w.heap.size, 8, none⟩ = some (.int .i64 x.o.seq)) (first | exact ⟨hX.cell 1, hX.cell 2, hX.cell 3, hX.cell 4, hX.cell 5, hX.cell 6, hX.cell 7, hX.cell 8⟩ | exact ⟨hX2.cell 1, hX2.cell 2, hX2.cell 3, hX2.cell 4, hX2.cell 5, hX2.cell 6, hX2.cell 7, hX2.cell 8⟩ | exact ⟨hX3.cell 1, hX3.cell 2, hX3.cell 3, hX3.cell 4, hX3.cell 5, hX3.cell 6, hX3.cell 7, hX3.cell 8⟩) (first | (go_at_call 23; refine (HA.out _ (b1.ar.ext (by (repeat (first | with_reducible exact Below.refl _ _ | (with_reducible assumption) | (with_reducible refine below_alloc ?_ _) | (with_reducible refine below_ext (w1 := ?_) ?_ ?_; rotate_left 2; (with_reducible assumption)) | (with_reducible refine Below.setCell ?_ ?_ _; rotate_left; ((try simp) <;> omega)) | (with_reducible refine Below.drew ?_) | (with_reducible refine below_drewN ?_ _) | fail))))).mono ?_; rintro e w2 ⟨rfl, hb2⟩; have b2 := b1.ext hb2; have hX2 := hX.ext hb2) | (go_at_call 39; refine (rset_no h bo bt r A cap co ct x.slot x.o _ b2.rf HF.out).mono ?_; rintro e w3 ⟨rfl, hb3⟩; have hX3 := hX2.ext hb3))
    all_goals go_wp2_with fail
    all_goals go_ret
    all_goals exact ⟨rfl, ⟨_, _, _, _, _, _, b2.ext hb3, hm⟩, ButL.of_below (by (repeat (first | with_reducible exact Below.refl _ _ | (with_reducible assumption) | (with_reducible refine below_alloc ?_ _) | (with_reducible refine below_ext (w1 := ?_) ?_ ?_; rotate_left 2; (with_reducible assumption)) | (with_reducible refine Below.setCell ?_ ?_ _; rotate_left; ((try simp) <;> omega)) | (with_reducible refine Below.drew ?_) | (with_reducible refine below_drewN ?_ _) | fail)))⟩
  | true =>
    obtain ⟨k, hsl, hkn, hkt⟩ := has_yes hf
    have hnx := (b.sim.tk k hkn).2 hkt
    have HA : Hid (∀ W, Ar W g s → Calls Try.prog 23 #[.pointer (some ⟨g, 0, none⟩), .int .i64 x.slot, .agg (x.o).arr] W fun e w' => e = .returned (.bool true) ∧ Ar w' g (setS s k x.o) ∧ But g W.heap.size W w') :=
      Lib.hid (fun W hW => by rw [hsl]; exact set_yes g s k x.o W hW (by rw [b.sim.size]; omega) (by rw [b.sim.size]; exact hkn) hnx)
    have HR : Hid (∀ W, Rf W h bo bt r A cap co ct → Calls Try.prog 39 #[.pointer (some ⟨h, 0, none⟩), .int .i64 x.slot, .agg (x.o).arr] W fun e w' => e = .returned (.bool true) ∧ (∃ co' ct', Rf w' h bo bt (r.set k x.o) A cap co' ct') ∧ ButL [h, bo, bt] W.heap.size W w') :=
      Lib.hid (fun W hW => by rw [hsl]; exact rset_yes h bo bt r A cap co ct k x.o W hW hkn hkt)
    clear h0 hf hsl hnx hkt
    have hne := b.ne
    go_enter Try.func16, Try.ntmps16
    go_wp2_with fail
    go_region_held3 (fun w' => w'.cell? ⟨w.heap.size, 1, none⟩ = some (.int .i64 x.slot) ∧ w'.cell? ⟨w.heap.size, 2, none⟩ = some (.int .i64 x.o.id) ∧ w'.cell? ⟨w.heap.size, 3, none⟩ = some (.int .i64 x.o.owner) ∧ w'.cell? ⟨w.heap.size, 4, none⟩ = some (.int .i64 x.o.side) ∧ w'.cell? ⟨w.heap.size, 5, none⟩ = some (.int .i64 x.o.price) ∧ w'.cell? ⟨w.heap.size, 6, none⟩ = some (.int .i64 x.o.qty) ∧ w'.cell? ⟨w.heap.size, 7, none⟩ = some (.int .i64 x.o.flags) ∧ w'.cell? ⟨w.heap.size, 8, none⟩ = some (.int .i64 x.o.seq)) (first | exact ⟨hX.cell 1, hX.cell 2, hX.cell 3, hX.cell 4, hX.cell 5, hX.cell 6, hX.cell 7, hX.cell 8⟩ | exact ⟨hX2.cell 1, hX2.cell 2, hX2.cell 3, hX2.cell 4, hX2.cell 5, hX2.cell 6, hX2.cell 7, hX2.cell 8⟩ | exact ⟨hX3.cell 1, hX3.cell 2, hX3.cell 3, hX3.cell 4, hX3.cell 5, hX3.cell 6, hX3.cell 7, hX3.cell 8⟩) (first | (go_at_call 23; refine (HA.out _ (b1.ar.ext (by (repeat (first | with_reducible exact Below.refl _ _ | (with_reducible assumption) | (with_reducible refine below_alloc ?_ _) | (with_reducible refine below_ext (w1 := ?_) ?_ ?_; rotate_left 2; (with_reducible assumption)) | (with_reducible refine Below.setCell ?_ ?_ _; rotate_left; ((try simp) <;> omega)) | (with_reducible refine Below.drew ?_) | (with_reducible refine below_drewN ?_ _) | fail))))).mono ?_; rintro e w2 ⟨rfl, hA2, hu2⟩; have f2 := b1.rbut hu2; have hX2 := hX.but hu2 (by omega); have hl2 := hX2.lt) | (go_at_call 39; refine (HR.out _ f2).mono ?_; rintro e w3 ⟨rfl, ⟨co', ct', f3⟩, hu3⟩; have hX3 := hX2.butL hu3 (by simp; omega)))
    all_goals go_wp2_with fail
    all_goals go_ret
    all_goals exact ⟨rfl, ⟨_, _, _, _, _, _, ⟨hA2.butL hu3 (by simp; omega), f3, b.sim.set x.o, b.hn, b.far, b.ne⟩, hm⟩, ButL.pre hb1 (Nat.le_refl _) (butL_of hu2 hu3)⟩
theorem act_get (x : Act) {w : World} {g h bo bt n : Nat} {s : St} {r : Rs} {A : Option Addr} {cap : Nat} {co ct : Array Value} (b : Both w g h bo bt n s r A cap co ct) (h0 : x.kind ≠ 0 ∧ x.kind ≠ 1 ∧ x.kind ≠ 2) (m : Nat) (hm : r.d.length ≤ m) :
    Calls Try.prog 16 #[.pointer (some ⟨g, 0, none⟩), .pointer (some ⟨h, 0, none⟩), .agg x.arr] w (ActPost w g h bo bt n m) := by
  have hb1 : Below w.heap.size w (w.alloc (.cells x.arr 42)) := by (repeat (first | with_reducible exact Below.refl _ _ | (with_reducible assumption) | (with_reducible refine below_alloc ?_ _) | (with_reducible refine below_ext (w1 := ?_) ?_ ?_; rotate_left 2; (with_reducible assumption)) | (with_reducible refine Below.setCell ?_ ?_ _; rotate_left; ((try simp) <;> omega)) | (with_reducible refine Below.drew ?_) | (with_reducible refine below_drewN ?_ _) | fail))
  have b1 := b.ext hb1
  have hX : Blk (w.alloc (.cells x.arr 42)) w.heap.size 42 x.arr := Blk.new _ _ _ _ rfl
  have hlt := b.lt
  have hk0 : (x.kind == 0) = false := by simp [h0.1]
  have hk1 : (x.kind == 1) = false := by simp [h0.2.1]
  have hk2 : (x.kind == 2) = false := by simp [h0.2.2]
  have hlim := b.rf.n
  obtain ⟨v, bb, HA, HR⟩ : ∃ (v : Ord) (bb : Bool), Hid (∀ W, Ar W g s → Calls Try.prog 14 #[.pointer (some ⟨g, 0, none⟩), .int .i64 x.slot] W fun e w' => e = .returned (.tuple #[.agg v.arr, .bool bb]) ∧ Below W.heap.size W w') ∧
      Hid (∀ W, Rf W h bo bt r A cap co ct → Calls Try.prog 40 #[.pointer (some ⟨h, 0, none⟩), .int .i64 x.slot] W fun e w' => e = .returned (.tuple #[.agg v.arr, .bool bb]) ∧ Below W.heap.size W w') := by
    cases hf : r.has x.slot with
    | false => exact ⟨ord0, false, Lib.hid (fun W hW => get_no g s x.slot W hW (by rw [b.sim.size]; omega) (by rw [b.sim.has]; exact hf)), Lib.hid (fun W hW => rget_no h bo bt r A cap co ct x.slot W hW hf)⟩
    | true =>
      obtain ⟨k, hsl, hkn, hkt⟩ := has_yes hf
      refine ⟨r.o k, true, Lib.hid (fun W hW => ?_), Lib.hid (fun W hW => ?_)⟩
      · rw [hsl, ← b.sim.o k hkn hkt]
        exact get_yes g s k W hW (by rw [b.sim.size]; omega) (by rw [b.sim.size]; exact hkn) ((b.sim.tk k hkn).2 hkt)
      · rw [hsl]
        exact rget_yes h bo bt r A cap co ct k W hW hkn hkt
  clear h0
  go_enter Try.func16, Try.ntmps16
  go_wp2_with (first | (go_at_call 14; refine (HA.out _ b1.ar).mono ?_; rintro e w2 ⟨rfl, hb2⟩; have b2 := b1.ext hb2; have hR2 : Blk (w2.alloc (.cells ord0.arr 32)) w2.heap.size 32 ord0.arr := Blk.new _ _ _ _ rfl; have hc2 : w2.cell? ⟨w.heap.size, 1, none⟩ = some (.int .i64 x.slot) := (hX.ext hb2).cell 1) | ((refine wpList_store_blk (by rfl) 32 _ _ (by rfl) _ _ (by rfl) (by rfl) _ _ hR2 (by kernel_rfl) (by rfl) ?_ ?_; (next => first | (simp [Value.oneCell']; done) | exact Are.ordArr_one _); intro w3 hR3 hU3); have hb3 : Below w2.heap.size w2 w3 := below_upd (below_alloc (Below.refl _ _) _) (Nat.le_refl _) hU3; have b3 := b2.ext hb3; have hc3 : w3.cell? ⟨w.heap.size, 1, none⟩ = some (.int .i64 x.slot) := ((hX.ext hb2).ext hb3).cell 1) | (go_at_call 40; refine (HR.out _ b3.rf).mono ?_; rintro e w4 ⟨rfl, hb4⟩; have b4 := b3.ext hb4; have hR4 : Blk (w4.alloc (.cells ord0.arr 32)) w4.heap.size 32 ord0.arr := Blk.new _ _ _ _ rfl; have hR34 := hR3.ext hb4) | ((refine wpList_store_blk (by rfl) 32 _ _ (by rfl) _ _ (by rfl) (by rfl) _ _ hR4 (by kernel_rfl) (by rfl) ?_ ?_; (next => first | (simp [Value.oneCell']; done) | exact Are.ordArr_one _); intro w5 hR5 hU5); have hb5 : Below w4.heap.size w4 w5 := below_upd (below_alloc (Below.refl _ _) _) (Nat.le_refl _) hU5; have b5 := b4.ext hb5; have hR35 := hR34.ext hb5) | (refine wpList_load_blk (by rfl) 32 _ (by rfl) ?_ (.pointer (some ⟨_, 0, none⟩)) (by rfl) ?_ _ Try.underlying32 rfl ?_ ?_; rotate_left; (next => (repeat (first | (with_reducible refine BlkAt.new _ _ _ _ ?_; ((try simp) <;> omega)) | (with_reducible assumption) | (with_reducible refine Blk.at (t := ?_) ?_; rotate_left; with_reducible assumption) | with_reducible refine BlkAt.alloc ?_ _ | with_reducible refine BlkAt.drew ?_ | (with_reducible refine BlkAt.setSame ?_ _ _) | (with_reducible refine BlkAt.setCell ?_ ?_ _; rotate_left; ((try simp) <;> omega)) | (with_reducible refine BlkAt.ext (w := ?_) ?_ ?_; rotate_left 2; (with_reducible assumption)) | fail))); (next => kernel_rfl)) | (refine wpList_eq_ord (by rfl) _ _ _ (by rfl) v v (by rfl) (by rfl) ?_; rw [ordEq_refl]) | fail)
  go_ret
  exact ⟨by simp, ⟨_, _, _, _, _, _, b5, hm⟩, ButL.of_below (by (repeat (first | with_reducible exact Below.refl _ _ | (with_reducible assumption) | (with_reducible refine below_alloc ?_ _) | (with_reducible refine below_ext (w1 := ?_) ?_ ?_; rotate_left 2; (with_reducible assumption)) | (with_reducible refine Below.setCell ?_ ?_ _; rotate_left; ((try simp) <;> omega)) | (with_reducible refine Below.drew ?_) | (with_reducible refine below_drewN ?_ _) | fail)))⟩
theorem act_any (x : Act) {w : World} {g h bo bt n : Nat} {s : St} {r : Rs} {A : Option Addr} {cap : Nat} {co ct : Array Value} (b : Both w g h bo bt n s r A cap co ct) (m : Nat) (hm : r.d.length ≤ m) (hm5 : m < 500) :
    Calls Try.prog 16 #[.pointer (some ⟨g, 0, none⟩), .pointer (some ⟨h, 0, none⟩), .agg x.arr] w (ActPost w g h bo bt n (m + 1)) := by
  have up : ∀ e w', ActPost w g h bo bt n m e w' → ActPost w g h bo bt n (m + 1) e w' := fun e w' ⟨h1, ⟨s, r, A, cap, co, ct, h2, h3⟩, h4⟩ => ⟨h1, ⟨s, r, A, cap, co, ct, h2, by omega⟩, h4⟩
  by_cases h0 : x.kind = 0
  · exact (act_take x b h0 m hm).mono up
  · by_cases h1 : x.kind = 1
    · exact act_drop x b h1 m hm hm5
    · by_cases h2 : x.kind = 2
      · exact (act_set x b h2 m hm).mono up
      · exact (act_get x b ⟨h0, h1, h2⟩ m hm).mono up
theorem plays_any (n : Int) (xs : List Act) (A : Option Addr) (cap : Nat) (w : World) (hr : Rd w 9 A (xs.map Act.cells)) (hml : xs.length ≤ maxLen) :
    Calls Try.prog 4 #[.int .i64 n, .slice A xs.length cap] w fun e w' => e = .returned (.bool true) ∧ Below w.heap.size w w' := by
  unfold maxLen at hml
  have HR := Lib.hid hr
  clear hr
  by_cases h60 : 200 < xs.length
  · go_enter Try.func4, Try.ntmps4
    go_wp2_with (first | (go_at_call 11; refine (alive_any _).mono ?_; rintro e w'' ⟨rfl, hb2⟩) | fail)
    go_ret
    exact ⟨rfl, by (repeat (first | with_reducible exact Below.refl _ _ | (with_reducible assumption) | (with_reducible refine below_alloc ?_ _) | (with_reducible refine below_ext (w1 := ?_) ?_ ?_; rotate_left 2; (with_reducible assumption)) | (with_reducible refine Below.setCell ?_ ?_ _; rotate_left; ((try simp) <;> omega)) | (with_reducible refine Below.drew ?_) | (with_reducible refine below_drewN ?_ _) | fail))⟩
  by_cases hn : ¬ (1 ≤ n ∧ n ≤ 500)
  · have HN := Lib.hid hn
    clear hn
    go_enter Try.func4, Try.ntmps4
    go_wp2_with (first | (go_at_call 12; refine (new_bad n _ HN.out).mono ?_; rintro e w' ⟨rfl, rfl⟩) | (go_at_call 15; refine (rnew_bad n _ HN.out).mono ?_; rintro e w' ⟨rfl, rfl⟩) | (go_at_call 11; refine (alive_any _).mono ?_; rintro e w'' ⟨rfl, hb2⟩) | fail)
    go_ret
    exact ⟨rfl, by (repeat (first | with_reducible exact Below.refl _ _ | (with_reducible assumption) | (with_reducible refine below_alloc ?_ _) | (with_reducible refine below_ext (w1 := ?_) ?_ ?_; rotate_left 2; (with_reducible assumption)) | (with_reducible refine Below.setCell ?_ ?_ _; rotate_left; ((try simp) <;> omega)) | (with_reducible refine Below.drew ?_) | (with_reducible refine below_drewN ?_ _) | fail))⟩
  have hn' := Decidable.not_not.1 hn
  clear hn
  obtain ⟨n, rfl⟩ : ∃ m : Nat, n = m := ⟨n.toNat, by omega⟩
  obtain ⟨hn1, hn2⟩ := hn'
  go_enter Try.func4, Try.ntmps4
  go_wp2_with fail
  refine (new_any n _ (by omega) (by omega)).mono ?_
  rintro e w1 ⟨g, rfl, hg, hA1, hb1⟩
  have hgl := hA1.lt
  go_wp2_with fail
  refine (rnew_any n _ (by omega) (by omega)).mono ?_
  rintro e w2 ⟨h, bo, bt, co, ct, rfl, hhs, f2, hb2⟩
  have hz1 := hb1.size
  have B2 : Both w2 g h bo bt n (new0 n) (rs0 n) none 0 co ct := ⟨hA1.ext hb2, f2, sim0 n (by omega), rfl, fun x e => (by cases e), by omega⟩
  have hB2 := below_ext hb1 hb2
  have hge : w.heap.size ≤ g ∧ w.heap.size ≤ h ∧ w.heap.size ≤ bo ∧ w.heap.size ≤ bt := by omega
  clear f2 hA1
  go_wp2_with fail
  go_loopw [9] (fun i wr => ∃ k : Nat, i = .int .i64 k ∧ k ≤ xs.length ∧ (∃ s r A cap co ct, Both wr g h bo bt n s r A cap co ct ∧ r.d.length ≤ k) ∧ Below w.heap.size w wr) (fun i _ => xs.length - (intOf i).toNat)
  case atStart => exact ⟨0, rfl, Nat.zero_le _, ⟨_, _, _, _, _, _, B2, Nat.le_refl _⟩, hB2⟩
  case round =>
    obtain ⟨k, rfl, hk, ⟨s, r, A', cap', co', ct', B, hd⟩, hb⟩ := hrel
    by_cases hlt : k < xs.length
    · obtain ⟨rb, ro, rfl, hrg⟩ := rd_range (HR.out.below hb) hlt
      have HA := Lib.hid (act_any xs[k] B k hd (by omega))
      clear B2 B
      go_wp2_with (first | (refine wpList_load_mid (by rfl) _ _ (by rfl) _ _ (by rfl) _ _ hrg Try.underlying42 rfl (by kernel_rfl) ?_) | fail)
      refine HA.out.mono ?_
      rintro e w3 ⟨rfl, ⟨s3, r3, A3, cap3, co3, ct3, B3, hd3⟩, hu3⟩
      have hb3 : Below w.heap.size w w3 := hb.trans (hu3.below (by simp; omega) hb.size)
      have hu := B3.sim.used
      have hcl := cnt_le r3.t r3.n
      have hnn := B3.hn
      have hsz := B3.sim.size
      have hn5 := B3.rf.n
      have HU := Lib.hid (used_any g s3 _ B3.ar)
      rw [hu, hnn] at HU
      have HV := Lib.hid (rused_any h bo bt r3 A3 cap3 co3 ct3 _ B3.rf)
      rw [hnn] at HV
      have HW := Lib.hid (room_any g s3 _ B3.ar (by omega) (by omega))
      rw [hu, hnn, hsz, hnn] at HW
      have hcn : cnt r3.t n ≤ n := by rw [← hnn]; exact hcl
      have hnn5 : n ≤ 500 := by omega
      have HV4 : Hid (∀ W, Below w3.heap.size w3 W → Calls Try.prog 18 #[.pointer (some ⟨h, 0, none⟩)] W fun e w' => e = .returned (.int .i64 (cnt r3.t n)) ∧ W = w') := Lib.hid (fun W hW => by
        have := rused_any h bo bt r3 A3 cap3 co3 ct3 W (B3.rf.ext hW)
        rwa [hnn] at this)
      have HB := Lib.hid B3
      clear hu hcl hnn hsz hn5 B3
      go_wp2_with fail
      refine HU.out.mono ?_
      rintro e w' ⟨rfl, rfl⟩
      go_wp2_with fail
      refine HV.out.mono ?_
      rintro e w' ⟨rfl, rfl⟩
      go_wp2_with fail
      refine HW.out.mono ?_
      rintro e w4 ⟨rfl, hb4⟩
      go_wp2_with fail
      refine (HV4.out _ hb4).mono ?_
      rintro e w' ⟨rfl, rfl⟩
      go_wp2_with fail
      go_roundw
      case rel => exact ⟨k + 1, by go_num, by omega, ⟨_, _, _, _, _, _, HB.out.ext hb4, hd3⟩, below_ext hb3 hb4⟩
      case measure => simp [intOf]; omega
    · go_wp2_with (first | (go_at_call 11; refine (alive_any _).mono ?_; rintro e w'' ⟨rfl, hb2⟩) | fail)
      go_ret
      exact ⟨rfl, by (repeat (first | with_reducible exact Below.refl _ _ | (with_reducible assumption) | (with_reducible refine below_alloc ?_ _) | (with_reducible refine below_ext (w1 := ?_) ?_ ?_; rotate_left 2; (with_reducible assumption)) | (with_reducible refine Below.setCell ?_ ?_ _; rotate_left; ((try simp) <;> omega)) | (with_reducible refine Below.drew ?_) | (with_reducible refine below_drewN ?_ _) | fail))⟩
open Go.ChangeShapes Go.WideShapes Go.ChangeAt Go.Deep
theorem fitAct {vs : List Value} (h : fits (List.replicate 9 K) vs) : ∃ s : Act, vs = s.cells ∧ True := by
  obtain ⟨a0, _, rfl, b0, h⟩ := fitInt h
  obtain ⟨a1, _, rfl, b1, h⟩ := fitInt h
  obtain ⟨o, rfl, _⟩ := fitOrd h
  exact ⟨⟨a0, a1, o⟩, rfl, trivial⟩
set_option maxRecDepth 100000 in
theorem argsArenaPlays (H : Type) (enc : TypeId × Value → H) (W : World) (args : Array Value) (hargs : Args Try.checked H enc [3, 36] W args) :
    Calls Try.prog 4 args W fun e W' => e = .returned (.bool true) ∧ Below W.heap.size W W' := by
  obtain ⟨base, ds, p, hval, hA⟩ := hargs
  obtain ⟨v0, vs0, d0, ds0, p0, q0, hargs, rfl, rfl, h0, r0⟩ := trodAll_cons hA
  obtain ⟨v1, vs1, d1, ds1, p1, q1, rfl, rfl, rfl, h1, r1⟩ := trodAll_cons r0
  obtain ⟨rfl, rfl, rfl⟩ := trodAll_nil r1
  obtain rfl : args = #[v0, v1] := by cases args; simp_all
  obtain ⟨n, rfl, _⟩ := open_int Try.underlying3 (hval 0 _ v0 rfl rfl) h0
  obtain ⟨A, la, ca, rows, rfl, hla, hlc, hca, hfa, ha⟩ := open_rows (ks := List.replicate 9 K) 6 Try.underlying36 (by kernel_rfl) (by kernel_rfl) (by decide) (hval 1 _ v1 rfl rfl) h1
  obtain ⟨xs, rfl, _⟩ := rowsOf (fun vs h => fitAct h) rows hfa
  rw [List.length_map] at hla
  subst hla
  exact plays_any n xs A ca W ha (by omega)
theorem ownArenaPlays : ownKnob Try.prog.godebug = none := by kernel_rfl
theorem laidArenaPlays : laidOutB Try.prog = true := by kernel_rfl
set_option maxRecDepth 100000 in
theorem liftedArenaPlays (os : Os) (started : os.Started) (H : Type) (enc : TypeId × Value → H) :
    ReturnsInHanded {} Try.checked os 4 .any (Rows.arenaPlaysSpec.pre6 enc Try.prog Try.f4 Rows.arenaPlaysRow.domain false) (Rows.arenaPlaysSpec.post enc Try.prog Try.f4 false true false false) :=
  law_lifted (C := Try.checked) (ts := [3, 36]) (tb := 4) ownArenaPlays laidArenaPlays started (by kernel_rfl) Try.func4 (by kernel_rfl)
    (ChangeSpec.witness6 (enc := enc) (C := Try.checked) false ⟨#[], #[.int .i64 0, .slice none 0 0], []⟩ 8 (by kernel_rfl) (by kernel_rfl) (by kernel_rfl) (by kernel_rfl))
    rfl (by kernel_rfl) Try.underlying4 (by kernel_rfl)
    (fun ds h => by
      match ds, h with
      | [d0, d1], _ => rfl)
    (fun W args h => argsArenaPlays H enc W args h)
theorem provedArenaPlays : Rows.ArenaPlaysSaid :=
  OpenClaim.holds_of_wide 4 Try.f4 rfl rfl rfl rfl rfl rfl rfl ⟨rfl, rfl, rfl, rfl, rfl⟩ rfl rfl rfl rfl rfl (by kernel_rfl) Try.func4 (by kernel_rfl)
    (of_decide_eq_true (by kernel_rfl)) (by unfold Func.isWrapper; first | (rw [if_pos (by decide +kernel)]; kernel_rfl) | (rw [if_neg (by decide +kernel)]; exact ⟨rfl, rfl⟩))
    (fun os started H enc _ => liftedArenaPlays os started H enc)
#print axioms provedArenaPlays
end Are
end Go.Proofs.Ytodgeakkecaliaa
