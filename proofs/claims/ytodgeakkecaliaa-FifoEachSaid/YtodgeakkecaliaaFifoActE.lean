/- This text proves, for queues in any order in memory, that both queues answer alike, act by act: contracts of the package fifo: New, Push, Front, Pop, Remove, Of, Len, over links that are held as data, and of the document's queues. It has no conditions but those that they state. -/
import Derived.Test.YtodgeakkecaliaaFifoAct
namespace Go.Proofs.Ytodgeakkecaliaa
set_option linter.unusedVariables false
open Go.RowKit
namespace Fif
set_option maxHeartbeats 4000000
set_option maxRecDepth 10000
structure Act where
  (kind queue node : Int)
def Act.cells (x : Act) : List Value := [.int .i64 x.kind, .int .i64 x.queue, .int .i64 x.node]
def Act.arr (x : Act) : Array Value := x.cells.toArray
@[go_sem] theorem Act.arr_size (x : Act) : x.arr.size = 3 := rfl
@[go_sem] theorem Act.arr_0 (x : Act) : x.arr[0]? = some (.int .i64 x.kind) := rfl
@[go_sem] theorem Act.arr_1 (x : Act) : x.arr[1]? = some (.int .i64 x.queue) := rfl
@[go_sem] theorem Act.arr_2 (x : Act) : x.arr[2]? = some (.int .i64 x.node) := rfl
theorem butL_wide {l l' : List Nat} {B C : Nat} {w w' : World} (h : ButL l B w w') (hl : ∀ x ∈ l, x ∈ l') (hC : C ≤ B) : ButL l' C w w' := ⟨h.os, h.tape, h.output, h.size, fun i hi hn => h.block i (by omega) (fun hm => hn (hl i hm))⟩
theorem RQ.off {w w' : World} {h bl N Q B : Nat} {L : Nat → List Nat} {cl : Array Value} {l : List Nat} (q : RQ w h bl N Q L cl) (far : Far B cl) (hb : ButL l w.heap.size w w') (hl : ∀ x ∈ l, x < B) (hi : h ∉ l ∧ bl ∉ l) : RQ w' h bl N Q L cl := by
  have hn : ∀ x, B ≤ x → x ∉ l := fun x hx hm => by have := hl x hm; omega
  refine ⟨q.hd.butL hb hi.1, q.tab.butL hb hi.2, q.size, fun i hiq => ?_, q.ne, q.lim⟩
  obtain ⟨v, A, cap, h1, h2⟩ := q.row i hiq
  refine ⟨v, A, cap, h1, h2.keep hb.size (fun a e => hb.block _ (h2.far a e).2.2 (hn _ ?_))⟩
  subst e
  exact far i a _ cap (by rw [h1, h2.is])
theorem Fq.off {w w' : World} {g bn be N Q : Nat} {L : Nat → List Nat} {l : List Nat} (f : Fq w g bn be N Q L) (hb : ButL l w.heap.size w w') (h1 : g ∉ l) (h2 : bn ∉ l) (h3 : be ∉ l) : Fq w' g bn be N Q L := by
  obtain ⟨s, cn, ce, f, I⟩ := f
  exact ⟨s, cn, ce, ⟨f.hd.butL hb h1, f.fbn.butL hb h2, f.fbe.butL hb h3, f.tn, f.te, f.ne, f.lim⟩, I⟩
/-- Both queues hold these lists. -/
structure Bq (w : World) (g bn be h bl N Q : Nat) (L : Nat → List Nat) (cl : Array Value) (B : Nat) : Prop where
  fq : Fq w g bn be N Q L
  rq : RQ w h bl N Q L cl
  far : Far B cl
  lo : g < B ∧ bn < B ∧ be < B
  ne : h ≠ bn ∧ h ≠ be ∧ bl ≠ g ∧ bl ≠ bn ∧ bl ≠ be
  top : B ≤ w.heap.size
section
variable {w : World} {g bn be h bl N Q B : Nat} {L : Nat → List Nat} {cl : Array Value}
theorem Bq.ext {w' : World} (b : Bq w g bn be h bl N Q L cl B) (hb : Below w.heap.size w w') : Bq w' g bn be h bl N Q L cl B := ⟨b.fq.ext hb, b.rq.ext hb, b.far, b.lo, b.ne, Nat.le_trans b.top hb.size⟩
theorem Bq.lt (b : Bq w g bn be h bl N Q L cl B) : (g < B ∧ bn < B ∧ be < B) ∧ ((h ≠ bn ∧ h ≠ be ∧ bl ≠ g ∧ bl ≠ bn ∧ bl ≠ be) ∧ B ≤ w.heap.size) ∧ h < w.heap.size ∧ bl < w.heap.size := ⟨b.lo, ⟨b.ne, b.top⟩, b.rq.hd.lt, b.rq.tab.lt⟩
def ActPost (w : World) (g bn be h bl N Q B : Nat) (e : Ending) (w' : World) : Prop := e = .returned (.bool true) ∧ (∃ L' cl', Bq w' g bn be h bl N Q L' cl' B) ∧ ButL [bn, be, bl] w.heap.size w w'
theorem act_push (x : Act) (b : Bq w g bn be h bl N Q L cl B) (h0 : x.kind = 0) : Calls Try.prog 27 #[.pointer (some ⟨g, 0, none⟩), .pointer (some ⟨h, 0, none⟩), .agg x.arr] w (ActPost w g bn be h bl N Q B) := by
  have hb1 : Below w.heap.size w (w.alloc (.cells x.arr 63)) := by (repeat (first | with_reducible exact Below.refl _ _ | (with_reducible assumption) | (with_reducible refine below_alloc ?_ _) | (with_reducible refine below_ext (w1 := ?_) ?_ ?_; rotate_left 2; (with_reducible assumption)) | (with_reducible refine Below.setCell ?_ ?_ _; rotate_left; ((try simp) <;> omega)) | (with_reducible refine Below.drew ?_) | (with_reducible refine below_drewN ?_ _) | fail))
  have b1 := b.ext hb1
  have hX : Blk (w.alloc (.cells x.arr 63)) w.heap.size 63 x.arr := Blk.new _ _ _ _ rfl
  have hlt := b.lt
  have hk0 : (x.kind == 0) = true := by simp [h0]
  obtain ⟨r, L', P⟩ := push_pair (g := g) (bn := bn) (be := be) (h := h) (bl := bl) b.fq.dis x.queue x.node
  have HP := Lib.hid P.1
  have HR := Lib.hid P.2
  clear P
  simp only [List.append_toArray, List.cons_append, List.nil_append] at HP HR
  clear h0
  go_enter Try.func27, Try.ntmps27
  go_wp2_with (first | (go_at_call 30; refine (HP.out _ b1.fq).mono ?_; rintro e w2 ⟨rfl, hf2, hu2⟩; have hX2 := hX.butL hu2 (by simp; omega); have hd1 : w2.cell? ⟨w.heap.size, 1, none⟩ = some (.int .i64 x.queue) := hX2.cell 1; have hd2 : w2.cell? ⟨w.heap.size, 2, none⟩ = some (.int .i64 x.node) := hX2.cell 2; have q2 := b1.rq.off b1.far hu2 (by simp; omega) (by simp; omega)) | (go_at_call 44; refine (HR.out _ _ q2).mono ?_; rintro e w3 ⟨rfl, ⟨cl3, q3, hF3⟩, hu3⟩) | fail)
  go_ret
  have hsz := hb1.size
  have hsz2 := hu2.size
  have hsz3 := hu3.size
  exact ⟨by simp, ⟨_, _, hf2.off hu3 (by simp; omega) (by simp; omega) (by simp; omega), q3, hF3 B (by omega) b.far, b.lo, b.ne, by omega⟩, ButL.pre' hb1 ((butL_wide hu2 (by simp) (Nat.le_refl _)).trans (butL_wide hu3 (by simp) hsz2))⟩
theorem act_pop (x : Act) (b : Bq w g bn be h bl N Q L cl B) (h0 : x.kind = 1) : Calls Try.prog 27 #[.pointer (some ⟨g, 0, none⟩), .pointer (some ⟨h, 0, none⟩), .agg x.arr] w (ActPost w g bn be h bl N Q B) := by
  have hb1 : Below w.heap.size w (w.alloc (.cells x.arr 63)) := by (repeat (first | with_reducible exact Below.refl _ _ | (with_reducible assumption) | (with_reducible refine below_alloc ?_ _) | (with_reducible refine below_ext (w1 := ?_) ?_ ?_; rotate_left 2; (with_reducible assumption)) | (with_reducible refine Below.setCell ?_ ?_ _; rotate_left; ((try simp) <;> omega)) | (with_reducible refine Below.drew ?_) | (with_reducible refine below_drewN ?_ _) | fail))
  have b1 := b.ext hb1
  have hX : Blk (w.alloc (.cells x.arr 63)) w.heap.size 63 x.arr := Blk.new _ _ _ _ rfl
  have hlt := b.lt
  have hk0 : (x.kind == 0) = false := by simp [h0]
  have hk1 : (x.kind == 1) = true := by simp [h0]
  obtain ⟨k, r, L', P⟩ := pop_pair (g := g) (bn := bn) (be := be) (h := h) (bl := bl) b.fq.dis x.queue
  have HP := Lib.hid P.1
  have HR := Lib.hid P.2
  clear P
  simp only [List.append_toArray, List.cons_append, List.nil_append] at HP HR
  clear h0
  go_enter Try.func27, Try.ntmps27
  go_wp2_with (first | (go_at_call 32; refine (HP.out _ b1.fq).mono ?_; rintro e w2 ⟨rfl, hf2, hu2⟩; have hX2 := hX.butL hu2 (by simp; omega); have hd1 : w2.cell? ⟨w.heap.size, 1, none⟩ = some (.int .i64 x.queue) := hX2.cell 1; have hd2 : w2.cell? ⟨w.heap.size, 2, none⟩ = some (.int .i64 x.node) := hX2.cell 2; have q2 := b1.rq.off b1.far hu2 (by simp; omega) (by simp; omega)) | (go_at_call 45; refine (HR.out _ _ q2).mono ?_; rintro e w3 ⟨rfl, ⟨cl3, q3, hF3⟩, hu3⟩) | fail)
  go_ret
  have hsz := hb1.size
  have hsz2 := hu2.size
  have hsz3 := hu3.size
  exact ⟨by simp, ⟨_, _, hf2.off hu3 (by simp; omega) (by simp; omega) (by simp; omega), q3, hF3 B (by omega) b.far, b.lo, b.ne, by omega⟩, ButL.pre' hb1 ((butL_wide hu2 (by simp) (Nat.le_refl _)).trans (butL_wide hu3 (by simp) hsz2))⟩
theorem act_remove (x : Act) (b : Bq w g bn be h bl N Q L cl B) (h0 : x.kind = 2) : Calls Try.prog 27 #[.pointer (some ⟨g, 0, none⟩), .pointer (some ⟨h, 0, none⟩), .agg x.arr] w (ActPost w g bn be h bl N Q B) := by
  have hb1 : Below w.heap.size w (w.alloc (.cells x.arr 63)) := by (repeat (first | with_reducible exact Below.refl _ _ | (with_reducible assumption) | (with_reducible refine below_alloc ?_ _) | (with_reducible refine below_ext (w1 := ?_) ?_ ?_; rotate_left 2; (with_reducible assumption)) | (with_reducible refine Below.setCell ?_ ?_ _; rotate_left; ((try simp) <;> omega)) | (with_reducible refine Below.drew ?_) | (with_reducible refine below_drewN ?_ _) | fail))
  have b1 := b.ext hb1
  have hX : Blk (w.alloc (.cells x.arr 63)) w.heap.size 63 x.arr := Blk.new _ _ _ _ rfl
  have hlt := b.lt
  have hk0 : (x.kind == 0) = false := by simp [h0]
  have hk1 : (x.kind == 1) = false := by simp [h0]
  have hk2 : (x.kind == 2) = true := by simp [h0]
  obtain ⟨k, r, L', P⟩ := remove_pair (g := g) (bn := bn) (be := be) (h := h) (bl := bl) b.fq.dis x.node
  have HP := Lib.hid P.1
  have HR := Lib.hid P.2
  clear P
  simp only [List.append_toArray, List.cons_append, List.nil_append] at HP HR
  clear h0
  go_enter Try.func27, Try.ntmps27
  go_wp2_with (first | (go_at_call 31; refine (HP.out _ b1.fq).mono ?_; rintro e w2 ⟨rfl, hf2, hu2⟩; have hX2 := hX.butL hu2 (by simp; omega); have hd1 : w2.cell? ⟨w.heap.size, 1, none⟩ = some (.int .i64 x.queue) := hX2.cell 1; have hd2 : w2.cell? ⟨w.heap.size, 2, none⟩ = some (.int .i64 x.node) := hX2.cell 2; have q2 := b1.rq.off b1.far hu2 (by simp; omega) (by simp; omega)) | (go_at_call 46; refine (HR.out _ _ q2).mono ?_; rintro e w3 ⟨rfl, ⟨cl3, q3, hF3⟩, hu3⟩) | fail)
  go_ret
  have hsz := hb1.size
  have hsz2 := hu2.size
  have hsz3 := hu3.size
  exact ⟨by simp, ⟨_, _, hf2.off hu3 (by simp; omega) (by simp; omega) (by simp; omega), q3, hF3 B (by omega) b.far, b.lo, b.ne, by omega⟩, ButL.pre' hb1 ((butL_wide hu2 (by simp) (Nat.le_refl _)).trans (butL_wide hu3 (by simp) hsz2))⟩
theorem act_front (x : Act) (b : Bq w g bn be h bl N Q L cl B) (h0 : x.kind = 3) : Calls Try.prog 27 #[.pointer (some ⟨g, 0, none⟩), .pointer (some ⟨h, 0, none⟩), .agg x.arr] w (ActPost w g bn be h bl N Q B) := by
  have hb1 : Below w.heap.size w (w.alloc (.cells x.arr 63)) := by (repeat (first | with_reducible exact Below.refl _ _ | (with_reducible assumption) | (with_reducible refine below_alloc ?_ _) | (with_reducible refine below_ext (w1 := ?_) ?_ ?_; rotate_left 2; (with_reducible assumption)) | (with_reducible refine Below.setCell ?_ ?_ _; rotate_left; ((try simp) <;> omega)) | (with_reducible refine Below.drew ?_) | (with_reducible refine below_drewN ?_ _) | fail))
  have b1 := b.ext hb1
  have hX : Blk (w.alloc (.cells x.arr 63)) w.heap.size 63 x.arr := Blk.new _ _ _ _ rfl
  have hlt := b.lt
  have hk0 : (x.kind == 0) = false := by simp [h0]
  have hk1 : (x.kind == 1) = false := by simp [h0]
  have hk2 : (x.kind == 2) = false := by simp [h0]
  have hk3 : (x.kind == 3) = true := by simp [h0]
  obtain ⟨k, r, L', P⟩ := front_pair (g := g) (bn := bn) (be := be) (h := h) (bl := bl) (N := N) (Q := Q) (L := L) x.queue
  have HP := Lib.hid P.1
  have HR := Lib.hid P.2
  clear P
  simp only [List.append_toArray, List.cons_append, List.nil_append] at HP HR
  clear h0
  go_enter Try.func27, Try.ntmps27
  go_wp2_with (first | (go_at_call 34; refine (HP.out _ b1.fq).mono ?_; rintro e w2 ⟨rfl, hf2, hu2⟩; have hX2 := hX.butL hu2 (by simp; omega); have hd1 : w2.cell? ⟨w.heap.size, 1, none⟩ = some (.int .i64 x.queue) := hX2.cell 1; have hd2 : w2.cell? ⟨w.heap.size, 2, none⟩ = some (.int .i64 x.node) := hX2.cell 2; have q2 := b1.rq.off b1.far hu2 (by simp; omega) (by simp; omega)) | (go_at_call 47; refine (HR.out _ _ q2).mono ?_; rintro e w3 ⟨rfl, ⟨cl3, q3, hF3⟩, hu3⟩) | fail)
  go_ret
  have hsz := hb1.size
  have hsz2 := hu2.size
  have hsz3 := hu3.size
  exact ⟨by simp, ⟨_, _, hf2.off hu3 (by simp; omega) (by simp; omega) (by simp; omega), q3, hF3 B (by omega) b.far, b.lo, b.ne, by omega⟩, ButL.pre' hb1 ((butL_wide hu2 (by simp) (Nat.le_refl _)).trans (butL_wide hu3 (by simp) hsz2))⟩
theorem act_of (x : Act) (b : Bq w g bn be h bl N Q L cl B) (h0 : x.kind = 4) : Calls Try.prog 27 #[.pointer (some ⟨g, 0, none⟩), .pointer (some ⟨h, 0, none⟩), .agg x.arr] w (ActPost w g bn be h bl N Q B) := by
  have hb1 : Below w.heap.size w (w.alloc (.cells x.arr 63)) := by (repeat (first | with_reducible exact Below.refl _ _ | (with_reducible assumption) | (with_reducible refine below_alloc ?_ _) | (with_reducible refine below_ext (w1 := ?_) ?_ ?_; rotate_left 2; (with_reducible assumption)) | (with_reducible refine Below.setCell ?_ ?_ _; rotate_left; ((try simp) <;> omega)) | (with_reducible refine Below.drew ?_) | (with_reducible refine below_drewN ?_ _) | fail))
  have b1 := b.ext hb1
  have hX : Blk (w.alloc (.cells x.arr 63)) w.heap.size 63 x.arr := Blk.new _ _ _ _ rfl
  have hk0 : (x.kind == 0) = false := by simp [h0]
  have hk1 : (x.kind == 1) = false := by simp [h0]
  have hk2 : (x.kind == 2) = false := by simp [h0]
  have hk3 : (x.kind == 3) = false := by simp [h0]
  have hk4 : (x.kind == 4) = true := by simp [h0]
  have hQ := b.rq.lim
  obtain ⟨k, r, u, v, hc, P1, P2⟩ := of_pair (g := g) (bn := bn) (be := be) (h := h) (bl := bl) b.fq.dis x.node
  have HP := Lib.hid P1
  have HR := Lib.hid P2
  clear P1 P2
  clear h0
  rcases hc with ⟨rfl, rfl⟩ | ⟨rfl, rfl, rfl⟩
  · have e1 : (0 : Int) ≤ (k : Int) := by omega
    go_enter Try.func27, Try.ntmps27
    go_wp2_with (first | (go_at_call 35; refine (HP.out _ b1.fq).mono ?_; rintro e w2 ⟨rfl, rfl⟩) | (go_at_call 48; refine (HR.out _ _ b1.rq).mono ?_; rintro e w3 ⟨rfl, rfl⟩) | fail)
    go_ret
    exact ⟨by simp, ⟨_, _, b1⟩, ButL.of_below hb1⟩
  · go_enter Try.func27, Try.ntmps27
    go_wp2_with (first | (go_at_call 35; refine (HP.out _ b1.fq).mono ?_; rintro e w2 ⟨rfl, rfl⟩) | (go_at_call 48; refine (HR.out _ _ b1.rq).mono ?_; rintro e w3 ⟨rfl, rfl⟩) | fail)
    go_ret
    exact ⟨by simp, ⟨_, _, b1⟩, ButL.of_below hb1⟩
theorem act_else (x : Act) (b : Bq w g bn be h bl N Q L cl B) (h0 : x.kind ≠ 0 ∧ x.kind ≠ 1 ∧ x.kind ≠ 2 ∧ x.kind ≠ 3 ∧ x.kind ≠ 4) : Calls Try.prog 27 #[.pointer (some ⟨g, 0, none⟩), .pointer (some ⟨h, 0, none⟩), .agg x.arr] w (ActPost w g bn be h bl N Q B) := by
  have hb1 : Below w.heap.size w (w.alloc (.cells x.arr 63)) := by (repeat (first | with_reducible exact Below.refl _ _ | (with_reducible assumption) | (with_reducible refine below_alloc ?_ _) | (with_reducible refine below_ext (w1 := ?_) ?_ ?_; rotate_left 2; (with_reducible assumption)) | (with_reducible refine Below.setCell ?_ ?_ _; rotate_left; ((try simp) <;> omega)) | (with_reducible refine Below.drew ?_) | (with_reducible refine below_drewN ?_ _) | fail))
  have b1 := b.ext hb1
  have hk0 : (x.kind == 0) = false := by simp [h0.1]
  have hk1 : (x.kind == 1) = false := by simp [h0.2.1]
  have hk2 : (x.kind == 2) = false := by simp [h0.2.2.1]
  have hk3 : (x.kind == 3) = false := by simp [h0.2.2.2.1]
  have hk4 : (x.kind == 4) = false := by simp [h0.2.2.2.2]
  clear h0
  go_enter Try.func27, Try.ntmps27
  go_wp2_with fail
  go_ret
  exact ⟨by simp, ⟨_, _, b1⟩, ButL.of_below hb1⟩
theorem act_any (x : Act) (b : Bq w g bn be h bl N Q L cl B) : Calls Try.prog 27 #[.pointer (some ⟨g, 0, none⟩), .pointer (some ⟨h, 0, none⟩), .agg x.arr] w (ActPost w g bn be h bl N Q B) := by
  by_cases h0 : x.kind = 0
  · exact act_push x b h0
  · by_cases h1 : x.kind = 1
    · exact act_pop x b h1
    · by_cases h2 : x.kind = 2
      · exact act_remove x b h2
      · by_cases h3 : x.kind = 3
        · exact act_front x b h3
        · by_cases h4 : x.kind = 4
          · exact act_of x b h4
          · exact act_else x b ⟨h0, h1, h2, h3, h4⟩
/-! ### how the document's queues are made -/
theorem rnew_bad (n q : Int) (w : World) (h : ¬ ((1 ≤ n ∧ n ≤ 500) ∧ 1 ≤ q ∧ q ≤ 400)) :
    Calls Try.prog 26 #[.int .i64 n, .int .i64 q] w fun e w' => e = .returned (.tuple #[.pointer none, .int .i64 9]) ∧ w = w' := by
  by_cases h0 : n < 1
  · clear h
    go_enter Try.func26, Try.ntmps26
    go_wp2_with fail
    go_ret2
    exact ⟨rfl, rfl⟩
  · by_cases h1 : 500 < n
    · clear h
      go_enter Try.func26, Try.ntmps26
      go_wp2_with fail
      go_ret2
      exact ⟨rfl, rfl⟩
    · by_cases h2 : q < 1
      · clear h
        go_enter Try.func26, Try.ntmps26
        go_wp2_with fail
        go_ret2
        exact ⟨rfl, rfl⟩
      · have h3 : 400 < q := by omega
        clear h
        go_enter Try.func26, Try.ntmps26
        go_wp2_with fail
        go_ret2
        exact ⟨rfl, rfl⟩
def RNewPost (N Q : Nat) (w : World) (e : Ending) (w' : World) : Prop :=
  ∃ h bl cl, e = .returned (.tuple #[.pointer (some ⟨h, 0, none⟩), .int .i64 0]) ∧ (w.heap.size ≤ h ∧ w.heap.size ≤ bl) ∧ RQ w' h bl N Q (fun _ => []) cl ∧ (∀ B, Far B cl) ∧ Below w.heap.size w w'
theorem rnew_any (N Q : Nat) (w : World) (h1 : 1 ≤ N ∧ N ≤ 500) (h2 : 1 ≤ Q ∧ Q ≤ 400) : Calls Try.prog 26 #[.int .i64 N, .int .i64 Q] w (RNewPost N Q w) := by
  obtain ⟨h1a, h1b⟩ := h1
  obtain ⟨h2a, h2b⟩ := h2
  have hm1 : ∀ W : World, (Instr.makeSlice 65 (.int .i64 Q) (.int .i64 Q)).run Try.prog W = .ok (.slice (some ⟨W.heap.size, 0, none⟩) Q Q) (W.alloc (.cells (madeCells #[.slice none 0 0] Q) 28)) := fun W => by
    obtain ⟨i, hi, hz, hs, hby⟩ := info_parts (P := Try.prog) (e := 28) (z := .slice none 0 0) (size := 1) (bytes := 24) (by kernel_rfl)
    have hr := run_make (P := Try.prog) W 65 28 i _ Try.underlying65 hi hz .i64 .i64 Q Q (by omega) (Int.le_refl _) (by rw [hby]; omega) (by omega)
    rw [hs] at hr
    simp only [Int.toNat_natCast, Nat.mul_one] at hr
    exact hr
  have hall : ∀ k, k < Q → (madeCells #[.slice none 0 0] Q)[k]? = some (Value.slice none 0 0) := fun k hk =>
    madeCells_all (v := .slice none 0 0) (fun i hi => by
      have : i = 0 := by simp at hi; omega
      subst this; rfl) (by decide) _ _ (by omega)
  have hsz : (madeCells #[.slice none 0 0] Q).size = Q := by rw [size_madeCells]
  go_enter Try.func26, Try.ntmps26
  go_wp2_with fail
  go_ret2
  refine ⟨w.heap.size + 1, w.heap.size, madeCells #[.slice none 0 0] Q, rfl, by omega, ⟨?_, ?_, hsz, fun i hi => ⟨_, none, 0, hall i hi, rfl, fun hne => absurd rfl hne, Nat.le_refl _, fun _ => rfl, fun a e => (by cases e), Nat.zero_le _⟩, by omega, h1b, h2b⟩, fun B i a l c hi => ?_, by (repeat (first | with_reducible exact Below.refl _ _ | (with_reducible assumption) | (with_reducible refine below_alloc ?_ _) | (with_reducible refine below_ext (w1 := ?_) ?_ ?_; rotate_left 2; (with_reducible assumption)) | (with_reducible refine Below.setCell ?_ ?_ _; rotate_left; ((try simp) <;> omega)) | (with_reducible refine Below.drew ?_) | (with_reducible refine below_drewN ?_ _) | fail))⟩
  · exact Blk.new _ _ _ _ (by simp)
  · exact (Blk.new w _ _ _ rfl).ext (below_alloc (Below.refl _ _) _)
  · by_cases hq : i < Q
    · rw [hall i hq] at hi
      cases hi
    · rw [Array.getElem?_eq_none (by omega)] at hi
      cases hi
end
end Fif
end Go.Proofs.Ytodgeakkecaliaa
