/- FifoEach's iterator. It has no conditions but those that it states. -/
import Derived.Test.YtodgeakkecaliaaFifoActE
import Derived.Test.YtodgeakkecaliaaRangeB
import Derived.OwnWalkIn
import Derived.TacticsInMore
import Derived.LoopNIn
import Derived.LoopIn
namespace Go.Proofs.Ytodgeakkecaliaa
set_option linter.unusedVariables false
open Go.RowKit
namespace Fif
set_option maxHeartbeats 1000000
set_option maxRecDepth 10000
attribute [local go_sem] Oper.semAt_some
def left (l : List Nat) (v : Value) : Nat := if intOf v < 0 then 0 else l.length - l.idxOf (intOf v).toNat
theorem idx_at {l pre rest : List Nat} {x : Nat} (hx : l = pre ++ x :: rest) (hn : l.Nodup) : l.idxOf x = pre.length := by
  have hp : x ∉ pre := fun h => by
    rw [hx, List.nodup_append] at hn
    exact hn.2.2 x h x (by simp) rfl
  rw [hx, List.idxOf_append, if_neg hp]
  simp
theorem left_lt {l pre rest : List Nat} {x : Nat} (hx : l = pre ++ x :: rest) (hn : l.Nodup) : left l (.int .i64 (Fif.hd rest)) < left l (.int .i64 (x : Int)) := by
  have h1 := idx_at hx hn
  have hl : l.length = pre.length + 1 + rest.length := by rw [hx]; simp; omega
  have e1 : left l (.int .i64 (x : Int)) = l.length - pre.length := by
    unfold left
    simp only [intOf, Int.toNat_natCast, h1]
    rw [if_neg (by omega)]
  rw [e1]
  cases rest with
  | nil => unfold left; simp [intOf, Fif.hd]; omega
  | cons y r =>
    have h2 := idx_at (pre := pre ++ [x]) (x := y) (rest := r) (by simpa using hx) hn
    have e2 : left l (.int .i64 (Fif.hd (y :: r))) = l.length - (pre.length + 1) := by
      show left l (.int .i64 (y : Int)) = _
      unfold left
      simp only [intOf, Int.toNat_natCast, h2]
      rw [if_neg (by omega)]
      simp
    rw [e2]
    omega
theorem each_in (l : Nat) {w : World} {g bn be N Q : Nat} {s : Fs} {cn ce : Array Value} {L : Nat → List Nat} (f : FH w g bn be N Q s cn ce) (I : Inv N Q s L) (i bq bi : Nat) (hi : i < Q) (hq : Blk w bq 55 #[.pointer (some ⟨g, 0, none⟩)]) (hbi : Blk w bi 3 #[.int .i64 i]) (nb : List Nat) (hnb : g ∉ nb ∧ bn ∉ nb ∧ be ∉ nb ∧ bq ∉ nb ∧ bi ∉ nb)
    (J Jx : List Nat → World → Prop)
    (hY : ∀ pre x W, J pre W → pre.length < (L i).length → YieldAt Fence.wide 7 Try.prog l #[.int .i64 (x : Nat)] W fun e W' =>
      (e = .returned (.bool true) ∧ J (pre ++ [x]) W' ∧ ButL nb w.heap.size W W') ∨ (e = .returned (.bool false) ∧ Jx (pre ++ [x]) W'))
    (W : World) (hW : Below w.heap.size w W) (h0 : J [] W) :
    CallsIn Fence.wide 8 Try.prog 51 #[.func (.yield l) #[] #[], .pointer (some ⟨bq, 0, none⟩), .pointer (some ⟨bi, 0, none⟩)] W fun e W' => (∃ v, e = .returned v) ∧
      ((∃ ys, ys = L i ∧ J ys W') ∨ (∃ pre, pre <+: L i ∧ Jx pre W')) := by
  refine callsIn_of_wp Try.func51 rfl trivial ?_ rfl
  simp only [Try.ntmps51, List.size_toArray, List.length_cons, List.length_nil, Nat.reduceAdd, Nat.reduceSub, Array.replicate_succ, Array.replicate_zero, List.push_toArray, List.append_toArray, List.nil_append, List.cons_append]
  have f1 := f.ext hW
  have cq : W.cell? ⟨bq, 0, none⟩ = some (.pointer (some ⟨g, 0, none⟩)) := (hq.ext hW).cell 0
  have ci : W.cell? ⟨bi, 0, none⟩ = some (.int .i64 i) := (hbi.ext hW).cell 0
  have hl : (L i).length ≤ 500 := Nat.le_trans (I.len hi) f.lim.1
  have hnd := I.nodup i hi
  gi_wp2_with fail
  refine ⟨trivial, ?_⟩
  refine (callsIn_wide.2 (queue_yes f1.hd f1.lim i hi)).mono ?_
  rintro e w' ⟨rfl, rfl⟩
  obtain ⟨ce0, ce1, ce2⟩ := f1.e hi
  rw [I.ef i hi] at ce0
  gi_wp2_with fail
  gi_loopw [5] (fun p wr => ∃ (pre rest : List Nat), p = .int .i64 (Fif.hd rest) ∧ L i = pre ++ rest ∧ J pre wr ∧ ButL nb w.heap.size W wr) (fun p wr => left (L i) p)
  case atStart => exact ⟨[], L i, rfl, rfl, h0, ButL.refl _ _ _⟩
  case round =>
    obtain ⟨pre, rest, rfl, hx, hJ, hB⟩ := hrel
    cases rest with
    | nil =>
      rw [show Fif.hd [] = (-1 : Int) from rfl]
      gi_wp2_with fail
      go_end0
      exact ⟨⟨_, rfl⟩, .inl ⟨pre, by simp [hx], hJ⟩⟩
    | cons x rest =>
      obtain ⟨fn, tmps, assign, body, hy, hR⟩ := hY pre x wr hJ (by rw [hx]; simp)
      have hxN := I.lt i hi x (by rw [hx]; simp)
      have hnx := (I.link i hi pre x rest hx).2.2
      have hN := f.lim.1
      have hzW := hW.size
      have HX := Lib.hid hx
      clear hx
      rw [show Fif.hd (x :: rest) = (x : Int) from rfl]
      gi_wp2_with fail
      refine hR.mono ?_
      rintro e W3 (⟨rfl, hJ3, hk3⟩ | ⟨rfl, hJx3⟩)
      · have hB3 := hB.trans hk3
        have hw3 : ButL nb w.heap.size w W3 := (ButL.of_below hW).trans hB3
        have d1 : W3.cell? ⟨bq, 0, none⟩ = some (.pointer (some ⟨g, 0, none⟩)) := (hq.butL hw3 hnb.2.2.2.1).cell 0
        have d2 : W3.cell? ⟨g, 0, none⟩ = some (.slice (some ⟨bn, 0, none⟩) N N) := (f.hd.butL hw3 hnb.1).cell 0
        have d3 : W3.cell? ⟨bn, x * 3 + 1, none⟩ = some (.int .i64 (Fif.hd rest)) := by
          rw [(f.fbn.butL hw3 hnb.2.1).cell, (f.tn.2 x hxN).2.1, hnx]
        have e1 : (x : Int) < (N : Int) := by omega
        gi_wp2_with fail
        go_roundw
        case rel => exact ⟨pre ++ [x], rest, rfl, by rw [HX.out]; simp, hJ3, hB3⟩
        case measure =>
          show left (L i) (.int .i64 (Fif.hd rest)) < left (L i) (.int .i64 (x : Int))
          exact left_lt HX.out hnd
      · gi_wp2_with fail
        refine bodyPost_ret (results_none rfl _ _ _) rfl ?_
        exact ⟨⟨_, rfl⟩, .inr ⟨pre ++ [x], ⟨rest, by rw [HX.out]; simp⟩, hJx3⟩⟩
theorem each_any (p : Option Addr) (i : Int) (w : World) : Calls Try.prog 33 #[.pointer p, .int .i64 i] w fun e w' => e = .returned (.func (.func 51) #[] #[.pointer (some ⟨w.heap.size, 0, none⟩), .pointer (some ⟨w.heap.size + 1, 0, none⟩)]) ∧ Blk w' w.heap.size 55 #[.pointer p] ∧ Blk w' (w.heap.size + 1) 3 #[.int .i64 i] ∧ Below w.heap.size w w' := by
  go_enter Try.func33, Try.ntmps33
  go_wp2_with fail
  go_ret
  exact ⟨rfl, (Blk.new w _ _ _ rfl).alloc _, Blk.new _ _ _ _ (sz_alloc _ _), by (repeat (first | with_reducible exact Below.refl _ _ | (with_reducible assumption) | (with_reducible refine below_alloc ?_ _) | (with_reducible refine below_ext (w1 := ?_) ?_ ?_; rotate_left 2; (with_reducible assumption)) | (with_reducible refine Below.setCell ?_ ?_ _; rotate_left; ((try simp) <;> omega)) | (with_reducible refine Below.drew ?_) | (with_reducible refine below_drewN ?_ _) | fail))⟩
theorem each_stops {w : World} {g bn be N Q : Nat} {L : Nat → List Nat} (f : Fq w g bn be N Q L) (i bq bi : Nat) (hi : i < Q) (hq : Blk w bq 55 #[.pointer (some ⟨g, 0, none⟩)]) (hbi : Blk w bi 3 #[.int .i64 i]) (nb : List Nat) (hnb : g ∉ nb ∧ bn ∉ nb ∧ be ∉ nb ∧ bq ∉ nb ∧ bi ∉ nb) :
    SeqStopsK Fence.wide 8 Try.prog 51 #[.pointer (some ⟨bq, 0, none⟩), .pointer (some ⟨bi, 0, none⟩)] (fun x : Nat => #[Value.int .i64 (x : Int)]) (ButL nb w.heap.size) (fun ys => ys = L i) (fun pre => pre <+: L i) (L i).length w := fun l J Jx W hW _ _ hY h0 => by
  obtain ⟨s, cn, ce, f, I⟩ := f
  exact each_in l f I i bq bi hi hq hbi nb hnb J Jx hY W hW h0
theorem each_off {w : World} {g bn be N Q : Nat} {L : Nat → List Nat} (f : Fq w g bn be N Q L) (i : Int) (bq bi : Nat) (hi : i < 0 ∨ (Q : Int) ≤ i) (hq : Blk w bq 55 #[.pointer (some ⟨g, 0, none⟩)]) (hbi : Blk w bi 3 #[.int .i64 i]) (nb : List Nat) :
    SeqStopsK Fence.wide 8 Try.prog 51 #[.pointer (some ⟨bq, 0, none⟩), .pointer (some ⟨bi, 0, none⟩)] (fun x : Nat => #[Value.int .i64 (x : Int)]) (ButL nb w.heap.size) (fun ys => ys = []) (fun pre => pre <+: []) 0 w := fun l J Jx W hW _ _ hY h0 => by
  obtain ⟨s, cn, ce, f, I⟩ := f
  have f1 := f.ext hW
  have cq : W.cell? ⟨bq, 0, none⟩ = some (.pointer (some ⟨g, 0, none⟩)) := (hq.ext hW).cell 0
  have ci : W.cell? ⟨bi, 0, none⟩ = some (.int .i64 i) := (hbi.ext hW).cell 0
  have HI := Lib.hid hi
  clear hi
  show CallsIn _ _ _ _ (#[.func (.yield l) #[] #[], .pointer (some ⟨bq, 0, none⟩), .pointer (some ⟨bi, 0, none⟩)]) _ _
  refine callsIn_of_wp Try.func51 rfl trivial ?_ rfl
  simp only [Try.ntmps51, List.size_toArray, List.length_cons, List.length_nil, Nat.reduceAdd, Nat.reduceSub, Array.replicate_succ, Array.replicate_zero, List.push_toArray, List.append_toArray, List.nil_append, List.cons_append]
  gi_wp2_with fail
  refine ⟨trivial, ?_⟩
  refine (callsIn_wide.2 (queue_no f1.hd f1.lim i HI.out)).mono ?_
  rintro e w' ⟨rfl, rfl⟩
  gi_wp2_with fail
  refine bodyPost_ret (results_none rfl _ _ _) rfl ?_
  exact ⟨⟨_, rfl⟩, .inl ⟨[], rfl, h0⟩⟩
end Fif
end Go.Proofs.Ytodgeakkecaliaa
