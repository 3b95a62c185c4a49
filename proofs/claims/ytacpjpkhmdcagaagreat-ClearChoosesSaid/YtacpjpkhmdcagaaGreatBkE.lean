/- This text proves what the iterators of a ladder and of queues hand over to a body that keeps all blocks of cells but those that are named. It has no conditions but those that it states. -/
import Derived.Test.YtacpjpkhmdcagaaGreatLadE
import Derived.Test.YtacpjpkhmdcagaaGreatFifoNew
import Derived.Test.YtacpjpkhmdcagaaGreatMidRd
import Derived.OwnWalkIn
import Derived.TacticsInMore
import Derived.LoopNIn
import Derived.LoopIn
namespace Go.Proofs.YtacpjpkhmdcagaaGreat
set_option linter.unusedVariables false
open Go.RowKit
namespace Lad
set_option maxHeartbeats 2000000
set_option maxRecDepth 10000
attribute [local go_sem] Oper.semAt_some
section
variable {w : World} {g : Nat} {side most : Int} {v : Value} {ls : List Lvl} {u : Nat → Nat}
theorem leach_inK (l : Nat) (L : La w g side most v ls u) (b : Nat) (hq : Blk w b 85 #[.pointer (some ⟨g, 0, none⟩)]) (nb : List Nat) (ts : List TypeId) (B : Nat) (hBw : B ≤ w.heap.size) (hnb : ∀ r, v.ownBlock = some r → r ∉ nb ∧ r < B)
    (J Jx : List (Of ls) → World → Prop)
    (hY : ∀ pre x W, J pre W → pre.length < ls.length → YieldAt Fence.wide 7 Tryz.prog l (encL ls x) W fun e W' =>
      (e = .returned (.bool true) ∧ J (pre ++ [x]) W' ∧ Kc nb ts B W W') ∨ (e = .returned (.bool false) ∧ Jx (pre ++ [x]) W'))
    (W : World) (hW : Below w.heap.size w W) (hJo : AbidesFrom W.heap.size J) (h0 : J [] W) :
    CallsIn Fence.wide 8 Tryz.prog 96 #[.func (.yield l) #[] #[], .pointer (some ⟨b, 0, none⟩)] W fun e W' => (∃ v, e = .returned v) ∧
      ((∃ ys, ys = ls.attach ∧ J ys W') ∨ (∃ pre, pre <+: ls.attach ∧ Jx pre W')) := by
  have hvl := L.own_lt
  have hgl := L.hd.lt
  refine callsIn_of_wp Tryz.func96 rfl trivial ?_ rfl
  simp only [Tryz.ntmps96, List.size_toArray, List.length_cons, List.length_nil, Nat.reduceAdd, Nat.reduceSub, Array.replicate_succ, Array.replicate_zero, List.push_toArray, List.append_toArray, List.nil_append, List.cons_append]
  have cq : W.cell? ⟨b, 0, none⟩ = some (.pointer (some ⟨g, 0, none⟩)) := (hq.ext hW).cell 0
  have L1 := L.ext hW
  obtain ⟨A, cap, rfl, hrd, _⟩ := L1.rd
  have c2 : W.cell? ⟨g, 2, none⟩ = some (.slice A ls.length cap) := L1.hd.cell 2
  have hlen := L1.len
  have HJ := Lib.hid hJo
  clear L L1 hJo
  gi_wp2_with fail
  gi_loopw [12] (fun p wr => ∃ k : Nat, p = .int .i64 k ∧ k ≤ ls.length ∧ J (ls.attach.take k) wr ∧ Kc nb ts B W wr) (fun p wr => ls.length - (intOf p).toNat)
  case atStart => exact ⟨0, rfl, Nat.zero_le _, h0, Kc.refl _ _ _ _⟩
  case round =>
    obtain ⟨k, rfl, hk, hJ, hB⟩ := hrel
    by_cases hlt : k < ls.length
    · have e1 : (k : Int) < (ls.length : Int) := by omega
      have e2 : (0 : Int) ≤ (k : Int) := by omega
      obtain ⟨rb, ro, rfl, hr, hrl⟩ := rd_lvl hrd hlt
      have hrb := hnb rb rfl
      have o0 : wr.cell? ⟨rb, ro + k * 4, none⟩ = some (.int .i64 (ls[k]).price) := hB.cell (hr 0 _ rfl) hrb.1 hrb.2
      have o1 : wr.cell? ⟨rb, ro + k * 4 + 1, none⟩ = some (.int .i64 (ls[k]).qty) := hB.cell (hr 1 _ rfl) hrb.1 hrb.2
      have o2 : wr.cell? ⟨rb, ro + k * 4 + 2, none⟩ = some (.int .i64 (ls[k]).orders) := hB.cell (hr 2 _ rfl) hrb.1 hrb.2
      have o3 : wr.cell? ⟨rb, ro + k * 4 + 3, none⟩ = some (.int .i64 (ls[k]).queue) := hB.cell (hr 3 _ rfl) hrb.1 hrb.2
      have hbA : Kc nb ts B wr (wr.alloc (.cells (ls[k]).arr 156)) := Kc.of_below (below_alloc (Below.refl _ _) _) (by have := hW.size; have := hB.low.size; omega)
      have hJa : J (ls.attach.take k) (wr.alloc (.cells (ls[k]).arr 156)) := HJ.out _ _ _ none hJ ⟨rfl, rfl, rfl, by rw [sz_alloc]; exact Nat.le_succ _, fun k hk _ => heapAtLt wr _ k hk⟩ (fun g e => by cases e)
      obtain ⟨fn, tmps, assign, body, hy, hR⟩ := hY (ls.attach.take k) ⟨ls[k], List.getElem_mem hlt⟩ _ hJa (by rw [List.length_take, List.length_attach]; omega)
      have hy2 : (Instr.yield l #[.agg #[.int .i64 (ls[k]).price, .int .i64 (ls[k]).qty, .int .i64 (ls[k]).orders, .int .i64 (ls[k]).queue]]).run Tryz.prog (wr.alloc (.cells #[.int .i64 (ls[k]).price, .int .i64 (ls[k]).qty, .int .i64 (ls[k]).orders, .int .i64 (ls[k]).queue] 156)) = _ := hy
      clear hy
      gi_wp2_with fail
      refine hR.mono ?_
      rintro e W3 (⟨rfl, hJ3, hk3⟩ | ⟨rfl, hJx3⟩)
      · gi_wp2_with fail
        go_roundw
        case rel => exact ⟨k + 1, by go_num, by omega, by rw [← take_snoc hlt]; exact hJ3, hB.trans (hbA.trans hk3)⟩
        case measure => simp [intOf]; omega
      · gi_wp2_with fail
        refine bodyPost_ret (results_none rfl _ _ _) rfl ?_
        refine ⟨⟨_, rfl⟩, .inr ⟨_, ?_, hJx3⟩⟩
        rw [take_snoc hlt]
        exact List.take_prefix _ _
    · obtain rfl : k = ls.length := by omega
      gi_wp2_with fail
      go_end0
      exact ⟨⟨_, rfl⟩, .inl ⟨_, rfl, by rw [← List.length_attach, List.take_length] at hJ; exact hJ⟩⟩
theorem leach_stopsK (L : La w g side most v ls u) (b : Nat) (hq : Blk w b 85 #[.pointer (some ⟨g, 0, none⟩)]) (nb : List Nat) (ts : List TypeId) (B : Nat) (hBw : B ≤ w.heap.size) (hnb : ∀ r, v.ownBlock = some r → r ∉ nb ∧ r < B) :
    SeqStopsK Fence.wide 8 Tryz.prog 96 #[.pointer (some ⟨b, 0, none⟩)] (encL ls) (Kc nb ts B) (fun ys => ys = ls.attach) (fun pre => pre <+: ls.attach) ls.length w := fun l J Jx W hW hJ _ hY h0 =>
  leach_inK l L b hq nb ts B hBw hnb J Jx hY W hW hJ h0
end
end Lad
namespace Fif
set_option maxHeartbeats 1000000
set_option maxRecDepth 10000
attribute [local go_sem] Oper.semAt_some
def left (l : List Nat) (v : Value) : Nat := if intOf v < 0 then 0 else l.length - l.idxOf (intOf v).toNat
theorem idx_at {l pre rest : List Nat} {x : Nat} (hx : l = pre ++ x :: rest) (hn : l.Nodup) : l.idxOf x = pre.length := by
  have hp : x ∉ pre := fun h => by
    rw [hx, List.nodup_append] at hn
    exact hn.2.2 x h x (by simp) rfl
  rw [hx, List.idxOf_append, if_neg hp]
  simp
theorem left_lt {l pre rest : List Nat} {x : Nat} (hx : l = pre ++ x :: rest) (hn : l.Nodup) : left l (.int .i64 (Fif.hd rest)) < left l (.int .i64 (x : Int)) := by
  have h1 := idx_at hx hn
  have hl : l.length = pre.length + 1 + rest.length := by rw [hx]; simp; omega
  have e1 : left l (.int .i64 (x : Int)) = l.length - pre.length := by
    unfold left
    simp only [intOf, Int.toNat_natCast, h1]
    rw [if_neg (by omega)]
  rw [e1]
  cases rest with
  | nil => unfold left; simp [intOf, Fif.hd]; omega
  | cons y r =>
    have h2 := idx_at (pre := pre ++ [x]) (x := y) (rest := r) (by simpa using hx) hn
    have e2 : left l (.int .i64 (Fif.hd (y :: r))) = l.length - (pre.length + 1) := by
      show left l (.int .i64 (y : Int)) = _
      unfold left
      simp only [intOf, Int.toNat_natCast, h2]
      rw [if_neg (by omega)]
      simp
    rw [e2]
    omega
theorem feach_inK (l : Nat) {w : World} {g bn be N Q : Nat} {s : Fs} {cn ce : Array Value} {L : Nat → List Nat} (f : FH w g bn be N Q s cn ce) (I : Inv N Q s L) (i bq bi : Nat) (hi : i < Q) (hq : Blk w bq 86 #[.pointer (some ⟨g, 0, none⟩)]) (hbi : Blk w bi 3 #[.int .i64 i]) (nb : List Nat) (ts : List TypeId) (B : Nat) (hBw : B ≤ w.heap.size) (hnb : (g ∉ nb ∧ g < B) ∧ (bn ∉ nb ∧ bn < B) ∧ bq ∉ nb ∧ 86 ∉ ts)
    (J Jx : List Nat → World → Prop)
    (hY : ∀ pre x rest W, L i = pre ++ x :: rest → J pre W → YieldAt Fence.wide 7 Tryz.prog l #[.int .i64 (x : Nat)] W fun e W' =>
      (e = .returned (.bool true) ∧ J (pre ++ [x]) W' ∧ Kc nb ts B W W') ∨ (e = .returned (.bool false) ∧ Jx (pre ++ [x]) W'))
    (W : World) (hW : Below w.heap.size w W) (h0 : J [] W) :
    CallsIn Fence.wide 8 Tryz.prog 97 #[.func (.yield l) #[] #[], .pointer (some ⟨bq, 0, none⟩), .pointer (some ⟨bi, 0, none⟩)] W fun e W' => (∃ v, e = .returned v) ∧
      ((∃ ys, ys = L i ∧ J ys W') ∨ (∃ pre, pre <+: L i ∧ Jx pre W')) := by
  refine callsIn_of_wp Tryz.func97 rfl trivial ?_ rfl
  simp only [Tryz.ntmps97, List.size_toArray, List.length_cons, List.length_nil, Nat.reduceAdd, Nat.reduceSub, Array.replicate_succ, Array.replicate_zero, List.push_toArray, List.append_toArray, List.nil_append, List.cons_append]
  have f1 := f.ext hW
  have cq : W.cell? ⟨bq, 0, none⟩ = some (.pointer (some ⟨g, 0, none⟩)) := (hq.ext hW).cell 0
  have ci : W.cell? ⟨bi, 0, none⟩ = some (.int .i64 i) := (hbi.ext hW).cell 0
  have hl : (L i).length ≤ 500 := Nat.le_trans (I.len hi) f.lim.1
  have hnd := I.nodup i hi
  gi_wp2_with fail
  refine ⟨trivial, ?_⟩
  refine (callsIn_wide.2 (queue_yes f1.hd f1.lim i hi)).mono ?_
  rintro e w' ⟨rfl, rfl⟩
  obtain ⟨ce0, ce1, ce2⟩ := f1.e hi
  rw [I.ef i hi] at ce0
  gi_wp2_with fail
  gi_loopw [5] (fun p wr => ∃ (pre rest : List Nat), p = .int .i64 (Fif.hd rest) ∧ L i = pre ++ rest ∧ J pre wr ∧ Kc nb ts B W wr) (fun p wr => left (L i) p)
  case atStart => exact ⟨[], L i, rfl, rfl, h0, Kc.refl _ _ _ _⟩
  case round =>
    obtain ⟨pre, rest, rfl, hx, hJ, hB⟩ := hrel
    cases rest with
    | nil =>
      rw [show Fif.hd [] = (-1 : Int) from rfl]
      gi_wp2_with fail
      go_end0
      exact ⟨⟨_, rfl⟩, .inl ⟨pre, by simp [hx], hJ⟩⟩
    | cons x rest =>
      obtain ⟨fn, tmps, assign, body, hy, hR⟩ := hY pre x rest wr hx hJ
      have hxN := I.lt i hi x (by rw [hx]; simp)
      have hnx := (I.link i hi pre x rest hx).2.2
      have hN := f.lim.1
      have hzW := hW.size
      have HX := Lib.hid hx
      clear hx
      rw [show Fif.hd (x :: rest) = (x : Int) from rfl]
      gi_wp2_with fail
      refine hR.mono ?_
      rintro e W3 (⟨rfl, hJ3, hk3⟩ | ⟨rfl, hJx3⟩)
      · have hB3 := hB.trans hk3
        have hw3 : Kc nb ts B w W3 := (Kc.of_below hW hBw).trans hB3
        have d1 : W3.cell? ⟨bq, 0, none⟩ = some (.pointer (some ⟨g, 0, none⟩)) := (hw3.blk hq hnb.2.2.1 hnb.2.2.2).cell 0
        have d2 : W3.cell? ⟨g, 0, none⟩ = some (.slice (some ⟨bn, 0, none⟩) N N) := (hw3.low_blk f.hd hnb.1.1 hnb.1.2).cell 0
        have d3 : W3.cell? ⟨bn, x * 3 + 1, none⟩ = some (.int .i64 (Fif.hd rest)) := by
          rw [(hw3.low_blk f.fbn hnb.2.1.1 hnb.2.1.2).cell, (f.tn.2 x hxN).2.1, hnx]
        have e1 : (x : Int) < (N : Int) := by omega
        gi_wp2_with fail
        go_roundw
        case rel => exact ⟨pre ++ [x], rest, rfl, by rw [HX.out]; simp, hJ3, hB3⟩
        case measure =>
          show left (L i) (.int .i64 (Fif.hd rest)) < left (L i) (.int .i64 (x : Int))
          exact left_lt HX.out hnd
      · gi_wp2_with fail
        refine bodyPost_ret (results_none rfl _ _ _) rfl ?_
        exact ⟨⟨_, rfl⟩, .inr ⟨pre ++ [x], ⟨rest, by rw [HX.out]; simp⟩, hJx3⟩⟩
theorem each_any (p : Option Addr) (i : Int) (w : World) : Calls Tryz.prog 82 #[.pointer p, .int .i64 i] w fun e w' => e = .returned (.func (.func 97) #[] #[.pointer (some ⟨w.heap.size, 0, none⟩), .pointer (some ⟨w.heap.size + 1, 0, none⟩)]) ∧ Blk w' w.heap.size 86 #[.pointer p] ∧ Blk w' (w.heap.size + 1) 3 #[.int .i64 i] ∧ Below w.heap.size w w' := by
  go_enter Tryz.func82, Tryz.ntmps82
  go_wp2_with fail
  go_ret
  exact ⟨rfl, (Blk.new w _ _ _ rfl).alloc _, Blk.new _ _ _ _ (sz_alloc _ _), by (repeat (first | with_reducible exact Below.refl _ _ | (with_reducible assumption) | (with_reducible refine below_alloc ?_ _) | (with_reducible refine below_ext (w1 := ?_) ?_ ?_; rotate_left 2; (with_reducible assumption)) | (with_reducible refine Below.setCell ?_ ?_ _; rotate_left; ((try simp) <;> omega)) | (with_reducible refine Below.drew ?_) | (with_reducible refine below_drewN ?_ _) | fail))⟩
abbrev Sl1 (l : List Nat) := {x : Nat // x ∈ l}
theorem feach_stopsK {w : World} {g bn be N Q : Nat} {L : Nat → List Nat} (f : Fq w g bn be N Q L) (i bq bi : Nat) (hi : i < Q) (hq : Blk w bq 86 #[.pointer (some ⟨g, 0, none⟩)]) (hbi : Blk w bi 3 #[.int .i64 i]) (nb : List Nat) (ts : List TypeId) (B : Nat) (hBw : B ≤ w.heap.size) (hnb : (g ∉ nb ∧ g < B) ∧ (bn ∉ nb ∧ bn < B) ∧ bq ∉ nb ∧ 86 ∉ ts) :
    SeqStopsK Fence.wide 8 Tryz.prog 97 #[.pointer (some ⟨bq, 0, none⟩), .pointer (some ⟨bi, 0, none⟩)] (fun x : Sl1 (L i) => #[Value.int .i64 (x.1 : Int)]) (Kc nb ts B) (fun ys => ys.map (·.1) = L i) (fun pre => pre.map (·.1) <+: L i) (L i).length w := fun l J Jx W hW _ _ hY h0 => by
  obtain ⟨s, cn, ce, f, I⟩ := f
  refine (feach_inK l f I i bq bi hi hq hbi nb ts B hBw hnb (fun pre W => ∃ p : List (Sl1 (L i)), p.map (·.1) = pre ∧ J p W) (fun pre W => ∃ p : List (Sl1 (L i)), p.map (·.1) = pre ∧ Jx p W) ?_ W hW ⟨[], rfl, h0⟩).mono ?_
  · rintro pre x rest W1 hx ⟨p, rfl, hJ⟩
    have hlen : p.length < (L i).length := by
      have := congrArg List.length hx
      simp at this
      omega
    refine (hY p ⟨x, by rw [hx]; simp⟩ W1 hJ hlen).mono ?_
    rintro e W' (⟨rfl, h1, h2⟩ | ⟨rfl, h1⟩)
    · exact .inl ⟨rfl, ⟨p ++ [⟨x, by rw [hx]; simp⟩], by simp, h1⟩, h2⟩
    · exact .inr ⟨rfl, ⟨p ++ [⟨x, by rw [hx]; simp⟩], by simp, h1⟩⟩
  · rintro e W' ⟨h1, ⟨ys, h2, p, h3, h4⟩ | ⟨pre, h2, p, h3, h4⟩⟩
    · exact ⟨h1, .inl ⟨p, h3.trans h2, h4⟩⟩
    · exact ⟨h1, .inr ⟨p, by show p.map (·.1) <+: L i; rw [h3]; exact h2, h4⟩⟩
end Fif
end Go.Proofs.YtacpjpkhmdcagaaGreat
