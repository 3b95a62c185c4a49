/- This text proves small general laws: a region's rest in a round, and results that lie in cells. It has no conditions but those that it states. This text proves what short.Cut answers: the IDs of a side's orders that may not be, by price and time. It has no conditions but those that it states. This text proves plain laws on which orders of a book a restriction cuts, and which stay. It has no conditions but those that it states. -/
import Derived.Test.YtgaialcbpglhaaaRound
import Derived.Test.YtgaialcbpglhaaaQuiet
import Derived.Test.YtgaialcbpglhaaaSwM
import Derived.Test.YtgaialcbpglhaaaShort
import Derived.Test.YtgaialcbpglhaaaBkPl
namespace Go.Proofs.Ytgaialcbpglhaaa
set_option linter.unusedVariables false
open Go.RowKit
theorem list_roundB {n l : Nat} {P : Program} {ops : Array Oper} {Q : Exit → Act → World → Prop} {r : List Oper} {a : Act} {w : World} (hQ : ¬ LetsOut Q) (hc : calmB r.toArray = true) (h : wpList P ops Q r a w) : wpListIn (Fence.wide.inRound l) n P ops Q r a w :=
  list_round hQ r a w (fun o ho c hc' => by
    obtain ⟨i, hi⟩ := List.mem_iff_getElem?.1 ho
    exact calmB_spec hc (i := i) (by simpa using hi) c hc') h
theorem results_cell_sc {fn : Func} {p : Tmp} {ty : TypeId} (h : fn.results = #[.cell p ty]) (tmps : Array Value) (P : Program) (w : World) (g i : Nat) (v : Value) (hp : tmps.getD p undef = .pointer (some ⟨g, i, none⟩)) (hs : scalarB P ty = true) (hc : w.cell? ⟨g, i, none⟩ = some v) :
    (results fn tmps).run P w = .ok v w := by
  have hp' : tmps[p]?.getD undef = .pointer (some ⟨g, i, none⟩) := by simpa using hp
  have h1 := run_load_scalar (P := P) w ty ⟨g, i, none⟩ v hs hc
  simp only [Instr.loadAt, Instr.sureAddr, Sem.run_bind, Sem.run_pure, Result.andThen_ok] at h1
  simp [results, h, hp', asAddr, h1]
theorem results_two {fn : Func} {p q : Tmp} {t u : TypeId} (h : fn.results = #[.cell p t, .cell q u]) (tmps : Array Value) (P : Program) (w : World) (g i g2 i2 : Nat) (x y : Value) (hp : tmps.getD p undef = .pointer (some ⟨g, i, none⟩)) (hq : tmps.getD q undef = .pointer (some ⟨g2, i2, none⟩)) (hs : scalarB P t = true) (hs2 : scalarB P u = true) (hc : w.cell? ⟨g, i, none⟩ = some x) (hc2 : w.cell? ⟨g2, i2, none⟩ = some y) :
    (results fn tmps).run P w = .ok (.tuple #[x, y]) w := by
  have hp' : tmps[p]?.getD undef = .pointer (some ⟨g, i, none⟩) := by simpa using hp
  have hq' : tmps[q]?.getD undef = .pointer (some ⟨g2, i2, none⟩) := by simpa using hq
  have h1 := run_load_scalar (P := P) w t ⟨g, i, none⟩ x hs hc
  have h2 := run_load_scalar (P := P) w u ⟨g2, i2, none⟩ y hs2 hc2
  simp only [Instr.loadAt, Instr.sureAddr, Sem.run_bind, Sem.run_pure, Result.andThen_ok] at h1 h2
  simp [results, h, hp', hq', asAddr, h1, h2]
end Go.Proofs.Ytgaialcbpglhaaa
namespace Go.Proofs.Ytgaialcbpglhaaa
set_option linter.unusedVariables false
open Go.RowKit
namespace Sho
set_option maxHeartbeats 4000000
set_option maxRecDepth 10000
attribute [local go_sem] Oper.semAt_some
open Bk (bet Bs osOf srt Oo Sl)
/-- The orders of a side that may not be. -/
def cutO (f : Bool) (bid : Int) (l : List Ord) : List Ord := l.filter fun o => !mayF f bid o
def cutF (f : Bool) (bid : Int) (l : List Ord) : List Int := (cutO f bid l).map (·.id)
theorem cutF_snoc (f : Bool) (bid : Int) (l : List Ord) (o : Ord) : cutF f bid (l ++ [o]) = cutF f bid l ++ (if mayF f bid o = true then [] else [o.id]) := by
  unfold cutF cutO
  rw [List.filter_append, List.map_append]
  cases h : mayF f bid o <;> simp [h]
theorem cutF_len (f : Bool) (bid : Int) (l : List Ord) : (cutF f bid l).length ≤ l.length := by
  unfold cutF cutO
  rw [List.length_map]
  exact List.length_filter_le _ _
def ints (l : List Int) : List Value := l.map fun i => .int .i64 i
def CutPost (w : World) (l : List Int) (e : Ending) (w' : World) : Prop := ∃ v, e = .returned v ∧ w'.ownsRow w.heap.size 2 1 v l.length (ints l) ∧ Below w.heap.size w w'
/-- What the loop keeps. -/
structure Ci (ob zb : Nat) (w8 W : World) (ids : List Int) (v : Value) : Prop where
  O : Blk W ob 50 #[v]
  own : W.ownsRow zb 2 1 v ids.length (ints ids)
  low : Kc [ob] [2] zb w8 W
theorem owns_keepI {w w' : World} {B : Nat} {size n : Nat} {v : Value} {xs : List Value} {e t : TypeId} {pb : Nat} {cs : Array Value} (h : w.ownsRow B e size v n xs) (hP : Blk w pb t cs) (ht : t ≠ e) (u : Upd pb w w') : w'.ownsRow B e size v n xs := Sw.owns_upd h hP ht u
/-- An append to the row, and a store of it: what it leaves. -/
theorem Ci.post {ob zb : Nat} {w8 W w2 w3 w4 : World} {ids ids' : List Int} {v v' : Value} (h : Ci ob zb w8 W ids v) (hz : zb ≤ W.heap.size) (hb2 : Below W.heap.size W w2) (hown3 : w3.ownsRow zb 2 1 v' ids'.length (ints ids')) (hb3 : Below zb w2 w3) (hk3 : ∀ g, g < w2.heap.size → v.ownBlock ≠ some g → w3.heap[g]? = w2.heap[g]?) (hs3 : w2.heap.size ≤ w3.heap.size)
    (hO4 : Blk w4 ob 50 #[v']) (hU4 : Upd ob w3 w4) : KeepsFrom zb W w4 ∧ Kc [ob] [2] zb W w4 ∧ Ci ob zb w8 w4 ids' v' := by
  have hne : ∀ k (o : Obj), W.heap[k]? = some o → o.isCells = false → v.ownBlock ≠ some k := fun k o hk ho e => by
    rcases h.own.2 with ⟨rfl, _⟩ | ⟨g, cap, cur, rfl, _, hg, _⟩
    · cases e
    · simp only [Value.ownBlock, Option.some.injEq] at e
      subst e
      rw [hk] at hg
      cases hg
      cases ho
  have hobne : ∀ k (o : Obj), W.heap[k]? = some o → o.isCells = false → k ≠ ob := fun k o hk ho e => by
    subst e
    rw [show W.heap[_]? = _ from h.O] at hk
    cases hk
    cases ho
  have hO3 : Blk w3 ob 50 #[v] := (hk3 ob (Nat.lt_of_lt_of_le h.O.lt hb2.size) (Sw.own_ne h.own h.O (by decide))).trans (h.O.ext hb2)
  have hkc : Kc [ob] [2] zb W w4 := by
    refine ⟨⟨?_, ?_, ?_, ?_, fun q hq hn => ?_⟩, fun k cs t fr hk hn ht => ?_⟩
    · rw [hU4.os, hb3.os, hb2.os]
    · rw [hU4.tape, hb3.tape, hb2.tape]
    · rw [hU4.output, hb3.output, hb2.output]
    · rw [hU4.size]; have := hb2.size; omega
    · exact (hU4.block q (fun e => hn (by simp [e]))).trans ((hb3.block q hq).trans (hb2.block q (by omega)))
    · have hkl := (Array.getElem?_eq_some_iff.1 hk).1
      refine (hU4.block k (fun e => hn (by simp [e]))).trans ((hk3 k (Nat.lt_of_lt_of_le hkl hb2.size) (fun e => ?_)).trans ((hb2.block k hkl).trans hk))
      rcases h.own.2 with ⟨rfl, _⟩ | ⟨g, cap, cur, rfl, _, hg, _⟩
      · cases e
      · simp only [Value.ownBlock, Option.some.injEq] at e
        subst e
        rw [hk] at hg
        cases hg
        exact ht (by simp)
  refine ⟨⟨by rw [hU4.size]; have := hb2.size; omega, fun k o _ hk ho => ?_⟩, hkc, ⟨hO4, Sw.owns_upd hown3 hO3 (by decide) hU4, h.low.trans hkc⟩⟩
  have hkl := (Array.getElem?_eq_some_iff.1 hk).1
  exact (hU4.block k (hobne k o hk ho)).trans ((hk3 k (Nat.lt_of_lt_of_le hkl hb2.size) (hne k o hk ho)).trans ((hb2.block k hkl).trans hk))
theorem ints_one (i : Int) : ∀ r ∈ [[Value.int .i64 i]], r.length = 1 ∧ ∀ u ∈ r, u.oneCell' = true := by
  intro r hr
  rw [List.mem_singleton.1 hr]
  exact ⟨rfl, fun u hu => by rw [List.mem_singleton.1 hu]; rfl⟩
section
variable {w : World} {c : Nat → Nat} {b N most k : Nat} {ss : List Sl}
theorem cut_any (S : Bs w c b N most k ss) (f : Bool) (bid : Int) : Calls Try.prog 22 #[.agg #[.bool f, .int .i64 bid], .pointer (some ⟨b, 0, none⟩)] w (CutPost w (cutF f bid (srt 1 (osOf ss)))) := by
  have hT0 : Blk ((w.alloc (.cells #[.bool f, .int .i64 bid] 40)).alloc (.cells #[.slice none 0 0] 50)) w.heap.size 40 #[.bool f, .int .i64 bid] := (Blk.new w _ _ _ rfl).alloc _
  have hR0 : Blk ((w.alloc (.cells #[.bool f, .int .i64 bid] 40)).alloc (.cells #[.slice none 0 0] 50)) (w.heap.size + 1) 50 #[.slice none 0 0] := Blk.new _ _ _ _ (sz_alloc _ _)
  have hb0 : Below w.heap.size w ((w.alloc (.cells #[.bool f, .int .i64 bid] 40)).alloc (.cells #[.slice none 0 0] 50)) := by (repeat (first | with_reducible exact Below.refl _ _ | (with_reducible assumption) | (with_reducible refine below_alloc ?_ _) | (with_reducible refine below_ext (w1 := ?_) ?_ ?_; rotate_left 2; (with_reducible assumption)) | (with_reducible refine Below.setCell ?_ ?_ _; rotate_left; ((try simp) <;> omega)) | (with_reducible refine Below.drew ?_) | (with_reducible refine below_drewN ?_ _) | fail))
  have hz0 : ((w.alloc (.cells #[.bool f, .int .i64 bid] 40)).alloc (.cells #[.slice none 0 0] 50)).heap.size = w.heap.size + 1 + 1 := by rw [sz_alloc, sz_alloc]
  refine calls_of_wp_marks Try.func22 rfl ?_
  simp only [Try.ntmps22, List.size_toArray, List.length_cons, List.length_nil, Nat.reduceAdd, Nat.reduceSub, Array.replicate_succ, Array.replicate_zero, List.push_toArray, List.append_toArray, List.nil_append, List.cons_append]
  generalize hw0 : (w.alloc (.cells #[.bool f, .int .i64 bid] 40)).alloc (.cells #[.slice none 0 0] 50) = w0 at hT0 hR0 hb0 hz0
  have HW0 := Lib.hid hw0
  have HZ0 := Lib.hid hz0
  clear hw0 hz0
  go_wp2_with fail
  rw [HW0.out]
  refine (Bk.each_any (some ⟨b, 0, none⟩) 1 _).mono ?_
  rintro e w8 ⟨rfl, hQ8, hI8, hb8⟩
  go_wp2_with fail
  have hzw := HZ0.out
  have hT8 := hT0.ext hb8
  have hR8 := hR0.ext hb8
  have hB8 := below_ext hb0 hb8
  have hz8 := hb8.size
  have S8 := S.ext hB8
  have h9p : c (w.heap.size + 1) = 9 := by
    obtain ⟨d, B, I⟩ := S
    exact B.out _ (by omega)
  have hfew : (srt 1 (osOf ss)).length ≤ 500 := Nat.le_trans (Sw.srt_le _ _) (Sw.Bs.few S)
  obtain ⟨ob, hob⟩ : ∃ n, n = w.heap.size + 1 := ⟨_, rfl⟩
  rw [← hob] at hR8 h9p
  try rw [← hob]
  have hfar : w.heap.size < ob ∧ ob < w8.heap.size := by omega
  have hseq := Lib.hid (Bk.beach_all S8 1 _ _ hQ8 hI8 [ob] [2] (fun t h => by rw [List.mem_singleton.1 h]; decide) (fun q hq => by rw [List.mem_singleton.1 hq]; exact ⟨h9p, by omega⟩))
  have HL := Lib.hid hfew
  clear hQ8 hI8 hb8 hob hzw hz8 S8 h9p HZ0 HW0 S hT0 hR0 hb0 hfew
  refine' wp_rangeFuncOF [ob] [2] (gf := 114) (by rfl) (enters_of Try.func114 (by kernel_rfl) rfl) hseq.out (fun _ => rfl)
    (fun pre W => ∃ v, Ci ob w8.heap.size w8 W (cutF f bid (pre.map (·.1))) v)
    (fun cd pre W => False)
    ?I ?Ix ?h0 _ (fun x bx W => w8.heap.size ≤ bx ∧ Blk W bx 43 x.1.arr) ?hBx ?assign ?body ?done ?stop
  case I =>
    rintro pre W W' row ⟨v, h⟩ hg hr
    exact ⟨v, h.O.own hg hr, Sw.owns_own h.own hg hr, Bk.kc_own w8 (Nat.le_refl _) (Nat.le_refl _) () W W' row h.low hg hr⟩
  case Ix =>
    rintro cd pre W W' row h hg hr
    exact h
  case h0 => exact ⟨.slice none 0 0, hR8, World.ownsRow_nil _ _ _ _, Kc.refl _ _ _ _⟩
  case hBx =>
    rintro x bx _ W W' row ⟨h2, h3⟩ hg hr
    exact ⟨h2, h3.own hg hr⟩
  case assign =>
    intro l pre x W K hI hK
    obtain ⟨v, h⟩ := hI
    have hsz := h.low.low.size
    have hX0 : Blk (W.alloc (.cells Are.ord0.arr 43)) W.heap.size 43 Are.ord0.arr := Blk.new _ _ _ _ rfl
    unfold Bk.encO
    refine round_region_lit (by kernel_rfl) (fun ⟨_, _, h⟩ => h) ?_
    go_wp2_with (first | ((with_reducible show wpList _ _ _ (⟨_, .store 43 _ _, _, _, _, _⟩ :: _) _ _); refine wpList_store_blk (by rfl) 43 _ _ (by rfl) _ _ (by rfl) (by rfl) _ _ hX0 (by kernel_rfl) (by rfl) ?_ ?_; (next => first | (simp [Value.oneCell']; done) | (simp [Value.oneCell']; done) | exact Are.ordArr_one _); intro W5 hX5 hU5) | fail)
    have hW5 : Below W.heap.size W W5 := below_upd (by (repeat (first | with_reducible exact Below.refl _ _ | (with_reducible assumption) | (with_reducible refine below_alloc ?_ _) | (with_reducible refine below_ext (w1 := ?_) ?_ ?_; rotate_left 2; (with_reducible assumption)) | (with_reducible refine Below.setCell ?_ ?_ _; rotate_left; ((try simp) <;> omega)) | (with_reducible refine Below.drew ?_) | (with_reducible refine below_drewN ?_ _) | fail))) (Nat.le_refl _) hU5
    try simp only [Act.put]
    obtain ⟨bx, hbe⟩ : ∃ b, b = W.heap.size := ⟨_, rfl⟩
    rw [← hbe] at hX5 ⊢
    have hk5 : Kc [ob] [2] w8.heap.size W W5 := Kc.of_below hW5 hsz
    exact hK bx W5 (keepsFrom_below hW5) hk5 ⟨v, h.O.ext hW5, owns_ext h.own hW5, h.low.trans hk5⟩ ⟨by omega, hX5⟩
  case body =>
    rintro l pre ⟨o, ho⟩ bx W ⟨v, M⟩ ⟨hbx, hX⟩ hlt2
    have hlow := M.low
    have hlw := hlow.low.size
    have hTW : Blk W w.heap.size 40 #[.bool f, .int .i64 bid] := hlow.low_blk hT8 (by simp; omega) (by omega)
    have hO := M.O
    have hpl : (cutF f bid (pre.map (·.1))).length ≤ 101000 := Nat.le_trans (cutF_len _ _ _) (by rw [List.length_map]; omega)
    have lX := hX.lt
    have lO := hO.lt
    have t0 : W.cell? ⟨w.heap.size, 0, none⟩ = some (.bool f) := hTW.cell 0
    have t1 : W.cell? ⟨w.heap.size, 1, none⟩ = some (.int .i64 bid) := hTW.cell 1
    have hmap : (pre ++ [(⟨o, ho⟩ : Oo 1 (osOf ss))]).map (·.1) = pre.map (·.1) ++ [o] := by simp
    have HC : Hid (cutF f bid ((pre ++ [(⟨o, ho⟩ : Oo 1 (osOf ss))]).map (·.1)) = cutF f bid (pre.map (·.1)) ++ (if mayF f bid o = true then [] else [o.id])) := Lib.hid (by rw [hmap, cutF_snoc])
    have HM := Lib.hid M
    have hMY := Lib.hid (fun W => may_any f bid o W)
    clear hmap hseq hT8 hR8 hB8 hlow M HL
    cases hmy : mayF f bid o with
    | true =>
      rw [hmy] at hMY HC
      clear hmy
      refine wpIn_block ?_
      refine wpIn_seq ?_
      refine round_region_lit (by kernel_rfl) (fun ⟨_, _, h⟩ => h) ?_
      go_wp2_with (first | ((with_reducible show wpList _ _ _ (⟨_, .load 40 _, _, _, _, _⟩ :: _) _ _); refine wpList_load_ho 40 _ (by rfl) (by rfl) ?_ (.pointer (some ⟨_, 0, none⟩)) (by rfl) ?_ _ Try.underlying40 rfl ?_ ?_; rotate_left; (next => (repeat (first | (with_reducible refine BlkAt.new _ _ _ _ ?_; ((try simp) <;> omega)) | (with_reducible assumption) | (with_reducible refine Blk.at (t := ?_) ?_; rotate_left; with_reducible assumption) | with_reducible refine BlkAt.alloc ?_ _ | with_reducible refine BlkAt.drew ?_ | (with_reducible refine BlkAt.setSame ?_ _ _) | (with_reducible refine BlkAt.setCell ?_ ?_ _; rotate_left; ((try simp) <;> omega)) | (with_reducible refine BlkAt.ext (w := ?_) ?_ ?_; rotate_left 2; (with_reducible assumption)) | fail))); (next => kernel_rfl)) | ((with_reducible show wpList _ _ _ (⟨_, .load 43 _, _, _, _, _⟩ :: _) _ _); refine wpList_load_ho 43 _ (by rfl) (by rfl) ?_ (.pointer (some ⟨_, 0, none⟩)) (by rfl) ?_ _ Try.underlying43 rfl ?_ ?_; rotate_left; (next => (repeat (first | (with_reducible refine BlkAt.new _ _ _ _ ?_; ((try simp) <;> omega)) | (with_reducible assumption) | (with_reducible refine Blk.at (t := ?_) ?_; rotate_left; with_reducible assumption) | with_reducible refine BlkAt.alloc ?_ _ | with_reducible refine BlkAt.drew ?_ | (with_reducible refine BlkAt.setSame ?_ _ _) | (with_reducible refine BlkAt.setCell ?_ ?_ _; rotate_left; ((try simp) <;> omega)) | (with_reducible refine BlkAt.ext (w := ?_) ?_ ?_; rotate_left 2; (with_reducible assumption)) | fail))); (next => kernel_rfl)) | (go_at_call 18; refine (hMY.out _).mono ?_; rintro e w2 ⟨rfl, hb2⟩) | fail)
      gi_wp2_with fail
      have hk : Kc [ob] [2] w8.heap.size W w2 := Kc.of_below hb2 hlw
      refine ⟨keepsFrom_below hb2, hk, v, ?_⟩
      rw [HC.out, if_pos trivial, List.append_nil]
      exact ⟨hO.ext hb2, owns_ext HM.out.own hb2, HM.out.low.trans hk⟩
    | false =>
      rw [hmy] at hMY HC
      clear hmy
      refine wpIn_block ?_
      refine wpIn_seq ?_
      refine round_region_lit (by kernel_rfl) (fun ⟨_, _, h⟩ => h) ?_
      go_wp2_with (first | ((with_reducible show wpList _ _ _ (⟨_, .load 40 _, _, _, _, _⟩ :: _) _ _); refine wpList_load_ho 40 _ (by rfl) (by rfl) ?_ (.pointer (some ⟨_, 0, none⟩)) (by rfl) ?_ _ Try.underlying40 rfl ?_ ?_; rotate_left; (next => (repeat (first | (with_reducible refine BlkAt.new _ _ _ _ ?_; ((try simp) <;> omega)) | (with_reducible assumption) | (with_reducible refine Blk.at (t := ?_) ?_; rotate_left; with_reducible assumption) | with_reducible refine BlkAt.alloc ?_ _ | with_reducible refine BlkAt.drew ?_ | (with_reducible refine BlkAt.setSame ?_ _ _) | (with_reducible refine BlkAt.setCell ?_ ?_ _; rotate_left; ((try simp) <;> omega)) | (with_reducible refine BlkAt.ext (w := ?_) ?_ ?_; rotate_left 2; (with_reducible assumption)) | fail))); (next => kernel_rfl)) | ((with_reducible show wpList _ _ _ (⟨_, .load 43 _, _, _, _, _⟩ :: _) _ _); refine wpList_load_ho 43 _ (by rfl) (by rfl) ?_ (.pointer (some ⟨_, 0, none⟩)) (by rfl) ?_ _ Try.underlying43 rfl ?_ ?_; rotate_left; (next => (repeat (first | (with_reducible refine BlkAt.new _ _ _ _ ?_; ((try simp) <;> omega)) | (with_reducible assumption) | (with_reducible refine Blk.at (t := ?_) ?_; rotate_left; with_reducible assumption) | with_reducible refine BlkAt.alloc ?_ _ | with_reducible refine BlkAt.drew ?_ | (with_reducible refine BlkAt.setSame ?_ _ _) | (with_reducible refine BlkAt.setCell ?_ ?_ _; rotate_left; ((try simp) <;> omega)) | (with_reducible refine BlkAt.ext (w := ?_) ?_ ?_; rotate_left 2; (with_reducible assumption)) | fail))); (next => kernel_rfl)) | (go_at_call 18; refine (hMY.out _).mono ?_; rintro e w2 ⟨rfl, hb2⟩) | fail)
      have hO2 := hO.ext hb2
      have hX2 : Blk w2 bx 43 o.arr := Blk.ext hX hb2
      have o2 : w2.cell? ⟨ob, 0, none⟩ = some v := hO2.cell 0
      have x2 : w2.cell? ⟨bx, 0, none⟩ = some (.int .i64 o.id) := hX2.cell 0
      have hbl2 : Blk (w2.alloc (.cells #[.int .i64 o.id] 2)) w2.heap.size 2 #[.int .i64 o.id] := Blk.new _ _ _ _ rfl
      have hbe2 : Below w2.heap.size w2 (w2.alloc (.cells #[.int .i64 o.id] 2)) := by (repeat (first | with_reducible exact Below.refl _ _ | (with_reducible assumption) | (with_reducible refine below_alloc ?_ _) | (with_reducible refine below_ext (w1 := ?_) ?_ ?_; rotate_left 2; (with_reducible assumption)) | (with_reducible refine Below.setCell ?_ ?_ _; rotate_left; ((try simp) <;> omega)) | (with_reducible refine Below.drew ?_) | (with_reducible refine below_drewN ?_ _) | fail))
      have hown2 := owns_ext (owns_ext HM.out.own hb2) hbe2
      have hz2 : w8.heap.size ≤ (w2.alloc (.cells #[.int .i64 o.id] 2)).heap.size := by have := hb2.size; have := hbe2.size; omega
      have HB := Lib.hid (below_ext hb2 hbe2)
      have HOW := Lib.hid hown2
      have HZ := Lib.hid hz2
      clear hown2 hz2 hbe2
      refine wpIn_cond_true (by rfl) ?_
      refine round_region_lit (by kernel_rfl) (fun ⟨_, _, h⟩ => h) ?_
      go_wp2_with (first | ((with_reducible show wpList _ _ _ (⟨_, .call ⟨.builtin .append, _, _⟩, _, _, _, _⟩ :: _) _ _); refine wpList_append_rd (by rfl) _ _ _ (by rfl) w8.heap.size 2 (.int .i64 0) 1 8 Try.underlying50 (by kernel_rfl) ⟨rfl, by decide⟩ v _ _ (by rfl) HOW.out (some ⟨w2.heap.size, 0, none⟩) 1 1 [[.int .i64 o.id]] (by rfl) ?_ ⟨rfl, ints_one o.id⟩ (by simp) ?_ HZ.out ?_; (next => exact rd_own hbl2 (by simp) (n := 1) (by simp)); (next => unfold maxLen; omega); intro v3 w3 hown3 hb3 hz3 hk3; obtain ⟨A3, cp3, rfl⟩ := Sw.owns_slice hown3; have hO3 : Blk w3 ob 50 #[v] := (hk3 ob (Nat.lt_of_lt_of_le lO HB.out.size) (Sw.own_ne HM.out.own HM.out.O (by decide))).trans (hO.ext HB.out)) | ((with_reducible show wpList _ _ _ (⟨_, .store _ _ _, _, _, _, _⟩ :: _) _ _); refine wpList_store_fld (by rfl) _ _ _ (by rfl) _ _ (by rfl) _ (by rfl) _ _ hO3 ?_ ?_ (by rfl) (by rfl) ?_; (next => first | omega | ((try simp) <;> omega)); (next => kernel_rfl); intro w4 hO4 hU4) | fail)
      have hown3' : w3.ownsRow w8.heap.size 2 1 (.slice A3 ((cutF f bid (pre.map (·.1))).length + 1) cp3) (cutF f bid ((pre ++ [(⟨o, ho⟩ : Oo 1 (osOf ss))]).map (·.1))).length (ints (cutF f bid ((pre ++ [(⟨o, ho⟩ : Oo 1 (osOf ss))]).map (·.1)))) := by
        rw [HC.out]
        simpa [ints] using hown3
      obtain ⟨k1, k2, k3⟩ := Ci.post HM.out hlw HB.out hown3' hb3 hk3 hz3 hO4 hU4
      exact ⟨k1, k2, _, k3⟩
  case done =>
    rintro D ys W hD hys ⟨v, M⟩ hK
    have hO := M.O
    have hlw := M.low.low.size
    have hBW : Below w.heap.size w W := hB8.trans ⟨M.low.low.os, M.low.low.tape, M.low.low.output, M.low.low.size, fun q hq => M.low.low.block q (by omega) (by simp; omega)⟩
    have hown : W.ownsRow w.heap.size 2 1 v (cutF f bid (srt 1 (osOf ss))).length (ints (cutF f bid (srt 1 (osOf ss)))) := by
      have h := M.own
      rw [hys] at h
      exact Sw.owns_mono h (by omega)
    have o0 : W.cell? ⟨ob, 0, none⟩ = some v := hO.cell 0
    have f0 : W.frozen? ⟨ob, 0, none⟩ = false := hO.frozen 0
    have hKl : D < W.heap.size := (Array.getElem?_eq_some_iff.1 hK).1
    obtain ⟨A, cp, rfl⟩ := Sw.owns_slice hown
    clear hseq HL M
    go_wp2_with fail
    have u := Upd.setCell W ⟨ob, 0, none⟩ (.slice A (cutF f bid (srt 1 (osOf ss))).length cp)
    have hO2 := hO.setCell 0 (.slice A (cutF f bid (srt 1 (osOf ss))).length cp)
    have hown2 := Sw.owns_upd hown hO (by decide) u
    have hne : D ≠ ob := by omega
    have hK2 := (u.block D hne).trans hK
    refine bodyPostM_ret rfl hK2 (results_cell_sc rfl _ _ _ ob 0 _ (by rfl) (by kernel_rfl) ((cell_mark (Ne.symm hne)).trans (hO2.cell 0))) ⟨_, rfl, Sw.owns_keepB hown2 (fun r cs fr hr => World.putObj_heap_other (fun e => ?_)), below_mark (below_upd hBW (show w.heap.size ≤ ob by omega) u) (by omega) hK2⟩
    subst e
    rw [hK2] at hr
    cases hr
  case stop =>
    rintro D cd pre W hD hp h hK
    exact h.elim
end
end Sho
end Go.Proofs.Ytgaialcbpglhaaa
namespace Go.Proofs.Ytgaialcbpglhaaa
set_option linter.unusedVariables false
namespace Sho
open Bk (bet srt sdO fndI rmI)
/-- The orders whose IDs are not among some. -/
def leftO (ids : List Int) (os : List Ord) : List Ord := os.filter fun o => !decide (o.id ∈ ids)
theorem left_nil (os : List Ord) : leftO [] os = os := by
  unfold leftO
  exact List.filter_eq_self.2 (fun o _ => by simp)
theorem left_rm (ids : List Int) (id : Int) (os : List Ord) : rmI id (leftO ids os) = leftO (ids ++ [id]) os := by
  unfold rmI leftO
  rw [List.filter_filter]
  congr 1
  funext o
  by_cases h1 : o.id = id <;> by_cases h2 : o.id ∈ ids <;> simp [h1, h2]
theorem may_covers {b : Bool} {s : Int} {o : Ord} (h : mayF b s o = false) : o.side = 1 := by
  unfold mayF at h
  simp only [Bool.or_eq_false_iff, Bool.not_eq_false'] at h
  have h2 := h.1.2
  unfold coversF at h2
  simp only [Bool.and_eq_true, decide_eq_true_eq] at h2
  exact h2.1
theorem srt_mem1 {os : List Ord} {o : Ord} : o ∈ srt 1 os ↔ o ∈ os ∧ o.side = 1 := by
  rw [(Bk.srt_perm 1 os).mem_iff]
  unfold sdO
  rw [List.mem_filter, decide_eq_true_eq]
theorem cut_mem {b : Bool} {s : Int} {os : List Ord} {o : Ord} (ho : o ∈ os) (h : mayF b s o = false) : o.id ∈ cutF b s (srt 1 os) := by
  unfold cutF cutO
  exact List.mem_map.2 ⟨o, List.mem_filter.2 ⟨srt_mem1.2 ⟨ho, may_covers h⟩, by rw [h]; rfl⟩, rfl⟩
theorem cut_more {s t : Int} (h : s ≤ t) : ∀ l : List Ord, (cutF true s l).length ≤ (cutF true t l).length := by
  intro l
  unfold cutF cutO
  rw [List.length_map, List.length_map, ← List.countP_eq_length_filter, ← List.countP_eq_length_filter]
  refine List.countP_mono_left (fun o _ => ?_)
  unfold mayF
  cases coversF o
  · simp
  · simp
    omega
/-- An ID that is cut, when those ahead of it are gone. -/
theorem cut_at {s : Int} {os : List Ord} (hn : (os.map (·.id)).Nodup) {i : Nat} (hi : i < (cutF true s (srt 1 os)).length) : ∃ o, (cutF true s (srt 1 os))[i] = o.id ∧ o ∈ os ∧ mayF true s o = false ∧ fndI o.id (leftO ((cutF true s (srt 1 os)).take i) os) = some o := by
  have hi2 : i < (cutO true s (srt 1 os)).length := by
    unfold cutF at hi
    rwa [List.length_map] at hi
  have hm := List.getElem_mem hi2
  have hm2 := List.mem_filter.1 hm
  have ho := (srt_mem1.1 hm2.1).1
  have hid : (cutF true s (srt 1 os))[i] = (cutO true s (srt 1 os))[i].id := by simp only [cutF, List.getElem_map]
  have hnd : (cutF true s (srt 1 os)).Nodup := by
    refine List.Nodup.sublist (List.Sublist.map _ List.filter_sublist) ?_
    exact (((Bk.srt_perm 1 os).map (·.id)).nodup_iff).2 (hn.sublist (List.Sublist.map _ List.filter_sublist))
  refine ⟨_, hid, ho, by simpa using hm2.2, ?_⟩
  have hnt : (cutO true s (srt 1 os))[i].id ∉ (cutF true s (srt 1 os)).take i := by
    rw [← hid]
    intro h
    obtain ⟨j, hj, e⟩ := List.getElem_of_mem h
    rw [List.getElem_take] at e
    rw [List.length_take] at hj
    have := (List.getElem_inj hnd).1 e
    omega
  have hl : (cutO true s (srt 1 os))[i] ∈ leftO ((cutF true s (srt 1 os)).take i) os := List.mem_filter.2 ⟨ho, by simp only [decide_eq_false hnt, Bool.not_false]⟩
  exact Bk.fnd_mem (hn.sublist (List.Sublist.map _ List.filter_sublist)) hl
/-- What stays may be. -/
theorem left_may {s : Int} {os : List Ord} {o : Ord} (ho : o ∈ leftO (cutF true s (srt 1 os)) os) : mayF true s o = true := by
  obtain ⟨h1, h2⟩ := List.mem_filter.1 ho
  cases hm : mayF true s o with
  | true => rfl
  | false =>
    have := cut_mem h1 hm
    simp [this] at h2
theorem cut_left {s : Int} {os : List Ord} : cutF true s (srt 1 (leftO (cutF true s (srt 1 os)) os)) = [] := by
  unfold cutF
  rw [List.map_eq_nil_iff]
  unfold cutO
  refine List.filter_eq_nil_iff.2 (fun o ho => ?_)
  have := left_may (srt_mem1.1 ho).1
  simp [this]
theorem cut_off (s : Int) (l : List Ord) : cutF false s l = [] := by
  unfold cutF cutO
  rw [List.map_eq_nil_iff]
  exact List.filter_eq_nil_iff.2 (fun o _ => by simp [mayF])
theorem left_fnd {ids : List Int} {os : List Ord} (id : Int) (x : Ord) (h : fndI id (leftO ids os) = some x) : x ∈ leftO ids os := by
  unfold fndI at h
  exact List.mem_of_find?_eq_some h
end Sho
end Go.Proofs.Ytgaialcbpglhaaa
