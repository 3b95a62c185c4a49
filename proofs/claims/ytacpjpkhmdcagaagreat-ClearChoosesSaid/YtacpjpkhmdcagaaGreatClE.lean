/- This text proves the contract of (*Curve).Prices: the prices of a curve in a band. It has no conditions but those that it states. This text proves the contract of slices.Compact over a row of its own that rises and holds one value twice at most. It has no conditions but those that it states. This text proves the contract of clear.allowed: the prices that are allowed in a band. It has no conditions but those that it states. This text proves the contracts of clear.whole and clear.cut: what a band has of all prices. It has no conditions but those that it states. This text proves the contracts of cmp.Compare, cmp.Or, clear.order and clear.Less, and of the document's Less. It has no conditions but those that it states. -/
import Derived.Test.YtacpjpkhmdcagaaGreatCuT
import Derived.Test.YtacpjpkhmdcagaaGreatSwM
import Derived.Test.YtacpjpkhmdcagaaGreatFree
import Derived.Test.YtacpjpkhmdcagaaGreatRow
import Derived.Test.YtacpjpkhmdcagaaGreatCuS
import Derived.Test.YtacpjpkhmdcagaaGreatLadP
namespace Go.Proofs.YtacpjpkhmdcagaaGreat
set_option linter.unusedVariables false
open Go.RowKit
namespace Cl
set_option maxHeartbeats 4000000
set_option maxRecDepth 10000
open Cu
def ints (l : List Int) : List Value := l.map fun i => .int .i64 i
/-- The prices of points in a band. -/
def pf (lo hi : Int) (ps : List Pt) : List Int := (ps.filter fun x => decide (lo ≤ x.price ∧ x.price ≤ hi)).map (·.price)
theorem pf_snoc (lo hi : Int) (ps : List Pt) (x : Pt) : pf lo hi (ps ++ [x]) = pf lo hi ps ++ (if lo ≤ x.price ∧ x.price ≤ hi then [x.price] else []) := by
  unfold pf
  rw [List.filter_append, List.map_append]
  by_cases h : lo ≤ x.price ∧ x.price ≤ hi
  · rw [if_pos h]; simp [h]
  · rw [if_neg h]; simp only [List.filter_cons, decide_eq_false h]; simp
theorem pf_len (lo hi : Int) (ps : List Pt) : (pf lo hi ps).length ≤ ps.length := by
  unfold pf
  rw [List.length_map]
  exact List.length_filter_le _ _
theorem pf_pts (lo hi : Int) (os : List Ord) (l : List Int) : pf lo hi (pts os l) = l.filter fun p => decide (lo ≤ p ∧ p ≤ hi) := by
  unfold pf pts
  rw [List.filter_map, List.map_map]
  induction l with
  | nil => rfl
  | cons a l ih =>
    simp only [List.filter_cons, Function.comp] at ih ⊢
    by_cases h : lo ≤ a ∧ a ≤ hi
    · simp only [decide_eq_true h, if_true, List.map_cons, Function.comp]
      rw [← ih]
    · simp only [decide_eq_false h]
      exact ih
theorem ints_one (i : Int) : ∀ r ∈ [[Value.int .i64 i]], r.length = 1 ∧ ∀ u ∈ r, u.oneCell' = true := by
  intro r hr
  rw [List.mem_singleton.1 hr]
  exact ⟨rfl, fun u hu => by rw [List.mem_singleton.1 hu]; rfl⟩
/-- What the loop keeps. -/
structure Cj (ob zb : Nat) (w9 W : World) (ids : List Int) (v : Value) : Prop where
  O : Blk W ob 48 #[v]
  own : W.ownsRow zb 2 1 v ids.length (ints ids)
  low : ButL [ob] zb w9 W
theorem Cj.post {ob zb : Nat} {w9 W w2 w3 w4 : World} {ids ids' : List Int} {v v' : Value} (h : Cj ob zb w9 W ids v) (hz : zb ≤ W.heap.size) (hb2 : Below W.heap.size W w2) (hown3 : w3.ownsRow zb 2 1 v' ids'.length (ints ids')) (hb3 : Below zb w2 w3) (hk3 : ∀ g, g < w2.heap.size → v.ownBlock ≠ some g → w3.heap[g]? = w2.heap[g]?) (hs3 : w2.heap.size ≤ w3.heap.size)
    (hO4 : Blk w4 ob 48 #[v']) (hU4 : Upd ob w3 w4) : KeepsFrom zb W w4 ∧ ButL [ob] zb W w4 ∧ Cj ob zb w9 w4 ids' v' := by
  have hne : ∀ k (o : Obj), W.heap[k]? = some o → o.isCells = false → v.ownBlock ≠ some k := fun k o hk ho e => by
    rcases h.own.2 with ⟨rfl, _⟩ | ⟨g, cap, cur, rfl, _, hg, _⟩
    · cases e
    · simp only [Value.ownBlock, Option.some.injEq] at e
      subst e
      rw [hk] at hg
      cases hg
      cases ho
  have hobne : ∀ k (o : Obj), W.heap[k]? = some o → o.isCells = false → k ≠ ob := fun k o hk ho e => by
    subst e
    rw [show W.heap[_]? = _ from h.O] at hk
    cases hk
    cases ho
  have hO3 : Blk w3 ob 48 #[v] := (hk3 ob (Nat.lt_of_lt_of_le h.O.lt hb2.size) (Sw.own_ne h.own h.O (by decide))).trans (h.O.ext hb2)
  have hkc : ButL [ob] zb W w4 := by
    refine ⟨?_, ?_, ?_, ?_, fun q hq hn => ?_⟩
    · rw [hU4.os, hb3.os, hb2.os]
    · rw [hU4.tape, hb3.tape, hb2.tape]
    · rw [hU4.output, hb3.output, hb2.output]
    · rw [hU4.size]; have := hb2.size; omega
    · exact (hU4.block q (fun e => hn (by simp [e]))).trans ((hb3.block q hq).trans (hb2.block q (by omega)))
  refine ⟨⟨by rw [hU4.size]; have := hb2.size; omega, fun k o _ hk ho => ?_⟩, hkc, ⟨hO4, Sw.owns_upd hown3 hO3 (by decide) hU4, h.low.trans hkc⟩⟩
  have hkl := (Array.getElem?_eq_some_iff.1 hk).1
  exact (hU4.block k (hobne k o hk ho)).trans ((hk3 k (Nat.lt_of_lt_of_le hkl hb2.size) (hne k o hk ho)).trans ((hb2.block k hkl).trans hk))
attribute [local go_sem] Oper.semAt_some in
theorem prices_any {w : World} {cb : Nat} {ps : List Pt} {A : Option Addr} {cap : Nat} (C : Cv w cb ps A cap) (lo hi : Int) : Calls Tryz.prog 61 #[.pointer (some ⟨cb, 0, none⟩), .int .i64 lo, .int .i64 hi] w fun e w' => (∃ v, e = .returned v ∧ w'.ownsRow w.heap.size 2 1 v (pf lo hi ps).length (ints (pf lo hi ps))) ∧ Below w.heap.size w w' := by
  have hL : Blk (((w.alloc (.cells #[.int .i64 lo] 2)).alloc (.cells #[.int .i64 hi] 2)).alloc (.cells #[.slice none 0 0] 48)) w.heap.size 2 #[.int .i64 lo] := ((Blk.new w _ _ _ rfl).alloc _).alloc _
  have hH : Blk (((w.alloc (.cells #[.int .i64 lo] 2)).alloc (.cells #[.int .i64 hi] 2)).alloc (.cells #[.slice none 0 0] 48)) (w.heap.size + 1) 2 #[.int .i64 hi] := (Blk.new _ _ _ _ (sz_alloc _ _)).alloc _
  have hO : Blk (((w.alloc (.cells #[.int .i64 lo] 2)).alloc (.cells #[.int .i64 hi] 2)).alloc (.cells #[.slice none 0 0] 48)) (w.heap.size + 1 + 1) 48 #[.slice none 0 0] := Blk.new _ _ _ _ (by simp only [sz_alloc])
  have hb0 : Below w.heap.size w (((w.alloc (.cells #[.int .i64 lo] 2)).alloc (.cells #[.int .i64 hi] 2)).alloc (.cells #[.slice none 0 0] 48)) := by (repeat (first | with_reducible exact Below.refl _ _ | (with_reducible assumption) | (with_reducible refine below_alloc ?_ _) | (with_reducible refine below_ext (w1 := ?_) ?_ ?_; rotate_left 2; (with_reducible assumption)) | (with_reducible refine Below.setCell ?_ ?_ _; rotate_left; ((try simp) <;> omega)) | (with_reducible refine Below.drew ?_) | (with_reducible refine below_drewN ?_ _) | fail))
  refine calls_of_wp_marks Tryz.func61 rfl ?_
  simp only [Tryz.ntmps61, List.size_toArray, List.length_cons, List.length_nil, Nat.reduceAdd, Nat.reduceSub, Array.replicate_succ, Array.replicate_zero, List.push_toArray, List.append_toArray, List.nil_append, List.cons_append]
  generalize hw0 : ((w.alloc (.cells #[.int .i64 lo] 2)).alloc (.cells #[.int .i64 hi] 2)).alloc (.cells #[.slice none 0 0] 48) = w0 at hL hH hO hb0
  have HW0 := Lib.hid hw0
  clear hw0
  have C0 := C.ext hb0
  have HP := Lib.hid (points_any C0)
  have hO0l := hO.lt
  go_wp2_with fail
  rw [HW0.out]
  refine HP.out.mono ?_
  rintro e w9 ⟨rfl, hQ9, hb9⟩
  go_wp2_with fail
  obtain ⟨ob, hob⟩ : ∃ b, b = w.heap.size + 1 + 1 := ⟨_, rfl⟩
  rw [← hob] at hO hO0l ⊢
  have hz9 := hb9.size
  have hql := hQ9.lt
  have hseq := Lib.hid (vals_stops w0.heap.size hQ9 (C0.ext hb9).rd C.len [ob] ⟨by simp; omega, fun h0 a ha => by
    obtain ⟨ab, ao, e, hm⟩ := Bk.rd_rngB C.rd h0
    rw [e] at ha
    cases ha
    have h1 : ab < w.heap.size := cell_lt (hm 0 _ rfl)
    simp
    omega⟩)
  have hL9 := hL.ext hb9
  have hH9 := hH.ext hb9
  have hO9 := hO.ext hb9
  have hB9 := below_ext hb0 hb9
  have hlen := C.len
  have hfar : w.heap.size + 1 < ob ∧ ob < w9.heap.size := by omega
  clear hQ9 C0 C hb9 hb0 hL hH hO HP HW0 hz9 hql hO0l hob
  refine' wp_rangeFuncHF (α := Pt) [ob] (gf := 113) (by rfl) (enters_of Tryz.func113 (by kernel_rfl) rfl) hseq.out (fun _ => rfl)
    (fun pre W => ∃ v, Cj ob w9.heap.size w9 W (pf lo hi pre) v)
    (fun cd pre W => False)
    ?I ?Ix ?h0 _ (fun x bx W => w9.heap.size ≤ bx ∧ Blk W bx 67 x.arr) ?hBx ?assign ?body ?done ?stop
  case I =>
    rintro pre W W' row ⟨v, h⟩ hg hr
    exact ⟨v, h.O.own hg hr, Sw.owns_own h.own hg hr, h.low.trans (ButL.of_below (grown_below hg h.low.size (fun g e => (hr g e).1)))⟩
  case Ix =>
    rintro cd pre W W' row h hg hr
    exact h
  case h0 => exact ⟨.slice none 0 0, hO9, World.ownsRow_nil _ _ _ _, ButL.refl _ _ _⟩
  case hBx =>
    rintro x bx _ W W' row ⟨h2, h3⟩ hg hr
    exact ⟨h2, h3.own hg hr⟩
  case assign =>
    intro l pre x W K hI hK
    obtain ⟨v, h⟩ := hI
    have hsz := h.low.size
    have hX0 : Blk (W.alloc (.cells #[.int .i64 0, .int .i64 0, .int .i64 0] 67)) W.heap.size 67 #[.int .i64 0, .int .i64 0, .int .i64 0] := Blk.new _ _ _ _ rfl
    unfold encP
    refine round_region_lit (by kernel_rfl) (fun ⟨_, _, h⟩ => h) ?_
    go_wp2_with (first | ((with_reducible show wpList _ _ _ (⟨_, .store 67 _ _, _, _, _, _⟩ :: _) _ _); refine wpList_store_blk (by rfl) 67 _ _ (by rfl) _ _ (by rfl) (by rfl) _ _ hX0 (by kernel_rfl) (by rfl) ?_ ?_; (next => exact pt_one ..); intro W5 hX5 hU5) | fail)
    have hW5 : Below W.heap.size W W5 := below_upd (by (repeat (first | with_reducible exact Below.refl _ _ | (with_reducible assumption) | (with_reducible refine below_alloc ?_ _) | (with_reducible refine below_ext (w1 := ?_) ?_ ?_; rotate_left 2; (with_reducible assumption)) | (with_reducible refine Below.setCell ?_ ?_ _; rotate_left; ((try simp) <;> omega)) | (with_reducible refine Below.drew ?_) | (with_reducible refine below_drewN ?_ _) | fail))) (Nat.le_refl _) hU5
    try simp only [Act.put]
    obtain ⟨bx, hbe⟩ : ∃ b, b = W.heap.size := ⟨_, rfl⟩
    rw [← hbe] at hX5 ⊢
    have hk5 : ButL [ob] w9.heap.size W W5 := ButL.of_below (hW5.mono hsz)
    exact hK bx W5 (keepsFrom_below hW5) hk5 ⟨v, h.O.ext hW5, owns_ext h.own hW5, h.low.trans hk5⟩ ⟨by omega, hX5⟩
  case body =>
    rintro l pre x bx W ⟨v, M⟩ ⟨hbx, hX⟩ hlt2
    have hlw := M.low.size
    have hLW : Blk W w.heap.size 2 #[.int .i64 lo] := (M.low.block _ (by omega) (by simp; omega)).trans hL9
    have hHW : Blk W (w.heap.size + 1) 2 #[.int .i64 hi] := (M.low.block _ (by omega) (by simp; omega)).trans hH9
    have hO := M.O
    have hpl : (pf lo hi pre).length ≤ 1000 := Nat.le_trans (pf_len _ _ _) (by omega)
    have lX := hX.lt
    have lO := hO.lt
    have t0 : W.cell? ⟨w.heap.size, 0, none⟩ = some (.int .i64 lo) := hLW.cell 0
    have t1 : W.cell? ⟨w.heap.size + 1, 0, none⟩ = some (.int .i64 hi) := hHW.cell 0
    have x0 : W.cell? ⟨bx, 0, none⟩ = some (.int .i64 x.price) := hX.cell 0
    have o0 : W.cell? ⟨ob, 0, none⟩ = some v := hO.cell 0
    have HC := Lib.hid (pf_snoc lo hi pre x)
    have HM := Lib.hid M
    clear hseq hL9 hH9 hO9 hB9 M hLW hHW
    by_cases hlo : lo ≤ x.price
    case neg =>
      have HS : Hid (pf lo hi (pre ++ [x]) = pf lo hi pre) := Lib.hid (by rw [HC.out, if_neg (by omega), List.append_nil])
      refine wpIn_block ?_
      refine wpIn_seq ?_
      refine round_region_lit (by kernel_rfl) (fun ⟨_, _, h⟩ => h) ?_
      go_wp2_with fail
      gi_wp2_with fail
      refine ⟨KeepsFrom.refl _ _, ButL.refl _ _ _, v, ?_⟩
      rw [HS.out]
      exact HM.out
    by_cases hhi : x.price ≤ hi
    case neg =>
      have HS : Hid (pf lo hi (pre ++ [x]) = pf lo hi pre) := Lib.hid (by rw [HC.out, if_neg (by omega), List.append_nil])
      refine wpIn_block ?_
      refine wpIn_seq ?_
      refine round_region_lit (by kernel_rfl) (fun ⟨_, _, h⟩ => h) ?_
      go_wp2_with fail
      gi_wp2_with fail
      refine ⟨KeepsFrom.refl _ _, ButL.refl _ _ _, v, ?_⟩
      rw [HS.out]
      exact HM.out
    have HS : Hid (pf lo hi (pre ++ [x]) = pf lo hi pre ++ [x.price]) := Lib.hid (by rw [HC.out, if_pos ⟨hlo, hhi⟩])
    have hbl2 : Blk (W.alloc (.cells #[.int .i64 x.price] 2)) W.heap.size 2 #[.int .i64 x.price] := Blk.new _ _ _ _ rfl
    have hbe2 : Below W.heap.size W (W.alloc (.cells #[.int .i64 x.price] 2)) := by (repeat (first | with_reducible exact Below.refl _ _ | (with_reducible assumption) | (with_reducible refine below_alloc ?_ _) | (with_reducible refine below_ext (w1 := ?_) ?_ ?_; rotate_left 2; (with_reducible assumption)) | (with_reducible refine Below.setCell ?_ ?_ _; rotate_left; ((try simp) <;> omega)) | (with_reducible refine Below.drew ?_) | (with_reducible refine below_drewN ?_ _) | fail))
    have hown2 := owns_ext HM.out.own hbe2
    have hz2 : w9.heap.size ≤ (W.alloc (.cells #[.int .i64 x.price] 2)).heap.size := by have := hbe2.size; omega
    have HB := Lib.hid hbe2
    have HOW := Lib.hid hown2
    have HZ := Lib.hid hz2
    have HLW := Lib.hid hlw
    clear hown2 hz2 hbe2 hlw
    refine wpIn_block ?_
    refine wpIn_seq ?_
    refine round_region_lit (by kernel_rfl) (fun ⟨_, _, h⟩ => h) ?_
    go_wp2_with fail
    refine wpIn_cond_true (by rfl) ?_
    refine round_region_lit (by kernel_rfl) (fun ⟨_, _, h⟩ => h) ?_
    go_wp2_with (first | ((with_reducible show wpList _ _ _ (⟨_, .call ⟨.builtin .append, _, _⟩, _, _, _, _⟩ :: _) _ _); refine wpList_append_rd (by rfl) _ _ _ (by rfl) w9.heap.size 2 (.int .i64 0) 1 8 Tryz.underlying48 (by kernel_rfl) ⟨rfl, by decide⟩ v _ _ (by rfl) HOW.out (some ⟨W.heap.size, 0, none⟩) 1 1 [[.int .i64 x.price]] (by rfl) ?_ ⟨rfl, ints_one x.price⟩ (by simp) ?_ HZ.out ?_; (next => exact rd_own hbl2 (by simp) (n := 1) (by simp)); (next => unfold maxLen; omega); intro v3 w3 hown3 hb3 hz3 hk3; obtain ⟨A3, cp3, rfl⟩ := Sw.owns_slice hown3; have hO3 : Blk w3 ob 48 #[v] := (hk3 ob (Nat.lt_of_lt_of_le lO HB.out.size) (Sw.own_ne HM.out.own HM.out.O (by decide))).trans (hO.ext HB.out)) | ((with_reducible show wpList _ _ _ (⟨_, .store _ _ _, _, _, _, _⟩ :: _) _ _); refine wpList_store_fld (by rfl) _ _ _ (by rfl) _ _ (by rfl) _ (by rfl) _ _ hO3 ?_ ?_ (by rfl) (by rfl) ?_; (next => first | omega | ((try simp) <;> omega)); (next => kernel_rfl); intro w4 hO4 hU4) | fail)
    have hown3' : w3.ownsRow w9.heap.size 2 1 (.slice A3 ((pf lo hi pre).length + 1) cp3) (pf lo hi (pre ++ [x])).length (ints (pf lo hi (pre ++ [x]))) := by
      rw [HS.out]
      simpa [ints] using hown3
    obtain ⟨k1, k2, k3⟩ := Cj.post HM.out HLW.out HB.out hown3' hb3 hk3 hz3 hO4 hU4
    exact ⟨k1, k2, _, k3⟩
  case done =>
    rintro D ys W hD rfl ⟨v, M⟩ hK
    have hO := M.O
    have hlw := M.low.size
    have hBW : Below w.heap.size w W := hB9.trans ⟨M.low.os, M.low.tape, M.low.output, M.low.size, fun q hq => M.low.block q (by omega) (by simp; omega)⟩
    have hown : W.ownsRow w.heap.size 2 1 v (pf lo hi ys).length (ints (pf lo hi ys)) := Sw.owns_mono M.own (by omega)
    have o0 : W.cell? ⟨ob, 0, none⟩ = some v := hO.cell 0
    have f0 : W.frozen? ⟨ob, 0, none⟩ = false := hO.frozen 0
    have hKl : D < W.heap.size := (Array.getElem?_eq_some_iff.1 hK).1
    obtain ⟨A', cp, rfl⟩ := Sw.owns_slice hown
    clear hseq M
    go_wp2_with fail
    have u := Upd.setCell W ⟨ob, 0, none⟩ (.slice A' (pf lo hi ys).length cp)
    have hO2 := hO.setCell 0 (.slice A' (pf lo hi ys).length cp)
    have hown2 := Sw.owns_upd hown hO (by decide) u
    have hne : D ≠ ob := by omega
    have hK2 := (u.block D hne).trans hK
    refine bodyPostM_ret rfl hK2 (results_cell_sc rfl _ _ _ ob 0 _ (by rfl) (by kernel_rfl) ((cell_mark (Ne.symm hne)).trans (hO2.cell 0))) ⟨⟨_, rfl, Sw.owns_keepB hown2 (fun r cs fr hr => World.putObj_heap_other (fun e => ?_))⟩, below_mark (below_upd hBW (show w.heap.size ≤ ob by omega) u) (by omega) hK2⟩
    subst e
    rw [hK2] at hr
    cases hr
  case stop =>
    rintro D cd pre W hD hp h hK
    exact h.elim
end Cl
end Go.Proofs.YtacpjpkhmdcagaaGreat
namespace Go.Proofs.YtacpjpkhmdcagaaGreat
set_option linter.unusedVariables false
open Go.RowKit
namespace Cl
set_option maxHeartbeats 4000000
set_option maxRecDepth 10000
open Cu (ic getD_at)
theorem wpList_slice_run {P : Program} {ops : Array Oper} {rest : List Oper} {o : Oper} {a : Act} {w : World} {Q : Exit → Act → World → Prop} (hgd : Region.wanted o (yielded ops a.tmps) = true) (t : TypeId) (x : Operand) (lo hi mx : Option Operand) (ho : o.op = .slice t x lo hi mx) (v : Value)
    (hr : (Instr.sliceAt t (a.eval x) (lo.map a.eval) (hi.map a.eval) (mx.map a.eval)).run P w = .ok v w) (h : wpList P ops Q rest (a.put o.dst v) w) : wpList P ops Q (o :: rest) a w :=
  wpList_step fun K hK => by
    rw [if_pos hgd]
    unfold Oper.wp execOp
    simp only [ho, Sem.run_bind, Sem.run_pure, hr, Result.andThen_ok]
    exact hK _ _ h
theorem wpList_slice_from {P : Program} {ops : Array Oper} {rest : List Oper} {o : Oper} {a : Act} {w : World} {Q : Exit → Act → World → Prop} (hgd : Region.wanted o (yielded ops a.tmps) = true) (t : TypeId) (x lo : Operand) (ho : o.op = .slice t x (some lo) none none) (vx vl : Value) (hx : a.eval x = vx) (hl : a.eval lo = vl) (v : Value)
    (hr : ∀ w, (Instr.sliceAt t vx (some vl) none none).run P w = .ok v w) (h : wpList P ops Q rest (a.put o.dst v) w) : wpList P ops Q (o :: rest) a w :=
  wpList_slice_run hgd t x (some lo) none none ho v (by rw [Option.map_some, hx, hl]; exact hr w) h
theorem wpList_slice_to {P : Program} {ops : Array Oper} {rest : List Oper} {o : Oper} {a : Act} {w : World} {Q : Exit → Act → World → Prop} (hgd : Region.wanted o (yielded ops a.tmps) = true) (t : TypeId) (x hi : Operand) (ho : o.op = .slice t x none (some hi) none) (vx vl : Value) (hx : a.eval x = vx) (hl : a.eval hi = vl) (v : Value)
    (hr : ∀ w, (Instr.sliceAt t vx none (some vl) none).run P w = .ok v w) (h : wpList P ops Q rest (a.put o.dst v) w) : wpList P ops Q (o :: rest) a w :=
  wpList_slice_run hgd t x none (some hi) none ho v (by rw [Option.map_some, hx, hl]; exact hr w) h
theorem from_run (g n cap k : Nat) (hk : k ≤ n) (hc : k < cap) (W : World) : (Instr.sliceAt 48 (.slice (some ⟨g, 0, none⟩) n cap) (some (.int .i64 k)) none none).run Tryz.prog W = .ok (.slice (some ⟨g, k, none⟩) (n - k) (cap - k)) W := by
  have ht : Tryz.prog.underlying 48 = some (.slice (Tryz.prog.elem 48)) := by kernel_rfl
  have he : Tryz.prog.elem 48 = 2 := by kernel_rfl
  obtain ⟨i, hi, hz, hs, hby⟩ := info_parts (P := Tryz.prog) (e := 2) (z := .int .i64 0) (size := 1) (bytes := 8) (by kernel_rfl)
  rw [run_sliceAt_slice (h := ht), run_slice_l (ht := ht) (kl := .i64) (l := (k : Int)) (len := n) (h0 := by omega) (h1 := by omega), he]
  simp only [sizeOf, typeInfo, Sem.run_bind]
  simp [hi, hs, sliced, Addr.add, show ¬ cap = k by omega]
  exact fun h => h.symm
theorem to_run (g n cap k : Nat) (hk : k ≤ cap) (W : World) : (Instr.sliceAt 48 (.slice (some ⟨g, 0, none⟩) n cap) none (some (.int .i64 k)) none).run Tryz.prog W = .ok (.slice (some ⟨g, 0, none⟩) k cap) W := by
  have ht : Tryz.prog.underlying 48 = some (.slice (Tryz.prog.elem 48)) := by kernel_rfl
  have he : Tryz.prog.elem 48 = 2 := by kernel_rfl
  obtain ⟨i, hi, hz, hs, hby⟩ := info_parts (P := Tryz.prog) (e := 2) (z := .int .i64 0) (size := 1) (bytes := 8) (by kernel_rfl)
  rw [run_sliceAt_slice (h := ht), run_slice_h (ht := ht) (kh := .i64) (h := (k : Int)) (cap := cap) (h0 := by omega) (h2 := by omega), he]
  simp only [sizeOf, typeInfo, Sem.run_bind]
  simp [hi, sliced, Addr.add]
/-! ### plain -/
/-- A row that rises, and holds one value twice at most. -/
def Dup (s u : List Int) : Prop := u.Pairwise (· < ·) ∧ (s = u ∨ ∃ i, i < u.length ∧ s = u.take (i + 1) ++ u.drop i)
def ff (u : List Int) (t : Nat) (j : Nat) : Int := if j < t then u.getD j 0 else u.getD (j - 1) 0
def RowAt (cur : Array Value) (n : Nat) (f : Nat → Int) : Prop := ∀ j, j < n → cur[j]? = some (.int .i64 (f j))
theorem rise {u : List Int} (h : u.Pairwise (· < ·)) {a b : Nat} (hab : a < b) (hb : b < u.length) : u.getD a 0 < u.getD b 0 := by
  rw [getD_at (by omega), getD_at hb]
  exact List.pairwise_iff_getElem.1 h a b (by omega) hb hab
theorem dup_at {u : List Int} {i : Nat} (hi : i < u.length) (j : Nat) (hj : j < u.length + 1) : (u.take (i + 1) ++ u.drop i)[j]? = some (ff u (i + 1) j) := by
  unfold ff
  by_cases h : j < i + 1
  · rw [if_pos h, List.getElem?_append_left (by rw [List.length_take]; omega), List.getElem?_take, if_pos h, getD_at (by omega), List.getElem?_eq_getElem]
  · rw [if_neg h, List.getElem?_append_right (by rw [List.length_take]; omega), List.length_take, List.getElem?_drop, show i + (j - min (i + 1) u.length) = j - 1 by omega, getD_at (by omega), List.getElem?_eq_getElem]
theorem dup_len {u : List Int} {i : Nat} (hi : i < u.length) : (u.take (i + 1) ++ u.drop i).length = u.length + 1 := by simp; omega
theorem row_of {cur : Array Value} {s : List Int} {n : Nat} {f : Nat → Int} (h : cur.toList.take (n * 1) = ints s) (hs : ∀ j, j < n → s[j]? = some (f j)) : RowAt cur n f := fun j hj => by
  have h1 : (cur.toList.take (n * 1))[j]? = (ints s)[j]? := by rw [h]
  rw [List.getElem?_take, if_pos (by omega)] at h1
  rw [← Array.getElem?_toList, h1]
  unfold ints
  rw [List.getElem?_map, hs j hj]
  rfl
theorem RowAt.set {cur : Array Value} {n t : Nat} {u : List Int} (h : RowAt cur n (ff u t)) (ht : t < n) (hc : t < cur.size) : RowAt (cur.setIfInBounds t (.int .i64 (u.getD t 0))) n (ff u (t + 1)) := fun j hj => by
  by_cases e : j = t
  · subst e
    rw [Array.getElem?_setIfInBounds_self_of_lt hc]
    unfold ff
    rw [if_pos (by omega)]
  · rw [Array.getElem?_setIfInBounds_ne (fun h => e h.symm), h j hj]
    unfold ff
    by_cases h1 : j < t
    · rw [if_pos h1, if_pos (by omega)]
    · rw [if_neg h1, if_neg (by omega)]
theorem row_take {cur : Array Value} {u : List Int} {n : Nat} {f : Nat → Int} (h : RowAt cur n f) (hn : u.length ≤ n) (hf : ∀ j, j < u.length → f j = u.getD j 0) (hc : u.length ≤ cur.size) : cur.toList.take (u.length * 1) = ints u := by
  apply List.ext_getElem?
  intro j
  rw [List.getElem?_take]
  by_cases hj : j < u.length * 1
  · rw [if_pos hj]
    have hj2 : j < u.length := by omega
    rw [Array.getElem?_toList, h j (by omega), hf j hj2]
    unfold ints
    rw [List.getElem?_map, List.getElem?_eq_getElem hj2, getD_at hj2]
    rfl
  · rw [if_neg hj]
    unfold ints
    rw [List.getElem?_map, List.getElem?_eq_none (by omega)]
    rfl
/-- The row in memory while it is moved up. -/
structure Mv (B g cap n : Nat) (u : List Int) (t : Nat) (w wr : World) (cur : Array Value) : Prop where
  blk : Blk wr g 2 cur
  size : cur.size = cap
  row : RowAt cur n (ff u t)
  below : Below B w wr
theorem zero_i64 (w : World) : (zeroValue 2).run Tryz.prog w = .ok (.int .i64 0) w := Tryz.zeroValue2 w
theorem compact_any {w : World} {B : Nat} {v : Value} {s u : List Int} (hown : w.ownsRow B 2 1 v s.length (ints s)) (hB : B ≤ w.heap.size) (hl : s.length ≤ 2000) (hd : Dup s u) : Calls Tryz.prog 63 #[v] w fun e w' => (∃ v', e = .returned v' ∧ w'.ownsRow B 2 1 v' u.length (ints u)) ∧ Below B w w' := by
  obtain ⟨hu, hd⟩ := hd
  have HU := Lib.hid hu
  rcases hown.2 with ⟨rfl, h0⟩ | ⟨g, cap, cur, rfl, hbg, hg, hnc, hcm, hcs, ht⟩
  · have hs : s = [] := List.eq_nil_of_length_eq_zero h0
    subst hs
    have hu0 : u = [] := by
      rcases hd with h | ⟨i, hi, h⟩
      · exact h.symm
      · have := congrArg List.length h
        simp at this
        omega
    subst hu0
    clear hd
    go_enter Tryz.func63, Tryz.ntmps63
    go_wp2_with fail
    go_ret
    exact ⟨⟨_, rfl, World.ownsRow_nil _ _ _ _⟩, Below.refl _ _⟩
  · have hblk : Blk w g 2 cur := hg
    have hgl := hblk.lt
    have HOWN := Lib.hid hown
    rcases hd with hsu | ⟨i, hi, hsu⟩
    · subst hsu
      have HROW : Hid (RowAt cur s.length (fun j => s.getD j 0)) := Lib.hid (row_of ht (fun j hj => by rw [List.getElem?_eq_getElem hj, getD_at hj]))
      clear hown ht hg hcs
      by_cases h2 : s.length < 2
      · have e2 : (s.length : Int) < 2 := by omega
        go_enter Tryz.func63, Tryz.ntmps63
        go_wp2_with fail
        go_ret
        exact ⟨⟨_, rfl, HOWN.out⟩, Below.refl _ _⟩
      · have e2 : ¬ (s.length : Int) < 2 := by omega
        go_enter Tryz.func63, Tryz.ntmps63
        go_wp2_with fail
        go_loopw [3] (fun p wr => ∃ K : Nat, p = .int .i64 K ∧ 1 ≤ K ∧ K ≤ s.length ∧ Below w.heap.size w wr) (fun p _ => s.length - (intOf p).toNat)
        case atStart => exact ⟨1, rfl, Nat.le_refl _, by omega, Below.refl _ _⟩
        case round =>
          obtain ⟨K, rfl, hK1, hK, hb⟩ := hrel
          by_cases hlt : K < s.length
          · have e1 : (K : Int) < (s.length : Int) := by omega
            have e0 : (0 : Int) ≤ (K : Int) := by omega
            obtain ⟨M, hM⟩ : ∃ M : Nat, M = K - 1 := ⟨_, rfl⟩
            have hsub : IntKind.i64.wrap ((K : Int) - 1) = (M : Int) := by rw [IntWalk.i64_in _ (by omega)]; omega
            have e3 : (M : Int) < (s.length : Int) := by omega
            have e4 : (0 : Int) ≤ (M : Int) := by omega
            have hbW := hblk.ext hb
            have hcz := HROW.out K hlt
            have hcm1 := HROW.out M (by omega)
            have cK : wr.cell? ⟨g, K, none⟩ = some (.int .i64 (s.getD K 0)) := (hbW.cell K).trans hcz
            have cM : wr.cell? ⟨g, M, none⟩ = some (.int .i64 (s.getD M 0)) := (hbW.cell M).trans hcm1
            have hlt2 := rise HU.out (show M < K by omega) hlt
            have hgw := hbW.lt
            have HM := Lib.hid hM
            generalize s.getD K 0 = x at *
            generalize s.getD M 0 = y at *
            have hne : (x == y) = false := by simp; omega
            clear hM hbW hcz hcm1 hlt2
            go_wp2_with fail
            refine wp_region_below_lit (by kernel_rfl) (by kernel_rfl) ?_
            repeat (first | go_big_quiet_skip | (go_big_quiet_want; go_big_quiet_op; go_big_quiet_on) | (refine q_load_fld (by rfl) _ _ (by rfl) (fun _ h => h) _ _ (by rfl) ?_ ?_ ?_ ?_ ?_ ?_; rotate_left; (next => (repeat (first | (with_reducible refine BlkAt.new _ _ _ _ ?_; ((try simp) <;> omega)) | (with_reducible assumption) | (with_reducible refine Blk.at (t := ?_) ?_; rotate_left; with_reducible assumption) | with_reducible refine BlkAt.alloc ?_ _ | with_reducible refine BlkAt.drew ?_ | (with_reducible refine BlkAt.setSame ?_ _ _) | (with_reducible refine BlkAt.setCell ?_ ?_ _; rotate_left; ((try simp) <;> omega)) | (with_reducible refine BlkAt.ext (w := ?_) ?_ ?_; rotate_left 2; (with_reducible assumption)) | fail))); rotate_left; (next => first | (simp only [go_sem]; rfl) | rfl); (next => kernel_rfl); (try simp only [Act.put, List.setIfInBounds_toArray, List.set_cons_zero, List.set_cons_succ])) | (refine q_rem (by rfl) _ _ _ _ (by rfl) _ _ (by rfl) (by rfl) (by kernel_rfl) (by kernel_rfl) ?_ ?_; (next => omega); (try simp only [Act.put, List.setIfInBounds_toArray, List.set_cons_zero, List.set_cons_succ])) | (refine q_step_ex (by rfl) ?_; apply Exists.intro; refine ⟨fun W hW => ?_, ?_⟩; (next => (have hWc := fun (b o : Nat) (h : b < _) => (Ext.out hW).cell (p := ⟨b, o, none⟩) h); (try have hLK := HLK.out W (Ext.out hW)); go_simp; first | rfl | fail); (try simp only [Act.put, List.setIfInBounds_toArray, List.set_cons_zero, List.set_cons_succ])) | fail)
            refine wpQuiet_nil ?_
            intro w3 hb3
            go_wp2_with fail
            go_roundw
            case rel => exact ⟨K + 1, by go_num, by omega, by omega, below_ext hb hb3⟩
            case measure => (simp [intOf]; omega)
          · have e1 : ¬ (K : Int) < (s.length : Int) := by omega
            go_wp2_with fail
            go_ret
            exact ⟨⟨_, rfl, owns_ext HOWN.out hb⟩, hb.mono hB⟩
    · have hsl : s.length = u.length + 1 := by rw [hsu]; exact dup_len hi
      have HROW : Hid (RowAt cur s.length (ff u (i + 1))) := Lib.hid (row_of ht (fun j hj => by rw [hsu]; exact dup_at hi j (by omega)))
      have HHI := Lib.hid hi
      have HSL := Lib.hid hsl
      have hul : u.length ≤ 2000 := by omega
      have hn2 : 2 ≤ s.length := by omega
      have hin : i + 1 < s.length := by omega
      have HRU : Hid (∀ a b, a < b → b < u.length → u.getD a 0 < u.getD b 0) := Lib.hid (fun a b h1 h2 => rise HU.out h1 h2)
      have HC : Hid (cur.size = cap ∧ cap ≤ maxLen) := Lib.hid ⟨by omega, hcm⟩
      clear hown ht hg hcs hsu HU HOWN hsl hi hcm
      have HBG := Lib.hid hbg
      generalize s.length = n at *
      have e2 : ¬ (n : Int) < 2 := by omega
      go_enter Tryz.func63, Tryz.ntmps63
      go_wp2_with fail
      go_loopw [3] (fun p wr => ∃ K : Nat, p = .int .i64 K ∧ 1 ≤ K ∧ K ≤ i + 1 ∧ Below w.heap.size w wr) (fun p _ => n - (intOf p).toNat)
      case atStart => exact ⟨1, rfl, Nat.le_refl _, by omega, Below.refl _ _⟩
      case round =>
        obtain ⟨K, rfl, hK1, hK, hb⟩ := hrel
        have e1 : (K : Int) < (n : Int) := by omega
        have e0 : (0 : Int) ≤ (K : Int) := by omega
        obtain ⟨M, hM⟩ : ∃ M : Nat, M = K - 1 := ⟨_, rfl⟩
        have hsub : IntKind.i64.wrap ((K : Int) - 1) = (M : Int) := by rw [IntWalk.i64_in _ (by omega)]; omega
        have e3 : (M : Int) < (n : Int) := by omega
        have e4 : (0 : Int) ≤ (M : Int) := by omega
        have hbW := hblk.ext hb
        have cK : wr.cell? ⟨g, K, none⟩ = some (.int .i64 (ff u (i + 1) K)) := (hbW.cell K).trans (HROW.out K (by omega))
        have cM : wr.cell? ⟨g, M, none⟩ = some (.int .i64 (ff u (i + 1) M)) := (hbW.cell M).trans (HROW.out M (by omega))
        have hgw := hbW.lt
        have HM := Lib.hid hM
        by_cases hKi : K < i + 1
        · have hne : (ff u (i + 1) K == ff u (i + 1) M) = false := by
            have h1 := HRU.out M K (by omega) (by have := HHI.out; omega)
            unfold ff
            rw [if_pos hKi, if_pos (by omega)]
            exact beq_eq_false_iff_ne.2 (by omega)
          generalize ff u (i + 1) K = x at *
          generalize ff u (i + 1) M = y at *
          clear hM hbW
          go_wp2_with fail
          refine wp_region_below_lit (by kernel_rfl) (by kernel_rfl) ?_
          repeat (first | go_big_quiet_skip | (go_big_quiet_want; go_big_quiet_op; go_big_quiet_on) | (refine q_load_fld (by rfl) _ _ (by rfl) (fun _ h => h) _ _ (by rfl) ?_ ?_ ?_ ?_ ?_ ?_; rotate_left; (next => (repeat (first | (with_reducible refine BlkAt.new _ _ _ _ ?_; ((try simp) <;> omega)) | (with_reducible assumption) | (with_reducible refine Blk.at (t := ?_) ?_; rotate_left; with_reducible assumption) | with_reducible refine BlkAt.alloc ?_ _ | with_reducible refine BlkAt.drew ?_ | (with_reducible refine BlkAt.setSame ?_ _ _) | (with_reducible refine BlkAt.setCell ?_ ?_ _; rotate_left; ((try simp) <;> omega)) | (with_reducible refine BlkAt.ext (w := ?_) ?_ ?_; rotate_left 2; (with_reducible assumption)) | fail))); rotate_left; (next => first | (simp only [go_sem]; rfl) | rfl); (next => kernel_rfl); (try simp only [Act.put, List.setIfInBounds_toArray, List.set_cons_zero, List.set_cons_succ])) | (refine q_rem (by rfl) _ _ _ _ (by rfl) _ _ (by rfl) (by rfl) (by kernel_rfl) (by kernel_rfl) ?_ ?_; (next => omega); (try simp only [Act.put, List.setIfInBounds_toArray, List.set_cons_zero, List.set_cons_succ])) | (refine q_step_ex (by rfl) ?_; apply Exists.intro; refine ⟨fun W hW => ?_, ?_⟩; (next => (have hWc := fun (b o : Nat) (h : b < _) => (Ext.out hW).cell (p := ⟨b, o, none⟩) h); (try have hLK := HLK.out W (Ext.out hW)); go_simp; first | rfl | fail); (try simp only [Act.put, List.setIfInBounds_toArray, List.set_cons_zero, List.set_cons_succ])) | fail)
          refine wpQuiet_nil ?_
          intro w3 hb3
          go_wp2_with fail
          go_roundw
          case rel => exact ⟨K + 1, by go_num, by omega, by omega, below_ext hb hb3⟩
          case measure => (simp [intOf]; omega)
        · have hKe : K = i + 1 := by omega
          have heq : (ff u (i + 1) K == ff u (i + 1) M) = true := by
            unfold ff
            rw [if_neg (by omega), if_pos (by omega), hM]
            simp
          have HKE := Lib.hid hKe
          generalize ff u (i + 1) K = x at *
          generalize ff u (i + 1) M = y at *
          have HSF := Lib.hid (fun W => from_run g n cap K (by omega) (by omega) W)
          obtain ⟨ln, hln⟩ : ∃ ln, ln = n - K := ⟨_, rfl⟩
          obtain ⟨cn, hcn⟩ : ∃ cn, cn = cap - K := ⟨_, rfl⟩
          rw [← hln, ← hcn] at HSF
          have HLN := Lib.hid hln
          have hln1 : 1 ≤ ln ∧ ln + K = n := by omega
          clear hM hbW hKe hln hcn
          go_wp2_with fail
          refine wp_region_below_lit (by kernel_rfl) (by kernel_rfl) ?_
          repeat (first | go_big_quiet_skip | (go_big_quiet_want; go_big_quiet_op; go_big_quiet_on) | (refine q_load_fld (by rfl) _ _ (by rfl) (fun _ h => h) _ _ (by rfl) ?_ ?_ ?_ ?_ ?_ ?_; rotate_left; (next => (repeat (first | (with_reducible refine BlkAt.new _ _ _ _ ?_; ((try simp) <;> omega)) | (with_reducible assumption) | (with_reducible refine Blk.at (t := ?_) ?_; rotate_left; with_reducible assumption) | with_reducible refine BlkAt.alloc ?_ _ | with_reducible refine BlkAt.drew ?_ | (with_reducible refine BlkAt.setSame ?_ _ _) | (with_reducible refine BlkAt.setCell ?_ ?_ _; rotate_left; ((try simp) <;> omega)) | (with_reducible refine BlkAt.ext (w := ?_) ?_ ?_; rotate_left 2; (with_reducible assumption)) | fail))); rotate_left; (next => first | (simp only [go_sem]; rfl) | rfl); (next => kernel_rfl); (try simp only [Act.put, List.setIfInBounds_toArray, List.set_cons_zero, List.set_cons_succ])) | (refine q_rem (by rfl) _ _ _ _ (by rfl) _ _ (by rfl) (by rfl) (by kernel_rfl) (by kernel_rfl) ?_ ?_; (next => omega); (try simp only [Act.put, List.setIfInBounds_toArray, List.set_cons_zero, List.set_cons_succ])) | (refine q_step_ex (by rfl) ?_; apply Exists.intro; refine ⟨fun W hW => ?_, ?_⟩; (next => (have hWc := fun (b o : Nat) (h : b < _) => (Ext.out hW).cell (p := ⟨b, o, none⟩) h); (try have hLK := HLK.out W (Ext.out hW)); go_simp; first | rfl | fail); (try simp only [Act.put, List.setIfInBounds_toArray, List.set_cons_zero, List.set_cons_succ])) | fail)
          refine wpQuiet_nil ?_
          intro w3 hb3
          have hb03 := below_ext hb hb3
          have HM0 : Hid (Mv B g cap n u (i + 1) w w3 cur) := Lib.hid ⟨hblk.ext hb03, HC.out.1, HROW.out, hb03.mono hB⟩
          clear cK cM hsub hb hb3
          go_wp2_with (first | ((with_reducible show wpList _ _ _ (⟨_, .slice _ _ _ _ _, _, _, _, _⟩ :: _) _ _); refine wpList_slice_from (by rfl) _ _ _ (by rfl) _ _ (by rfl) (by rfl) _ HSF.out ?_) | fail)
          go_loopw [3, 5] (fun p q wr => ∃ (K3 K2 : Nat) (c2 : Array Value), p = .int .i64 K3 ∧ q = .int .i64 K2 ∧ 1 ≤ K2 ∧ K2 ≤ ln ∧ Hid (K3 = i + K2) ∧ Hid (Mv B g cap n u (i + K2) w wr c2)) (fun _ q _ => ln + 1 - (intOf q).toNat)
          case atStart => exact ⟨K, 1, cur, rfl, rfl, Nat.le_refl _, by omega, HKE, HM0⟩
          case round =>
            obtain ⟨K3, K2, c2, rfl, rfl, hK2, hK2l, HK3, HM2⟩ := hrel
            have hB2 := HM2.out.blk
            have hg2 := hB2.lt
            by_cases hlt : K2 < ln
            · have f1 : (K2 : Int) < (ln : Int) := by omega
              have f0 : (0 : Int) ≤ (K2 : Int) := by omega
              obtain ⟨M2, hM2⟩ : ∃ M : Nat, M = K2 - 1 := ⟨_, rfl⟩
              have hsub : IntKind.i64.wrap ((K2 : Int) - 1) = (M2 : Int) := by rw [IntWalk.i64_in _ (by omega)]; omega
              have f3 : (M2 : Int) < (ln : Int) := by omega
              have f4 : (0 : Int) ≤ (M2 : Int) := by omega
              have hKE := HKE.out
              have hK3 := HK3.out
              have hslo := HSL.out
              have hx : ff u (i + K2) (K + K2) = u.getD (i + K2) 0 := by unfold ff; rw [if_neg (by omega)]; congr 1; omega
              have hy : ff u (i + K2) (K + M2) = u.getD (i + M2) 0 := by unfold ff; rw [if_neg (by omega)]; congr 1; omega
              have d0 : wr.cell? ⟨g, K + K2, none⟩ = some (.int .i64 (u.getD (i + K2) 0)) := (hB2.cell _).trans (by rw [← hx]; exact HM2.out.row _ (by omega))
              have d1 : wr.cell? ⟨g, K + M2, none⟩ = some (.int .i64 (u.getD (i + M2) 0)) := (hB2.cell _).trans (by rw [← hy]; exact HM2.out.row _ (by omega))
              have hne := HRU.out (i + M2) (i + K2) (by omega) (by omega)
              have HST : Hid (RowAt (c2.setIfInBounds K3 (.int .i64 (u.getD (i + K2) 0))) n (ff u (i + (K2 + 1)))) := Lib.hid (by rw [hK3]; exact HM2.out.row.set (by omega) (by rw [HM2.out.size]; omega))
              have hc2 := HM2.out.size
              have g1 : (K3 : Int) < (n : Int) := by omega
              have g0 : (0 : Int) ≤ (K3 : Int) := by omega
              have hcs : K3 < c2.size := by omega
              generalize u.getD (i + K2) 0 = x2 at *
              generalize u.getD (i + M2) 0 = y2 at *
              have hne2 : (x2 != y2) = true := by simp; omega
              clear hM2 hKE hK3 hslo hx hy hne
              go_wp2_with fail
              refine wp_region_below_lit (by kernel_rfl) (by kernel_rfl) ?_
              repeat (first | go_big_quiet_skip | (go_big_quiet_want; go_big_quiet_op; go_big_quiet_on) | (refine q_load_fld (by rfl) _ _ (by rfl) (fun _ h => h) _ _ (by rfl) ?_ ?_ ?_ ?_ ?_ ?_; rotate_left; (next => (repeat (first | (with_reducible refine BlkAt.new _ _ _ _ ?_; ((try simp) <;> omega)) | (with_reducible assumption) | (with_reducible refine Blk.at (t := ?_) ?_; rotate_left; with_reducible assumption) | with_reducible refine BlkAt.alloc ?_ _ | with_reducible refine BlkAt.drew ?_ | (with_reducible refine BlkAt.setSame ?_ _ _) | (with_reducible refine BlkAt.setCell ?_ ?_ _; rotate_left; ((try simp) <;> omega)) | (with_reducible refine BlkAt.ext (w := ?_) ?_ ?_; rotate_left 2; (with_reducible assumption)) | fail))); rotate_left; (next => first | (simp only [go_sem]; rfl) | rfl); (next => kernel_rfl); (try simp only [Act.put, List.setIfInBounds_toArray, List.set_cons_zero, List.set_cons_succ])) | (refine q_rem (by rfl) _ _ _ _ (by rfl) _ _ (by rfl) (by rfl) (by kernel_rfl) (by kernel_rfl) ?_ ?_; (next => omega); (try simp only [Act.put, List.setIfInBounds_toArray, List.set_cons_zero, List.set_cons_succ])) | (refine q_step_ex (by rfl) ?_; apply Exists.intro; refine ⟨fun W hW => ?_, ?_⟩; (next => (have hWc := fun (b o : Nat) (h : b < _) => (Ext.out hW).cell (p := ⟨b, o, none⟩) h); (try have hLK := HLK.out W (Ext.out hW)); go_simp; first | rfl | fail); (try simp only [Act.put, List.setIfInBounds_toArray, List.set_cons_zero, List.set_cons_succ])) | fail)
              refine wpQuiet_nil ?_
              intro w4 hb4
              have hB4 := hB2.ext hb4
              have d4 : w4.cell? ⟨g, K + K2, none⟩ = some (.int .i64 x2) := (hb4.cell (p := ⟨g, K + K2, none⟩) hg2).trans d0
              clear d0 d1 hsub
              go_wp2_with (first | ((with_reducible show wpList _ _ _ (⟨_, .store _ _ _, _, _, _, _⟩ :: _) _ _); refine wpList_store_fld (by rfl) _ _ _ (by rfl) _ _ (by rfl) _ (by rfl) _ _ hB4 ?_ ?_ (by rfl) (by rfl) ?_; (next => first | omega | ((try simp) <;> omega)); (next => kernel_rfl); intro w5 hB5 hU5) | fail)
              go_roundw
              case rel => exact ⟨K3 + 1, K2 + 1, _, by go_num, by go_num, by omega, by omega, Lib.hid (by have := HK3.out; omega), Lib.hid ⟨hB5, by simp; exact hc2, HST.out, below_upd (HM2.out.below.trans (hb4.mono (by have := HM2.out.below.size; omega))) HBG.out hU5⟩⟩
              case measure => (simp [intOf]; omega)
            · have hK2e : K2 = ln := by omega
              have hKE := HKE.out
              have hK3 := HK3.out
              have hslo := HSL.out
              have hK3u : K3 = u.length := by omega
              have HSF2 : Hid (∀ W, (Instr.sliceAt 48 (.slice (some ⟨g, 0, none⟩) n cap) (some (.int .i64 K3)) none none).run Tryz.prog W = .ok (.slice (some ⟨g, K3, none⟩) 1 (cap - K3)) W) := Lib.hid (fun W => by have h := from_run g n cap K3 (by omega) (by omega) W; rw [show n - K3 = 1 by omega] at h; exact h)
              have HST := Lib.hid (fun W => to_run g n cap K3 (by omega) W)
              obtain ⟨L2, hL2⟩ : ∃ L2, L2 = c2.toList.take K3 ++ (Builtin.zeroCells (Value.int .i64 0).cells 1).toList ++ c2.toList.drop (K3 + (Builtin.zeroCells (Value.int .i64 0).cells 1).toList.length) := ⟨_, rfl⟩
              have hzl : (Builtin.zeroCells (Value.int .i64 0).cells 1).toList.length = 1 := by decide +kernel
              have hcl : c2.toList.length = cap := by rw [Array.length_toList]; exact HM2.out.size
              have HCL : Hid (∀ cc ty, (Builtin.clear_ #[48] ty #[.slice (some ⟨g, K3, none⟩) 1 cc]).run Tryz.prog wr = .ok (.tuple #[]) (wr.setRow g L2.toArray)) := Lib.hid (fun cc ty => by
                have h := run_clear_rows (P := Tryz.prog) wr 48 2 ty _ Tryz.underlying48 zero_i64 g K3 1 cc (by omega) c2 2 hB2 (by rw [hzl]; have := HM2.out.size; omega) (by decide +kernel)
                rw [← hL2] at h
                exact h)
              have hL2l : L2.length = cap := by rw [hL2]; simp only [List.length_append, List.length_take, List.length_drop, hzl, hcl]; omega
              have hL2t : L2.take (u.length * 1) = ints u := by
                rw [hL2, List.append_assoc, List.take_left' (by rw [List.length_take, hcl]; omega)]
                have h := row_take (u := u) HM2.out.row (by omega) (fun j hj => by unfold ff; rw [if_pos (by omega)]) (by have := HM2.out.size; omega)
                rw [← hK3u, Nat.mul_one] at h
                exact h
              have HR : Hid ((wr.setRow g L2.toArray).ownsRow B 2 1 (.slice (some ⟨g, 0, none⟩) K3 cap) u.length (ints u) ∧ Below B w (wr.setRow g L2.toArray)) := Lib.hid (by
                refine ⟨⟨by simp [ints], .inr ⟨g, cap, _, by rw [hK3u], HBG.out, setRow_heap _ _ _ _ _ _ hB2, by omega, HC.out.2, by rw [List.size_toArray, hL2l]; omega, by rw [List.toList_toArray]; exact hL2t⟩⟩, ?_⟩
                have hU4 : Upd g wr (wr.setRow g L2.toArray) := ⟨rfl, rfl, rfl, by simp, fun q hq => setRow_other _ _ q _ hq⟩
                exact below_upd HM2.out.below HBG.out hU4)
              have hnl : ¬ (K2 : Int) < (ln : Int) := by omega
              clear hB2 hL2 hzl hcl hL2l hL2t hK2e hKE hK3 hslo hK3u
              go_wp2_with (first | ((with_reducible show wpList _ _ _ (⟨_, .slice _ _ _ _ _, _, _, _, _⟩ :: _) _ _); first | (refine wpList_slice_from (by rfl) _ _ _ (by rfl) _ _ (by rfl) (by rfl) _ HSF2.out ?_) | (refine wpList_slice_to (by rfl) _ _ _ (by rfl) _ _ (by rfl) (by rfl) _ HST.out ?_)) | ((with_reducible show wpList _ _ _ (⟨_, .call ⟨.builtin .clear, _, _⟩, _, _, _, _⟩ :: _) _ _); refine wpList_clear_run _ (by rfl) _ _ rfl _ rfl _ _ (HCL.out _) ?_) | fail)
              go_ret
              exact ⟨⟨_, rfl, HR.out.1⟩, HR.out.2⟩
end Cl
end Go.Proofs.YtacpjpkhmdcagaaGreat
namespace Go.Proofs.YtacpjpkhmdcagaaGreat
set_option linter.unusedVariables false
open Go.RowKit
namespace Cl
set_option maxHeartbeats 4000000
set_option maxRecDepth 10000
open Cu (ic getD_at Cv pts All cutP wpList_eq_pt)
open Sw (owns_slice)
/-! ### plain -/
/-- The prices that are allowed in a band, near a reference. -/
structure Al (lo hi near : Int) (os : List Ord) (u : List Int) : Prop where
  up : u.Pairwise (· < ·)
  mem : ∀ p, p ∈ u ↔ (∃ o ∈ os, o.price = p ∧ lo ≤ p ∧ p ≤ hi) ∨ p = near
def leZ (x y : Int) : Bool := decide (x ≤ y)
theorem sorted_uniq {a b : List Int} (h : a.Perm b) (hb : b.Pairwise (· ≤ ·)) : (a.mergeSort fun x y => decide (x ≤ y)) = b := by
  have tr : ∀ a b c : Int, leZ a b = true → leZ b c = true → leZ a c = true := fun a b c h1 h2 => by simp only [leZ, decide_eq_true_eq] at *; omega
  have tot : ∀ a b : Int, (leZ a b || leZ b a) = true := fun a b => by simp only [leZ, Bool.or_eq_true, decide_eq_true_eq]; omega
  refine List.Perm.eq_of_pairwise (le := fun a b => leZ a b = true) (fun a b _ _ h1 h2 => ?_) (List.pairwise_mergeSort tr tot a) (hb.imp (fun {x y} h => decide_eq_true h)) ((List.mergeSort_perm a leZ).trans h)
  simp only [leZ, decide_eq_true_eq] at h1 h2
  omega
theorem sort_ins {m : List Int} (hm : m.Pairwise (· < ·)) (near : Int) : ∃ u, Dup ((m ++ [near]).mergeSort fun x y => decide (x ≤ y)) u ∧ (∀ p, p ∈ u ↔ p ∈ m ∨ p = near) := by
  obtain ⟨t, h1, h2, h3⟩ := cutP near m
  have hlow : ∀ x ∈ m.take t, x < near := fun x hx => by
    obtain ⟨j, hj, rfl⟩ := List.getElem_of_mem hx
    rw [List.getElem_take]
    rw [List.length_take] at hj
    exact h2 j (by omega) (by omega)
  have hhigh : ∀ x ∈ m.drop t, near ≤ x := fun x hx => by
    obtain ⟨j, hj, rfl⟩ := List.getElem_of_mem hx
    rw [List.length_drop] at hj
    rw [List.getElem_drop]
    have h4 := h3 (by omega)
    cases j with
    | zero => exact h4
    | succ j =>
      have := List.pairwise_iff_getElem.1 hm t (t + (j + 1)) (by omega) (by omega) (by omega)
      omega
  have hperm : (m ++ [near]).Perm (m.take t ++ near :: m.drop t) := by
    have e : m ++ [near] = m.take t ++ (m.drop t ++ [near]) := by rw [← List.append_assoc, List.take_append_drop]
    rw [e]
    exact List.Perm.append_left _ (List.perm_append_singleton near (m.drop t))
  have hle : (m.take t ++ near :: m.drop t).Pairwise (· ≤ ·) := by
    rw [List.pairwise_append]
    refine ⟨(hm.sublist (List.take_sublist _ _)).imp (fun {x y} h => Int.le_of_lt h), ?_, ?_⟩
    · rw [List.pairwise_cons]
      exact ⟨hhigh, (hm.sublist (List.drop_sublist _ _)).imp (fun {x y} h => Int.le_of_lt h)⟩
    · intro x hx y hy
      have := hlow x hx
      rcases List.mem_cons.1 hy with rfl | hy
      · omega
      · have := hhigh y hy
        omega
  rw [sorted_uniq hperm hle]
  by_cases hd : ∃ h : t < m.length, m[t] = near
  · obtain ⟨ht, hd⟩ := hd
    refine ⟨m, ⟨hm, .inr ⟨t, ht, ?_⟩⟩, fun p => ⟨fun h => .inl h, fun h => ?_⟩⟩
    · rw [List.take_succ_eq_append_getElem ht, List.append_assoc, hd]
      rfl
    · rcases h with h | rfl
      · exact h
      · rw [← hd]
        exact List.getElem_mem ht
  · have hhigh2 : ∀ x ∈ m.drop t, near < x := fun x hx => by
      have h5 := hhigh x hx
      rcases Int.lt_or_eq_of_le h5 with h6 | h6
      · exact h6
      · exfalso
        obtain ⟨j, hj, rfl⟩ := List.getElem_of_mem hx
        rw [List.length_drop] at hj
        rw [List.getElem_drop] at h6
        have h4 := h3 (by omega)
        cases j with
        | zero => exact hd ⟨by omega, h6.symm⟩
        | succ j =>
          have := List.pairwise_iff_getElem.1 hm t (t + (j + 1)) (by omega) (by omega) (by omega)
          omega
    refine ⟨m.take t ++ near :: m.drop t, ⟨?_, .inl rfl⟩, fun p => ?_⟩
    · rw [List.pairwise_append]
      refine ⟨hm.sublist (List.take_sublist _ _), ?_, ?_⟩
      · rw [List.pairwise_cons]
        exact ⟨hhigh2, hm.sublist (List.drop_sublist _ _)⟩
      · intro x hx y hy
        have := hlow x hx
        rcases List.mem_cons.1 hy with rfl | hy
        · exact this
        · have := hhigh y hy
          omega
    · conv => rhs; rw [← List.take_append_drop t m]
      simp only [List.mem_append, List.mem_cons]
      constructor
      · rintro (h | h | h)
        · exact .inl (.inl h)
        · exact .inr h
        · exact .inl (.inr h)
      · rintro ((h | h) | h)
        · exact .inl h
        · exact .inr (.inr h)
        · exact .inr (.inl h)
theorem nodup_le : ∀ {s t : List Int}, s.Nodup → (∀ x ∈ s, x ∈ t) → s.length ≤ t.length
  | [], _, _, _ => Nat.zero_le _
  | a :: s, t, hn, h => by
    have hn2 := List.nodup_cons.1 hn
    have ha := h a (List.mem_cons_self ..)
    have ih := nodup_le (s := s) (t := t.erase a) hn2.2 (fun x hx => (List.mem_erase_of_ne (fun e => hn2.1 (by rw [← e]; exact hx))).2 (h x (List.mem_cons_of_mem _ hx)))
    have := List.length_erase_of_mem ha
    have := List.length_pos_of_mem ha
    simp only [List.length_cons]
    omega
theorem all_len {os : List Ord} {l : List Int} (h : All os l) : l.length ≤ os.length := by
  have := nodup_le (s := l) (t := os.map (·.price)) (h.up.imp (fun {x y} h e => by omega)) (fun x hx => by
    obtain ⟨o, h1, h2⟩ := (h.mem x).1 hx
    exact List.mem_map.2 ⟨o, h1, h2⟩)
  simpa using this
theorem al_len {lo hi near : Int} {os : List Ord} {u : List Int} (h : Al lo hi near os u) : u.length ≤ os.length + 1 := by
  have := nodup_le (s := u) (t := near :: os.map (·.price)) (h.up.imp (fun {x y} h e => by omega)) (fun x hx => by
    rcases (h.mem x).1 hx with ⟨o, h1, h2, _⟩ | h1
    · exact List.mem_cons_of_mem _ (List.mem_map.2 ⟨o, h1, h2⟩)
    · rw [h1]; exact List.mem_cons_self ..)
  simpa using this
theorem al_uniq {lo hi near : Int} {os : List Ord} {u v : List Int} (h : Al lo hi near os u) (h2 : Al lo hi near os v) : u = v := Cu.up_eq h.up h2.up (fun x => (h.mem x).trans (h2.mem x).symm)
/-! ### sorting -/
open Go.Sort Go.Shelf in
theorem sort_any {w : World} {B : Nat} {v : Value} {s : List Int} (hown : w.ownsRow B 2 1 v s.length (ints s)) (hB : B ≤ w.heap.size) (hl : s.length ≤ 2000) : Calls Tryz.prog 62 #[v] w fun e w' => e = .returned (.tuple #[]) ∧ w'.ownsRow B 2 1 v s.length (ints (s.mergeSort fun x y => decide (x ≤ y))) ∧ Below B w w' := by
  rcases hown.2 with ⟨rfl, h0⟩ | ⟨g, cap, cur, rfl, hbg, hg, hnc, hcm, hcs, ht⟩
  · have hs : s = [] := List.eq_nil_of_length_eq_zero h0
    subst hs
    refine (AnyM.slices_Sort_int_none Cu.sortL none 0 w).mono ?_
    rintro e w' ⟨rfl, rfl⟩
    exact ⟨rfl, by rw [List.mergeSort_nil]; exact hown, Below.refl _ _⟩
  · have hgl := (Array.getElem?_eq_some_iff.1 hg).1
    refine (AnyM.slices_Sort_int Cu.sortL g 0 cap s w (holds_of_blockI hg (by simpa [ints] using ht)) hgl (by omega)).mono ?_
    rintro e w' ⟨rfl, n, os, rfl⟩
    refine ⟨rfl, ?_, grown_below (grownBy_sortedI _) hB (fun g' e => by cases e; exact hbg)⟩
    exact ownsRow_sortedI (n := n) (os := os) (ts := s.mergeSort fun x y => decide (x ≤ y)) (by rw [List.length_mergeSort]) hbg hg hnc hcm hcs
/-! ### allowed -/
def BS (bb : Nat) (lo hi : Int) (W : World) : Prop := W.cell? ⟨bb, 0, none⟩ = some (.int .i64 lo) ∧ W.cell? ⟨bb, 1, none⟩ = some (.int .i64 hi)
theorem allowed_any {w : World} {cb : Nat} {os : List Ord} {l : List Int} {A : Option Addr} {cap : Nat} (C : Cv w cb (pts os l) A cap) (AL : All os l) (r lo hi : Int) : Calls Tryz.prog 29 #[.pointer (some ⟨cb, 0, none⟩), .int .i64 r, .agg #[.int .i64 lo, .int .i64 hi]] w fun e w' => (∃ v u, e = .returned v ∧ w'.ownsRow w.heap.size 2 1 v u.length (ints u) ∧ Al lo hi (min (max r lo) hi) os u) ∧ Below w.heap.size w w' := by
  obtain ⟨near, hnear⟩ : ∃ x, x = min (max r lo) hi := ⟨_, rfl⟩
  rw [← hnear]
  obtain ⟨m, hm⟩ : ∃ m, m = pf lo hi (pts os l) := ⟨_, rfl⟩
  have hml : m.length ≤ 1000 := by rw [hm]; exact Nat.le_trans (pf_len _ _ _) C.len
  have hmf : m = l.filter fun p => decide (lo ≤ p ∧ p ≤ hi) := by rw [hm, pf_pts]
  have hmu : m.Pairwise (· < ·) := by rw [hmf]; exact AL.up.filter _
  obtain ⟨u, hD, hmem⟩ := sort_ins hmu near
  have HD := Lib.hid hD
  have HUM : Hid (Al lo hi near os u) := Lib.hid ⟨hD.1, fun p => (hmem p).trans (by
    rw [hmf, List.mem_filter, decide_eq_true_eq, AL.mem]
    constructor
    · rintro (⟨⟨o, h1, h2⟩, h3⟩ | h)
      · exact .inl ⟨o, h1, h2, h3⟩
      · exact .inr h
    · rintro (⟨o, h1, h2, h3⟩ | h)
      · exact .inl ⟨⟨o, h1, h2⟩, h3⟩
      · exact .inr h)⟩
  have hb0 : Below w.heap.size w (w.alloc (.cells #[.int .i64 lo, .int .i64 hi] 24)) := by (repeat (first | with_reducible exact Below.refl _ _ | (with_reducible assumption) | (with_reducible refine below_alloc ?_ _) | (with_reducible refine below_ext (w1 := ?_) ?_ ?_; rotate_left 2; (with_reducible assumption)) | (with_reducible refine Below.setCell ?_ ?_ _; rotate_left; ((try simp) <;> omega)) | (with_reducible refine Below.drew ?_) | (with_reducible refine below_drewN ?_ _) | fail))
  have hBb : Blk (w.alloc (.cells #[.int .i64 lo, .int .i64 hi] 24)) w.heap.size 24 #[.int .i64 lo, .int .i64 hi] := Blk.new _ _ _ _ rfl
  generalize hw0 : w.alloc (.cells #[.int .i64 lo, .int .i64 hi] 24) = w0 at hb0 hBb
  have HW0 := Lib.hid hw0
  have C0 := C.ext hb0
  have HPR : Hid (∀ W, Below w0.heap.size w0 W → Calls Tryz.prog 61 #[.pointer (some ⟨cb, 0, none⟩), .int .i64 lo, .int .i64 hi] W fun e w' => (∃ v, e = .returned v ∧ w'.ownsRow W.heap.size 2 1 v m.length (ints m)) ∧ Below W.heap.size W w') := Lib.hid (fun W hW => by rw [hm]; exact prices_any (C0.ext hW) lo hi)
  have HNE := Lib.hid hnear
  have hbl := hBb.lt
  clear hw0 hm hmf hmu hD hmem C AL C0 hnear
  go_enter Tryz.func29, Tryz.ntmps29
  go_upto_region 1 with fail
  rw [HW0.out]
  have hbd : Below w0.heap.size w0 w0.drew := (Below.refl _ _).drew
  refine wp_region_T (S := BS w.heap.size lo hi) 15 (by kernel_rfl) ?_
  have hzd : w0.drew.heap.size = w0.heap.size := rfl
  generalize w0.drew = w1 at hbd hzd ⊢
  have hbw1 : Below w.heap.size w w1 := below_ext hb0 hbd
  have hwz1 : w.heap.size ≤ w1.heap.size := hbw1.size
  have hB1 := hBb.ext hbd
  have HS : Hid (∀ W, Below w1.heap.size w1 W → BS w.heap.size lo hi W) := Lib.hid (fun W hW => ⟨(hB1.ext hW).cell 0, (hB1.ext hW).cell 1⟩)
  have hbr : Below w1.heap.size w1 w1 := Below.refl _ _
  have hS := HS.out _ hbr
  have hPR1 : Hid (∀ W, Below w1.heap.size w1 W → Calls Tryz.prog 61 #[.pointer (some ⟨cb, 0, none⟩), .int .i64 lo, .int .i64 hi] W fun e w' => (∃ v, e = .returned v ∧ w'.ownsRow W.heap.size 2 1 v m.length (ints m)) ∧ Below W.heap.size W w') := Lib.hid (fun W hW => HPR.out W (below_ext hbd hW))
  clear hBb hB1 HPR hb0 hbl
  (refine T_take (i := 0) rfl (by kernel_rfl) (fun _ _ _ _ h => h) hS ?_; apply Exists.intro; refine ⟨.inl ⟨by rfl, fun W hW => ?_⟩, ?_⟩; (next => (obtain ⟨hs1, hs2⟩ := hW; go_simp; first | done | rfl)); simp only [Act.put, List.setIfInBounds_toArray, List.set_cons_zero, List.set_cons_succ])
  (refine T_take (i := 1) rfl (by kernel_rfl) (fun _ _ _ _ h => h) hS ?_; apply Exists.intro; refine ⟨.inl ⟨by rfl, fun W hW => ?_⟩, ?_⟩; (next => (obtain ⟨hs1, hs2⟩ := hW; go_simp; first | done | rfl)); simp only [Act.put, List.setIfInBounds_toArray, List.set_cons_zero, List.set_cons_succ])
  (refine T_take (i := 2) rfl (by kernel_rfl) (fun _ _ _ _ h => h) hS ?_; apply Exists.intro; refine ⟨.inl ⟨by rfl, fun W hW => ?_⟩, ?_⟩; (next => (obtain ⟨hs1, hs2⟩ := hW; go_simp; first | done | rfl)); simp only [Act.put, List.setIfInBounds_toArray, List.set_cons_zero, List.set_cons_succ])
  (refine T_take (i := 3) rfl (by kernel_rfl) (fun _ _ _ _ h => h) hS ?_; apply Exists.intro; refine ⟨.inl ⟨by rfl, fun W hW => ?_⟩, ?_⟩; (next => (obtain ⟨hs1, hs2⟩ := hW; go_simp; first | done | rfl)); simp only [Act.put, List.setIfInBounds_toArray, List.set_cons_zero, List.set_cons_succ])
  (refine T_take (i := 4) rfl (by kernel_rfl) (fun _ _ _ _ h => h) hS ?_; apply Exists.intro; refine ⟨.inl ⟨by rfl, fun W hW => ?_⟩, ?_⟩; (next => (obtain ⟨hs1, hs2⟩ := hW; go_simp; first | done | rfl)); simp only [Act.put, List.setIfInBounds_toArray, List.set_cons_zero, List.set_cons_succ])
  (refine T_take (i := 6) rfl (by kernel_rfl) (fun _ _ _ _ h => h) hS ?_; apply Exists.intro; refine ⟨.inl ⟨by rfl, fun W hW => ?_⟩, ?_⟩; (next => (obtain ⟨hs1, hs2⟩ := hW; go_simp; first | done | rfl)); simp only [Act.put, List.setIfInBounds_toArray, List.set_cons_zero, List.set_cons_succ])
  (refine T_take (i := 7) rfl (by kernel_rfl) (fun _ _ _ _ h => h) hS ?_; apply Exists.intro; refine ⟨.inl ⟨by rfl, fun W hW => ?_⟩, ?_⟩; (next => (obtain ⟨hs1, hs2⟩ := hW; go_simp; first | done | rfl)); simp only [Act.put, List.setIfInBounds_toArray, List.set_cons_zero, List.set_cons_succ])
  (refine T_take (i := 8) rfl (by kernel_rfl) (fun _ _ _ _ h => h) hS ?_; apply Exists.intro; refine ⟨.inl ⟨by rfl, fun W hW => ?_⟩, ?_⟩; (next => (obtain ⟨hs1, hs2⟩ := hW; go_simp; first | done | rfl)); simp only [Act.put, List.setIfInBounds_toArray, List.set_cons_zero, List.set_cons_succ])
  (refine T_take (i := 9) rfl (by kernel_rfl) (fun _ _ _ _ h => h) hS ?_; apply Exists.intro; refine ⟨.inl ⟨by rfl, fun W hW => ?_⟩, ?_⟩; (next => (obtain ⟨hs1, hs2⟩ := hW; go_simp; first | done | rfl)); simp only [Act.put, List.setIfInBounds_toArray, List.set_cons_zero, List.set_cons_succ])
  (refine T_take (i := 10) rfl (by kernel_rfl) (fun _ _ _ _ h => h) hS ?_; apply Exists.intro; refine ⟨.inl ⟨by rfl, fun W hW => ?_⟩, ?_⟩; (next => (obtain ⟨hs1, hs2⟩ := hW; go_simp; first | done | rfl)); simp only [Act.put, List.setIfInBounds_toArray, List.set_cons_zero, List.set_cons_succ])
  (refine T_take (i := 11) rfl (by kernel_rfl) (fun _ _ _ _ h => h) hS ?_; apply Exists.intro; refine ⟨.inl ⟨by rfl, fun W hW => ?_⟩, ?_⟩; (next => (obtain ⟨hs1, hs2⟩ := hW; go_simp; first | done | rfl)); simp only [Act.put, List.setIfInBounds_toArray, List.set_cons_zero, List.set_cons_succ])
  (refine T_take (i := 12) rfl (by kernel_rfl) (fun _ _ _ _ h => h) hS ?_; apply Exists.intro; refine ⟨.inl ⟨by rfl, fun W hW => ?_⟩, ?_⟩; (next => (obtain ⟨hs1, hs2⟩ := hW; go_simp; first | done | rfl)); simp only [Act.put, List.setIfInBounds_toArray, List.set_cons_zero, List.set_cons_succ])
  refine T_all [5, 13] (by kernel_rfl) (by decide) ?_
  intro j hj
  simp only [List.mem_cons, or_false, List.not_mem_nil] at hj
  rcases hj with rfl | rfl
  · refine T_op rfl (by rfl) ?_
    refine Lad.wp_enterE (F := 61) (args := #[.pointer (some ⟨cb, 0, none⟩), .int .i64 lo, .int .i64 hi]) ?_ ?_
    (next => first | (go_simp; done) | (go_simp; rfl))
    refine (hPR1.out _ hbr).mono ?_
    rintro e w2 ⟨⟨v, rfl, hown0w2⟩, hsw2⟩
    have hbw2 : Below w1.heap.size w1 w2 := below_ext hbr hsw2
    have hownw2 : w2.ownsRow w1.heap.size 2 1 v m.length (ints m) := Rk.owns_mono hown0w2 hbr.size
    clear hown0w2
    refine ⟨_, rfl, .inr (HS.out _ hbw2), ?_⟩
    simp only [Act.put, List.setIfInBounds_toArray, List.set_cons_zero, List.set_cons_succ]
    refine T_all [13] (by kernel_rfl) (by decide) ?_
    intro j hj
    simp only [List.mem_cons, or_false, List.not_mem_nil] at hj
    subst hj
    refine T_op rfl (by rfl) ?_
    refine wp_build1 _ 2 _ (by rfl) (.int .i64 0) 1 Tryz.underlying48 (by kernel_rfl) ⟨by decide, by decide⟩ (.int .i64 near) (by rw [HNE.out]; rfl) #[.int .i64 near] (by kernel_rfl) ?_
    intro w3 hXw3 hsw3 hqw3
    have hbw3 : Below w1.heap.size w1 w3 := below_ext hbw2 hsw3
    refine ⟨.inr (HS.out _ hbw3), ?_⟩
    simp only [Act.put, List.setIfInBounds_toArray, List.set_cons_zero, List.set_cons_succ]
    have hown3 := owns_ext hownw2 hsw3
    refine T_all [14] (by kernel_rfl) (by decide) ?_
    intro j hj
    simp only [List.mem_cons, or_false, List.not_mem_nil] at hj
    subst hj
    refine T_op rfl (by rfl) ?_
    refine wp_append_rd _ _ _ (by rfl) w1.heap.size 2 (.int .i64 0) 1 8 Tryz.underlying48 (by kernel_rfl) ⟨rfl, by decide⟩ v m.length (ints m) (by rfl) hown3 (some ⟨w2.heap.size, 0, none⟩) 1 1 [ic near] (by rfl) (rd_own hXw3 (by simp [ic]) (n := 1) (by simp [ic])) ⟨rfl, by simp [ic, Value.oneCell']⟩ (fun e => by cases e) ⟨by unfold maxLen; omega, by omega⟩ hbw3.size ?_
    intro v1 w5 ho5 hs5 hq5 hk5
    have hb5 : Below w1.heap.size w1 w5 := hbw3.trans hs5
    have hown5 : w5.ownsRow w1.heap.size 2 1 v1 (m ++ [near]).length (ints (m ++ [near])) := by
      have e1 : (m ++ [near]).length = m.length + 1 := by simp
      have e2 : ints (m ++ [near]) = ints m ++ [ic near].flatten := by simp [ints, ic]
      rw [e1, e2]
      exact ho5
    refine ⟨.inr (HS.out _ hb5), ?_⟩
    simp only [Act.put, List.setIfInBounds_toArray, List.set_cons_zero, List.set_cons_succ]
    refine T_all [15] (by kernel_rfl) (by decide) ?_
    intro j hj
    simp only [List.mem_cons, or_false, List.not_mem_nil] at hj
    subst hj
    refine T_op rfl (by rfl) (Rk.wp_calm (v := v1) (by go_simp; first | done | rfl) ⟨.inl rfl, ?_⟩)
    simp only [Act.put, List.setIfInBounds_toArray, List.set_cons_zero, List.set_cons_succ]
    refine T_done (by kernel_rfl) ?_
    have HSO := Lib.hid (sort_any hown5 hb5.size (by simp; omega))
    have HW5 := Lib.hid hb5
    clear hown5 ho5 hs5 hk5 hb5 hXw3 hS
    go_wp2_with fail
    refine HSO.out.mono ?_
    rintro e w6 ⟨rfl, hown6, hb6⟩
    have hw6 := HW5.out.trans hb6
    have hl6 : ((m ++ [near]).mergeSort fun x y => decide (x ≤ y)).length = (m ++ [near]).length := List.length_mergeSort _
    rw [← hl6] at hown6
    have HCO := Lib.hid (compact_any hown6 hw6.size (by rw [hl6]; simp; omega) HD.out)
    clear hown6 hl6 hb6 HSO HW5
    go_wp2_with fail
    refine HCO.out.mono ?_
    rintro e w7 ⟨⟨v7, rfl, hown7⟩, hb7⟩
    go_wp2_with fail
    go_ret
    exact ⟨⟨v7, u, rfl, Rk.owns_mono hown7 hwz1, HUM.out⟩, hbw1.trans ((hw6.trans hb7).mono hwz1)⟩
  · refine T_op rfl (by rfl) ?_
    refine wp_build1 _ 2 _ (by rfl) (.int .i64 0) 1 Tryz.underlying48 (by kernel_rfl) ⟨by decide, by decide⟩ (.int .i64 near) (by rw [HNE.out]; rfl) #[.int .i64 near] (by kernel_rfl) ?_
    intro w2 hXw2 hsw2 hqw2
    have hbw2 : Below w1.heap.size w1 w2 := below_ext hbr hsw2
    refine ⟨.inr (HS.out _ hbw2), ?_⟩
    simp only [Act.put, List.setIfInBounds_toArray, List.set_cons_zero, List.set_cons_succ]
    refine T_all [5] (by kernel_rfl) (by decide) ?_
    intro j hj
    simp only [List.mem_cons, or_false, List.not_mem_nil] at hj
    subst hj
    refine T_op rfl (by rfl) ?_
    refine Lad.wp_enterE (F := 61) (args := #[.pointer (some ⟨cb, 0, none⟩), .int .i64 lo, .int .i64 hi]) ?_ ?_
    (next => first | (go_simp; done) | (go_simp; rfl))
    refine (hPR1.out _ hbw2).mono ?_
    rintro e w3 ⟨⟨v, rfl, hown0w3⟩, hsw3⟩
    have hbw3 : Below w1.heap.size w1 w3 := below_ext hbw2 hsw3
    have hownw3 : w3.ownsRow w1.heap.size 2 1 v m.length (ints m) := Rk.owns_mono hown0w3 hbw2.size
    clear hown0w3
    refine ⟨_, rfl, .inr (HS.out _ hbw3), ?_⟩
    simp only [Act.put, List.setIfInBounds_toArray, List.set_cons_zero, List.set_cons_succ]
    have hXw3 := hXw2.ext hsw3
    refine T_all [14] (by kernel_rfl) (by decide) ?_
    intro j hj
    simp only [List.mem_cons, or_false, List.not_mem_nil] at hj
    subst hj
    refine T_op rfl (by rfl) ?_
    refine wp_append_rd _ _ _ (by rfl) w1.heap.size 2 (.int .i64 0) 1 8 Tryz.underlying48 (by kernel_rfl) ⟨rfl, by decide⟩ v m.length (ints m) (by rfl) hownw3 (some ⟨w1.heap.size, 0, none⟩) 1 1 [ic near] (by rfl) (rd_own hXw3 (by simp [ic]) (n := 1) (by simp [ic])) ⟨rfl, by simp [ic, Value.oneCell']⟩ (fun e => by cases e) ⟨by unfold maxLen; omega, by omega⟩ hbw3.size ?_
    intro v1 w5 ho5 hs5 hq5 hk5
    have hb5 : Below w1.heap.size w1 w5 := hbw3.trans hs5
    have hown5 : w5.ownsRow w1.heap.size 2 1 v1 (m ++ [near]).length (ints (m ++ [near])) := by
      have e1 : (m ++ [near]).length = m.length + 1 := by simp
      have e2 : ints (m ++ [near]) = ints m ++ [ic near].flatten := by simp [ints, ic]
      rw [e1, e2]
      exact ho5
    refine ⟨.inr (HS.out _ hb5), ?_⟩
    simp only [Act.put, List.setIfInBounds_toArray, List.set_cons_zero, List.set_cons_succ]
    refine T_all [15] (by kernel_rfl) (by decide) ?_
    intro j hj
    simp only [List.mem_cons, or_false, List.not_mem_nil] at hj
    subst hj
    refine T_op rfl (by rfl) (Rk.wp_calm (v := v1) (by go_simp; first | done | rfl) ⟨.inl rfl, ?_⟩)
    simp only [Act.put, List.setIfInBounds_toArray, List.set_cons_zero, List.set_cons_succ]
    refine T_done (by kernel_rfl) ?_
    have HSO := Lib.hid (sort_any hown5 hb5.size (by simp; omega))
    have HW5 := Lib.hid hb5
    clear hown5 ho5 hs5 hk5 hb5 hXw3 hS
    go_wp2_with fail
    refine HSO.out.mono ?_
    rintro e w6 ⟨rfl, hown6, hb6⟩
    have hw6 := HW5.out.trans hb6
    have hl6 : ((m ++ [near]).mergeSort fun x y => decide (x ≤ y)).length = (m ++ [near]).length := List.length_mergeSort _
    rw [← hl6] at hown6
    have HCO := Lib.hid (compact_any hown6 hw6.size (by rw [hl6]; simp; omega) HD.out)
    clear hown6 hl6 hb6 HSO HW5
    go_wp2_with fail
    refine HCO.out.mono ?_
    rintro e w7 ⟨⟨v7, rfl, hown7⟩, hb7⟩
    go_wp2_with fail
    go_ret
    exact ⟨⟨v7, u, rfl, Rk.owns_mono hown7 hwz1, HUM.out⟩, hbw1.trans ((hw6.trans hb7).mono hwz1)⟩
end Cl
end Go.Proofs.YtacpjpkhmdcagaaGreat
namespace Go.Proofs.YtacpjpkhmdcagaaGreat
set_option linter.unusedVariables false
open Go.RowKit
namespace Cl
set_option maxHeartbeats 4000000
set_option maxRecDepth 10000
def bnd (lo hi : Int) : Array Value := #[.int .i64 lo, .int .i64 hi]
theorem bnd_one (lo hi : Int) : (bnd lo hi).all (·.oneCell') = true := by simp [bnd, Value.oneCell']
theorem built_b (x y : Int) : Tryz.prog.built 24 [(0, .int .i64 x), (1, .int .i64 y)] = some #[.int .i64 x, .int .i64 y] := by kernel_rfl
theorem two_one (x y : Int) : (#[Value.int .i64 x, .int .i64 y] : Array Value).all (·.oneCell') = true := by simp [Value.oneCell']
theorem results_bnd {fn : Func} {p : Tmp} (h : fn.results = #[.cell p 24]) (tmps : Array Value) (w : World) (g : Nat) (cs : Array Value) (hp : tmps.getD p undef = .pointer (some ⟨g, 0, none⟩)) (hb : Blk w g 24 cs) (h3 : cs.size = 2) :
    (results fn tmps).run Tryz.prog w = .ok (.agg cs) w :=
  results_cell_row h _ _ _ _ _ _ _ hp hb Tryz.underlying24 rfl (by rw [h3]; kernel_rfl)
theorem results_bnd2 {fn : Func} {p u : Tmp} (h : fn.results = #[.cell p 24, .tmp u]) (tmps : Array Value) (w : World) (g : Nat) (cs : Array Value) (x : Value) (hp : tmps.getD p undef = .pointer (some ⟨g, 0, none⟩)) (hx : tmps.getD u undef = x) (hb : Blk w g 24 cs) (h4 : cs.size = 2) :
    (results fn tmps).run Tryz.prog w = .ok (.tuple #[.agg cs, x]) w := by
  rw [results_cell_tmp h, hp, hx]
  simp only [asAddr, Sem.run_pure, Result.andThen_ok, run_loadVar_row w g 24 24 cs _ _ hb Tryz.underlying24 rfl (by rw [h4]; kernel_rfl)]
theorem whole_any (w : World) : Calls Tryz.prog 38 #[] w fun e w' => e = .returned (.agg #[.int .i64 1, .int .i64 1099511627776]) ∧ Below w.heap.size w w' := by
  have hR : Blk (w.alloc (.cells #[.int .i64 0, .int .i64 0] 24)) w.heap.size 24 #[.int .i64 0, .int .i64 0] := Blk.new _ _ _ _ rfl
  have hb0 : Below w.heap.size w (w.alloc (.cells #[.int .i64 0, .int .i64 0] 24)) := by (repeat (first | with_reducible exact Below.refl _ _ | (with_reducible assumption) | (with_reducible refine below_alloc ?_ _) | (with_reducible refine below_ext (w1 := ?_) ?_ ?_; rotate_left 2; (with_reducible assumption)) | (with_reducible refine Below.setCell ?_ ?_ _; rotate_left; ((try simp) <;> omega)) | (with_reducible refine Below.drew ?_) | (with_reducible refine below_drewN ?_ _) | fail))
  go_enter Tryz.func38, Tryz.ntmps38
  go_wp2_with (first | ((with_reducible show wpList _ _ _ (⟨_, .build _ _, _, _, _, _⟩ :: _) _ _); refine wpList_build_is (by rfl) _ _ (by rfl) ?_ ?_ ?_; rotate_left; (next => simp only [List.map_toArray, List.map_cons, List.map_nil, go_sem]; exact built_b ..)) | ((with_reducible show wpList _ _ _ (⟨_, .store 24 _ _, _, _, _, _⟩ :: _) _ _); refine wpList_store_blk (by rfl) 24 _ _ (by rfl) _ _ (by rfl) (by rfl) _ _ hR (by kernel_rfl) (by rfl) ?_ ?_; (next => exact two_one ..); intro w3 hR3 hU3) | fail)
  refine bodyPost_ret (results_bnd rfl _ _ w.heap.size _ (by rfl) hR3 rfl) rfl ⟨rfl, below_upd hb0 (Nat.le_refl _) hU3⟩
theorem upd_cell {g : Nat} {w w' : World} (h : Upd g w w') {p : Addr} (hp : p.block ≠ g) : w'.cell? p = w.cell? p := World.cell?_of_block (h.block _ hp)
def CS (zb : Nat) (W : World) : Prop := W.cell? ⟨zb, 0, none⟩ = some (.int .i64 1) ∧ W.cell? ⟨zb, 1, none⟩ = some (.int .i64 1099511627776)
def CB (b : Nat) (lo hi : Int) (W : World) : Prop := W.cell? ⟨b, 0, none⟩ = some (.int .i64 lo) ∧ W.cell? ⟨b, 1, none⟩ = some (.int .i64 hi)
theorem cut_any (lo hi : Int) (w : World) : Calls Tryz.prog 26 #[.agg #[.int .i64 lo, .int .i64 hi]] w fun e w' => e = .returned (.tuple #[.agg #[.int .i64 (max lo 1), .int .i64 (min hi 1099511627776)], .bool (decide (max lo 1 ≤ min hi 1099511627776))]) ∧ Below w.heap.size w w' := by
  have hB0 : Blk ((w.alloc (.cells #[.int .i64 lo, .int .i64 hi] 24)).alloc (.cells #[.int .i64 0, .int .i64 0] 24)) w.heap.size 24 #[.int .i64 lo, .int .i64 hi] := (Blk.new w _ _ _ rfl).alloc _
  have hR0 : Blk ((w.alloc (.cells #[.int .i64 lo, .int .i64 hi] 24)).alloc (.cells #[.int .i64 0, .int .i64 0] 24)) (w.heap.size + 1) 24 #[.int .i64 0, .int .i64 0] := Blk.new _ _ _ _ (sz_alloc _ _)
  have hb0 : Below w.heap.size w ((w.alloc (.cells #[.int .i64 lo, .int .i64 hi] 24)).alloc (.cells #[.int .i64 0, .int .i64 0] 24)) := by (repeat (first | with_reducible exact Below.refl _ _ | (with_reducible assumption) | (with_reducible refine below_alloc ?_ _) | (with_reducible refine below_ext (w1 := ?_) ?_ ?_; rotate_left 2; (with_reducible assumption)) | (with_reducible refine Below.setCell ?_ ?_ _; rotate_left; ((try simp) <;> omega)) | (with_reducible refine Below.drew ?_) | (with_reducible refine below_drewN ?_ _) | fail))
  generalize hw0 : (w.alloc (.cells #[.int .i64 lo, .int .i64 hi] 24)).alloc (.cells #[.int .i64 0, .int .i64 0] 24) = w0 at hB0 hR0 hb0
  have HW0 := Lib.hid hw0
  have hrl := hR0.lt
  have HWH := Lib.hid (fun W => whole_any W)
  clear hw0
  go_enter Tryz.func26, Tryz.ntmps26
  go_wp2_with fail
  rw [HW0.out]
  refine (HWH.out _).mono ?_
  rintro e w2 ⟨rfl, hb2⟩
  have hZ0 : Blk (w2.alloc (.cells #[.int .i64 0, .int .i64 0] 24)) w2.heap.size 24 #[.int .i64 0, .int .i64 0] := Blk.new _ _ _ _ rfl
  go_wp2_with (first | ((with_reducible show wpList _ _ _ (⟨_, .store 24 _ _, _, _, _, _⟩ :: _) _ _); refine wpList_store_blk (by rfl) 24 _ _ (by rfl) _ _ (by rfl) (by rfl) _ _ hZ0 (by kernel_rfl) (by rfl) ?_ ?_; (next => exact two_one ..); intro w3 hZ3 hU3) | fail)
  have hb23 : Below w2.heap.size w2 w3 := below_upd (by (repeat (first | with_reducible exact Below.refl _ _ | (with_reducible assumption) | (with_reducible refine below_alloc ?_ _) | (with_reducible refine below_ext (w1 := ?_) ?_ ?_; rotate_left 2; (with_reducible assumption)) | (with_reducible refine Below.setCell ?_ ?_ _; rotate_left; ((try simp) <;> omega)) | (with_reducible refine Below.drew ?_) | (with_reducible refine below_drewN ?_ _) | fail))) (Nat.le_refl _) hU3
  have hB3 := (hB0.ext hb2).ext hb23
  have hR3 := (hR0.ext hb2).ext hb23
  have hbw3 := below_ext (below_ext hb0 hb2) hb23
  have hz2 := hb2.size
  obtain ⟨zb, hzb⟩ : ∃ b, b = w2.heap.size := ⟨_, rfl⟩
  rw [← hzb] at hZ3 hz2 ⊢
  have hzn : zb ≠ w.heap.size := by omega
  have hzr : zb ≠ w.heap.size + 1 := by omega
  clear hZ0 hU3 hB0 hR0 hb2 hb23 hzb hb0 HW0 HWH
  have hbd : Below w3.heap.size w3 w3.drew := (Below.refl _ _).drew
  refine wp_region_T (S := CS zb) 13 (by kernel_rfl) ?_
  generalize w3.drew = w5 at hbd ⊢
  have hS : CS zb w5 := ⟨(hZ3.ext hbd).cell 0, (hZ3.ext hbd).cell 1⟩
  have hB5 := hB3.ext hbd
  have hR5 := hR3.ext hbd
  have hbw5 := below_ext hbw3 hbd
  have c50 : w5.cell? ⟨w.heap.size, 0, none⟩ = some (.int .i64 lo) := hB5.cell 0
  have c51 : w5.cell? ⟨w.heap.size, 1, none⟩ = some (.int .i64 hi) := hB5.cell 1
  clear hbd hbw3 hR3 hB3 hZ3
  (refine T_take (i := 0) rfl (by kernel_rfl) (fun _ _ _ _ h => h) hS ?_; apply Exists.intro; refine ⟨.inl ⟨by rfl, fun W hW => ?_⟩, ?_⟩; (next => (obtain ⟨hs1, hs2⟩ := hW; go_simp; first | done | rfl)); simp only [Act.put, List.setIfInBounds_toArray, List.set_cons_zero, List.set_cons_succ])
  (refine T_take (i := 2) rfl (by kernel_rfl) (fun _ _ _ _ h => h) hS ?_; apply Exists.intro; refine ⟨.inl ⟨by rfl, fun W hW => ?_⟩, ?_⟩; (next => (obtain ⟨hs1, hs2⟩ := hW; go_simp; first | done | rfl)); simp only [Act.put, List.setIfInBounds_toArray, List.set_cons_zero, List.set_cons_succ])
  (refine T_take (i := 3) rfl (by kernel_rfl) (fun _ _ _ _ h => h) hS ?_; apply Exists.intro; refine ⟨.inl ⟨by rfl, fun W hW => ?_⟩, ?_⟩; (next => (obtain ⟨hs1, hs2⟩ := hW; go_simp; first | done | rfl)); simp only [Act.put, List.setIfInBounds_toArray, List.set_cons_zero, List.set_cons_succ])
  (refine T_take (i := 5) rfl (by kernel_rfl) (fun _ _ _ _ h => h) hS ?_; apply Exists.intro; refine ⟨.inl ⟨by rfl, fun W hW => ?_⟩, ?_⟩; (next => (obtain ⟨hs1, hs2⟩ := hW; go_simp; first | done | rfl)); simp only [Act.put, List.setIfInBounds_toArray, List.set_cons_zero, List.set_cons_succ])
  (refine T_take (i := 7) rfl (by kernel_rfl) (fun _ _ _ _ h => h) hS ?_; apply Exists.intro; refine ⟨.inl ⟨by rfl, fun W hW => ?_⟩, ?_⟩; (next => (obtain ⟨hs1, hs2⟩ := hW; go_simp; first | done | rfl)); simp only [Act.put, List.setIfInBounds_toArray, List.set_cons_zero, List.set_cons_succ])
  (refine T_take (i := 8) rfl (by kernel_rfl) (fun _ _ _ _ h => h) hS ?_; apply Exists.intro; refine ⟨.inl ⟨by rfl, fun W hW => ?_⟩, ?_⟩; (next => (obtain ⟨hs1, hs2⟩ := hW; go_simp; first | done | rfl)); simp only [Act.put, List.setIfInBounds_toArray, List.set_cons_zero, List.set_cons_succ])
  refine T_all [1, 6] (by kernel_rfl) (by decide) ?_
  intro j hj
  simp only [List.mem_cons, or_false, List.not_mem_nil] at hj
  rcases hj with rfl | rfl
  · refine T_op rfl (by rfl) (Rk.wp_calm (v := .int .i64 lo) (by go_simp; first | done | rfl) ⟨.inr hS, ?_⟩)
    simp only [Act.put, List.setIfInBounds_toArray, List.set_cons_zero, List.set_cons_succ]
    (refine T_take (i := 4) rfl (by kernel_rfl) (fun _ _ _ _ h => h) hS ?_; apply Exists.intro; refine ⟨.inl ⟨by rfl, fun W hW => ?_⟩, ?_⟩; (next => (obtain ⟨hs1, hs2⟩ := hW; go_simp; first | done | rfl)); simp only [Act.put, List.setIfInBounds_toArray, List.set_cons_zero, List.set_cons_succ])
    refine T_all [6] (by kernel_rfl) (by decide) ?_
    intro j hj
    simp only [List.mem_cons, or_false, List.not_mem_nil] at hj
    subst hj
    refine T_op rfl (by rfl) (Rk.wp_calm (v := .int .i64 hi) (by go_simp; first | done | rfl) ⟨.inr hS, ?_⟩)
    simp only [Act.put, List.setIfInBounds_toArray, List.set_cons_zero, List.set_cons_succ]
    (refine T_take (i := 9) rfl (by kernel_rfl) (fun _ _ _ _ h => h) hS ?_; apply Exists.intro; refine ⟨.inl ⟨by rfl, fun W hW => ?_⟩, ?_⟩; (next => (obtain ⟨hs1, hs2⟩ := hW; go_simp; first | done | rfl)); simp only [Act.put, List.setIfInBounds_toArray, List.set_cons_zero, List.set_cons_succ])
    (refine T_take (i := 10) rfl (by kernel_rfl) (fun _ _ _ _ h => h) hS ?_; apply Exists.intro; refine ⟨.inl ⟨by rfl, fun W hW => ?_⟩, ?_⟩; (next => (obtain ⟨hs1, hs2⟩ := hW; go_simp; first | done | rfl)); simp only [Act.put, List.setIfInBounds_toArray, List.set_cons_zero, List.set_cons_succ])
    refine T_all [11] (by kernel_rfl) (by decide) ?_
    intro j hj
    simp only [List.mem_cons, or_false, List.not_mem_nil] at hj
    subst hj
    refine T_op rfl (by rfl) ?_
    refine wp_store_fld _ _ _ (by rfl) w.heap.size 0 (by rfl) (.int .i64 (max lo 1)) (by rfl) _ _ hB5 (by simp) (by kernel_rfl) rfl rfl ?_
    intro w6 hB6 hU6
    have hS6 : CS zb w6 := ⟨(upd_cell hU6 (p := ⟨zb, 0, none⟩) hzn).trans hS.1, (upd_cell hU6 (p := ⟨zb, 1, none⟩) hzn).trans hS.2⟩
    refine ⟨.inr hS6, ?_⟩
    simp only [Act.put]
    clear hS
    have hS := hS6
    (refine T_take (i := 12) rfl (by kernel_rfl) (fun _ _ _ _ h => h) hS ?_; apply Exists.intro; refine ⟨.inl ⟨by rfl, fun W hW => ?_⟩, ?_⟩; (next => (obtain ⟨hs1, hs2⟩ := hW; go_simp; first | done | rfl)); simp only [Act.put, List.setIfInBounds_toArray, List.set_cons_zero, List.set_cons_succ])
    refine T_all [13] (by kernel_rfl) (by decide) ?_
    intro j hj
    simp only [List.mem_cons, or_false, List.not_mem_nil] at hj
    subst hj
    refine T_op rfl (by rfl) ?_
    refine wp_store_fld _ _ _ (by rfl) w.heap.size 1 (by rfl) (.int .i64 (min hi 1099511627776)) (by rfl) _ _ hB6 (by simp) (by kernel_rfl) rfl rfl ?_
    intro w7 hB7 hU7
    refine ⟨.inl rfl, ?_⟩
    simp only [Act.put]
    refine T_done (by kernel_rfl) ?_
    have hB8 : Blk w7 w.heap.size 24 #[.int .i64 (max lo 1), .int .i64 (min hi 1099511627776)] := hB7
    have hR8 : Blk w7 (w.heap.size + 1) 24 #[.int .i64 0, .int .i64 0] := (hR5.upd (by omega) hU6).upd (by omega) hU7
    have hb7 : Below w.heap.size w w7 := below_upd (below_upd hbw5 (Nat.le_refl _) hU6) (Nat.le_refl _) hU7
    clear hB7 hU7 hB6 hU6 hS6 hS hB5 hR5 hbw5 c50 c51
    have d0 : w7.cell? ⟨w.heap.size, 0, none⟩ = some (.int .i64 (max lo 1)) := hB8.cell 0
    have d1 : w7.cell? ⟨w.heap.size, 1, none⟩ = some (.int .i64 (min hi 1099511627776)) := hB8.cell 1
    go_wp2_with fail
    have hbd7 : Below w7.heap.size w7 w7.drew := (Below.refl _ _).drew
    refine wp_region_T (S := fun W => Blk W w.heap.size 24 #[.int .i64 (max lo 1), .int .i64 (min hi 1099511627776)]) 7 (by kernel_rfl) ?_
    generalize w7.drew = w8 at hbd7 ⊢
    have hS := hB8.ext hbd7
    have hR9 := hR8.ext hbd7
    have hb8 := below_ext hb7 hbd7
    clear d0 d1 hbd7 hR8 hb7
    (refine T_take (i := 0) rfl (by kernel_rfl) (fun _ _ _ _ h => h) hS ?_; refine ⟨_, y_load_blk 24 _ rfl (by rfl) w.heap.size (by rfl) 24 #[.int .i64 (max lo 1), .int .i64 (min hi 1099511627776)] _ (fun W h => h) Tryz.underlying24 rfl (by kernel_rfl), ?_⟩; simp only [Act.put, List.setIfInBounds_toArray, List.set_cons_zero, List.set_cons_succ])
    (refine T_take (i := 1) rfl (by kernel_rfl) (fun _ _ _ _ h => h) hS ?_; apply Exists.intro; refine ⟨.inl ⟨by rfl, fun W hW => ?_⟩, ?_⟩; (next => (have hs1 := hW.cell 0; have hs2 := hW.cell 1; simp only [List.getElem?_toArray, List.getElem?_cons_zero, List.getElem?_cons_succ] at hs1 hs2; go_simp; first | done | rfl)); simp only [Act.put, List.setIfInBounds_toArray, List.set_cons_zero, List.set_cons_succ])
    (refine T_take (i := 2) rfl (by kernel_rfl) (fun _ _ _ _ h => h) hS ?_; apply Exists.intro; refine ⟨.inl ⟨by rfl, fun W hW => ?_⟩, ?_⟩; (next => (have hs1 := hW.cell 0; have hs2 := hW.cell 1; simp only [List.getElem?_toArray, List.getElem?_cons_zero, List.getElem?_cons_succ] at hs1 hs2; go_simp; first | done | rfl)); simp only [Act.put, List.setIfInBounds_toArray, List.set_cons_zero, List.set_cons_succ])
    (refine T_take (i := 3) rfl (by kernel_rfl) (fun _ _ _ _ h => h) hS ?_; apply Exists.intro; refine ⟨.inl ⟨by rfl, fun W hW => ?_⟩, ?_⟩; (next => (have hs1 := hW.cell 0; have hs2 := hW.cell 1; simp only [List.getElem?_toArray, List.getElem?_cons_zero, List.getElem?_cons_succ] at hs1 hs2; go_simp; first | done | rfl)); simp only [Act.put, List.setIfInBounds_toArray, List.set_cons_zero, List.set_cons_succ])
    (refine T_take (i := 4) rfl (by kernel_rfl) (fun _ _ _ _ h => h) hS ?_; apply Exists.intro; refine ⟨.inl ⟨by rfl, fun W hW => ?_⟩, ?_⟩; (next => (have hs1 := hW.cell 0; have hs2 := hW.cell 1; simp only [List.getElem?_toArray, List.getElem?_cons_zero, List.getElem?_cons_succ] at hs1 hs2; go_simp; first | done | rfl)); simp only [Act.put, List.setIfInBounds_toArray, List.set_cons_zero, List.set_cons_succ])
    (refine T_take (i := 5) rfl (by kernel_rfl) (fun _ _ _ _ h => h) hS ?_; apply Exists.intro; refine ⟨.inl ⟨by rfl, fun W hW => ?_⟩, ?_⟩; (next => (have hs1 := hW.cell 0; have hs2 := hW.cell 1; simp only [List.getElem?_toArray, List.getElem?_cons_zero, List.getElem?_cons_succ] at hs1 hs2; go_simp; first | done | rfl)); simp only [Act.put, List.setIfInBounds_toArray, List.set_cons_zero, List.set_cons_succ])
    refine T_all [6] (by kernel_rfl) (by decide) ?_
    intro j hj
    simp only [List.mem_cons, or_false, List.not_mem_nil] at hj
    subst hj
    refine T_op rfl (by rfl) ?_
    refine wp_store_mid _ _ _ (by rfl) (w.heap.size + 1) 0 #[.int .i64 (max lo 1), .int .i64 (min hi 1099511627776)] (by rfl) (by rfl) (fun j hj => by rw [hR9.cell, hR9.frozen]; have h2 : j < 2 := hj; exact ⟨by rw [Nat.zero_add, Array.getElem?_eq_getElem (show j < (#[Value.int .i64 0, .int .i64 0] : Array Value).size from h2)]; rfl, rfl⟩) (by kernel_rfl) (two_one _ _) ?_
    have hR10 := Blk.put (t := 24) [Value.int .i64 (max lo 1), Value.int .i64 (min hi 1099511627776)] 0 hR9
    have hU10 := Upd.put (g := w.heap.size + 1) [Value.int .i64 (max lo 1), Value.int .i64 (min hi 1099511627776)] w8 0
    refine ⟨.inr (hS.upd (by omega) hU10), ?_⟩
    simp only [Act.put]
    refine T_all [7] (by kernel_rfl) (by decide) ?_
    intro j hj
    simp only [List.mem_cons, or_false, List.not_mem_nil] at hj
    subst hj
    refine T_op rfl (by rfl) (Rk.wp_calm (v := .bool (decide (max lo 1 ≤ min hi 1099511627776))) (by go_simp; first | done | rfl) ⟨.inl rfl, ?_⟩)
    simp only [Act.put, List.setIfInBounds_toArray, List.set_cons_zero, List.set_cons_succ]
    refine T_done (by kernel_rfl) ?_
    go_wp2_with fail
    refine bodyPost_ret (results_bnd2 rfl _ _ (w.heap.size + 1) _ (.bool (decide (max lo 1 ≤ min hi 1099511627776))) (by rfl) (by rfl) hR10 rfl) rfl ⟨rfl, below_upd hb8 (Nat.le_succ _) hU10⟩
  · refine T_op rfl (by rfl) (Rk.wp_calm (v := .int .i64 hi) (by go_simp; first | done | rfl) ⟨.inr hS, ?_⟩)
    simp only [Act.put, List.setIfInBounds_toArray, List.set_cons_zero, List.set_cons_succ]
    (refine T_take (i := 9) rfl (by kernel_rfl) (fun _ _ _ _ h => h) hS ?_; apply Exists.intro; refine ⟨.inl ⟨by rfl, fun W hW => ?_⟩, ?_⟩; (next => (obtain ⟨hs1, hs2⟩ := hW; go_simp; first | done | rfl)); simp only [Act.put, List.setIfInBounds_toArray, List.set_cons_zero, List.set_cons_succ])
    refine T_all [1] (by kernel_rfl) (by decide) ?_
    intro j hj
    simp only [List.mem_cons, or_false, List.not_mem_nil] at hj
    subst hj
    refine T_op rfl (by rfl) (Rk.wp_calm (v := .int .i64 lo) (by go_simp; first | done | rfl) ⟨.inr hS, ?_⟩)
    simp only [Act.put, List.setIfInBounds_toArray, List.set_cons_zero, List.set_cons_succ]
    (refine T_take (i := 4) rfl (by kernel_rfl) (fun _ _ _ _ h => h) hS ?_; apply Exists.intro; refine ⟨.inl ⟨by rfl, fun W hW => ?_⟩, ?_⟩; (next => (obtain ⟨hs1, hs2⟩ := hW; go_simp; first | done | rfl)); simp only [Act.put, List.setIfInBounds_toArray, List.set_cons_zero, List.set_cons_succ])
    (refine T_take (i := 10) rfl (by kernel_rfl) (fun _ _ _ _ h => h) hS ?_; apply Exists.intro; refine ⟨.inl ⟨by rfl, fun W hW => ?_⟩, ?_⟩; (next => (obtain ⟨hs1, hs2⟩ := hW; go_simp; first | done | rfl)); simp only [Act.put, List.setIfInBounds_toArray, List.set_cons_zero, List.set_cons_succ])
    refine T_all [11] (by kernel_rfl) (by decide) ?_
    intro j hj
    simp only [List.mem_cons, or_false, List.not_mem_nil] at hj
    subst hj
    refine T_op rfl (by rfl) ?_
    refine wp_store_fld _ _ _ (by rfl) w.heap.size 0 (by rfl) (.int .i64 (max lo 1)) (by rfl) _ _ hB5 (by simp) (by kernel_rfl) rfl rfl ?_
    intro w6 hB6 hU6
    have hS6 : CS zb w6 := ⟨(upd_cell hU6 (p := ⟨zb, 0, none⟩) hzn).trans hS.1, (upd_cell hU6 (p := ⟨zb, 1, none⟩) hzn).trans hS.2⟩
    refine ⟨.inr hS6, ?_⟩
    simp only [Act.put]
    clear hS
    have hS := hS6
    (refine T_take (i := 12) rfl (by kernel_rfl) (fun _ _ _ _ h => h) hS ?_; apply Exists.intro; refine ⟨.inl ⟨by rfl, fun W hW => ?_⟩, ?_⟩; (next => (obtain ⟨hs1, hs2⟩ := hW; go_simp; first | done | rfl)); simp only [Act.put, List.setIfInBounds_toArray, List.set_cons_zero, List.set_cons_succ])
    refine T_all [13] (by kernel_rfl) (by decide) ?_
    intro j hj
    simp only [List.mem_cons, or_false, List.not_mem_nil] at hj
    subst hj
    refine T_op rfl (by rfl) ?_
    refine wp_store_fld _ _ _ (by rfl) w.heap.size 1 (by rfl) (.int .i64 (min hi 1099511627776)) (by rfl) _ _ hB6 (by simp) (by kernel_rfl) rfl rfl ?_
    intro w7 hB7 hU7
    refine ⟨.inl rfl, ?_⟩
    simp only [Act.put]
    refine T_done (by kernel_rfl) ?_
    have hB8 : Blk w7 w.heap.size 24 #[.int .i64 (max lo 1), .int .i64 (min hi 1099511627776)] := hB7
    have hR8 : Blk w7 (w.heap.size + 1) 24 #[.int .i64 0, .int .i64 0] := (hR5.upd (by omega) hU6).upd (by omega) hU7
    have hb7 : Below w.heap.size w w7 := below_upd (below_upd hbw5 (Nat.le_refl _) hU6) (Nat.le_refl _) hU7
    clear hB7 hU7 hB6 hU6 hS6 hS hB5 hR5 hbw5 c50 c51
    have d0 : w7.cell? ⟨w.heap.size, 0, none⟩ = some (.int .i64 (max lo 1)) := hB8.cell 0
    have d1 : w7.cell? ⟨w.heap.size, 1, none⟩ = some (.int .i64 (min hi 1099511627776)) := hB8.cell 1
    go_wp2_with fail
    have hbd7 : Below w7.heap.size w7 w7.drew := (Below.refl _ _).drew
    refine wp_region_T (S := fun W => Blk W w.heap.size 24 #[.int .i64 (max lo 1), .int .i64 (min hi 1099511627776)]) 7 (by kernel_rfl) ?_
    generalize w7.drew = w8 at hbd7 ⊢
    have hS := hB8.ext hbd7
    have hR9 := hR8.ext hbd7
    have hb8 := below_ext hb7 hbd7
    clear d0 d1 hbd7 hR8 hb7
    (refine T_take (i := 0) rfl (by kernel_rfl) (fun _ _ _ _ h => h) hS ?_; refine ⟨_, y_load_blk 24 _ rfl (by rfl) w.heap.size (by rfl) 24 #[.int .i64 (max lo 1), .int .i64 (min hi 1099511627776)] _ (fun W h => h) Tryz.underlying24 rfl (by kernel_rfl), ?_⟩; simp only [Act.put, List.setIfInBounds_toArray, List.set_cons_zero, List.set_cons_succ])
    (refine T_take (i := 1) rfl (by kernel_rfl) (fun _ _ _ _ h => h) hS ?_; apply Exists.intro; refine ⟨.inl ⟨by rfl, fun W hW => ?_⟩, ?_⟩; (next => (have hs1 := hW.cell 0; have hs2 := hW.cell 1; simp only [List.getElem?_toArray, List.getElem?_cons_zero, List.getElem?_cons_succ] at hs1 hs2; go_simp; first | done | rfl)); simp only [Act.put, List.setIfInBounds_toArray, List.set_cons_zero, List.set_cons_succ])
    (refine T_take (i := 2) rfl (by kernel_rfl) (fun _ _ _ _ h => h) hS ?_; apply Exists.intro; refine ⟨.inl ⟨by rfl, fun W hW => ?_⟩, ?_⟩; (next => (have hs1 := hW.cell 0; have hs2 := hW.cell 1; simp only [List.getElem?_toArray, List.getElem?_cons_zero, List.getElem?_cons_succ] at hs1 hs2; go_simp; first | done | rfl)); simp only [Act.put, List.setIfInBounds_toArray, List.set_cons_zero, List.set_cons_succ])
    (refine T_take (i := 3) rfl (by kernel_rfl) (fun _ _ _ _ h => h) hS ?_; apply Exists.intro; refine ⟨.inl ⟨by rfl, fun W hW => ?_⟩, ?_⟩; (next => (have hs1 := hW.cell 0; have hs2 := hW.cell 1; simp only [List.getElem?_toArray, List.getElem?_cons_zero, List.getElem?_cons_succ] at hs1 hs2; go_simp; first | done | rfl)); simp only [Act.put, List.setIfInBounds_toArray, List.set_cons_zero, List.set_cons_succ])
    (refine T_take (i := 4) rfl (by kernel_rfl) (fun _ _ _ _ h => h) hS ?_; apply Exists.intro; refine ⟨.inl ⟨by rfl, fun W hW => ?_⟩, ?_⟩; (next => (have hs1 := hW.cell 0; have hs2 := hW.cell 1; simp only [List.getElem?_toArray, List.getElem?_cons_zero, List.getElem?_cons_succ] at hs1 hs2; go_simp; first | done | rfl)); simp only [Act.put, List.setIfInBounds_toArray, List.set_cons_zero, List.set_cons_succ])
    (refine T_take (i := 5) rfl (by kernel_rfl) (fun _ _ _ _ h => h) hS ?_; apply Exists.intro; refine ⟨.inl ⟨by rfl, fun W hW => ?_⟩, ?_⟩; (next => (have hs1 := hW.cell 0; have hs2 := hW.cell 1; simp only [List.getElem?_toArray, List.getElem?_cons_zero, List.getElem?_cons_succ] at hs1 hs2; go_simp; first | done | rfl)); simp only [Act.put, List.setIfInBounds_toArray, List.set_cons_zero, List.set_cons_succ])
    refine T_all [6] (by kernel_rfl) (by decide) ?_
    intro j hj
    simp only [List.mem_cons, or_false, List.not_mem_nil] at hj
    subst hj
    refine T_op rfl (by rfl) ?_
    refine wp_store_mid _ _ _ (by rfl) (w.heap.size + 1) 0 #[.int .i64 (max lo 1), .int .i64 (min hi 1099511627776)] (by rfl) (by rfl) (fun j hj => by rw [hR9.cell, hR9.frozen]; have h2 : j < 2 := hj; exact ⟨by rw [Nat.zero_add, Array.getElem?_eq_getElem (show j < (#[Value.int .i64 0, .int .i64 0] : Array Value).size from h2)]; rfl, rfl⟩) (by kernel_rfl) (two_one _ _) ?_
    have hR10 := Blk.put (t := 24) [Value.int .i64 (max lo 1), Value.int .i64 (min hi 1099511627776)] 0 hR9
    have hU10 := Upd.put (g := w.heap.size + 1) [Value.int .i64 (max lo 1), Value.int .i64 (min hi 1099511627776)] w8 0
    refine ⟨.inr (hS.upd (by omega) hU10), ?_⟩
    simp only [Act.put]
    refine T_all [7] (by kernel_rfl) (by decide) ?_
    intro j hj
    simp only [List.mem_cons, or_false, List.not_mem_nil] at hj
    subst hj
    refine T_op rfl (by rfl) (Rk.wp_calm (v := .bool (decide (max lo 1 ≤ min hi 1099511627776))) (by go_simp; first | done | rfl) ⟨.inl rfl, ?_⟩)
    simp only [Act.put, List.setIfInBounds_toArray, List.set_cons_zero, List.set_cons_succ]
    refine T_done (by kernel_rfl) ?_
    go_wp2_with fail
    refine bodyPost_ret (results_bnd2 rfl _ _ (w.heap.size + 1) _ (.bool (decide (max lo 1 ≤ min hi 1099511627776))) (by rfl) (by rfl) hR10 rfl) rfl ⟨rfl, below_upd hb8 (Nat.le_succ _) hU10⟩

end Cl
end Go.Proofs.YtacpjpkhmdcagaaGreat
namespace Go.Proofs.YtacpjpkhmdcagaaGreat
set_option linter.unusedVariables false
open Go.RowKit
namespace Cl
set_option maxHeartbeats 2000000
set_option maxRecDepth 10000
open Cu (ic)
/-- A price of an auction. -/
structure Pr where
  (price volume odds : Int)
def Pr.cells (p : Pr) : List Value := [.int .i64 p.price, .int .i64 p.volume, .int .i64 p.odds]
def Pr.arr (p : Pr) : Array Value := p.cells.toArray
@[go_sem, simp] theorem Pr.arr_size (p : Pr) : p.arr.size = 3 := rfl
@[go_sem] theorem Pr.arr_0 (p : Pr) : p.arr[0]? = some (.int .i64 p.price) := rfl
@[go_sem] theorem Pr.arr_1 (p : Pr) : p.arr[1]? = some (.int .i64 p.volume) := rfl
@[go_sem] theorem Pr.arr_2 (p : Pr) : p.arr[2]? = some (.int .i64 p.odds) := rfl
theorem pr_one (p : Pr) : p.arr.all (·.oneCell') = true := by simp [Pr.arr, Pr.cells, Value.oneCell']
theorem built_c (x y z : Int) : Tryz.prog.built 32 [(0, .int .i64 x), (1, .int .i64 y), (2, .int .i64 z)] = some (Pr.mk x y z).arr := by kernel_rfl
/-! ### plain -/
def cmpI (x y : Int) : Int := if x < y then -1 else if y < x then 1 else 0
def orI : List Int → Int
  | [] => 0
  | x :: l => if x = 0 then orI l else x
def farW (a b : Int) : Int := wrap64 (max a b - min a b)
def ordI (a b : Pr) (r : Int) : Int := orI [cmpI b.volume a.volume, cmpI a.odds b.odds, cmpI (farW a.price r) (farW b.price r), cmpI a.price b.price]
def lessI (a b : Pr) (r : Int) : Bool := decide (ordI a b r < 0)
theorem less_eq (a b : Pr) (r : Int) : lessI a b r = if a.volume ≠ b.volume then decide (b.volume < a.volume) else if a.odds ≠ b.odds then decide (a.odds < b.odds) else if farW a.price r ≠ farW b.price r then decide (farW a.price r < farW b.price r) else decide (a.price < b.price) := by
  unfold lessI ordI
  generalize farW a.price r = f
  generalize farW b.price r = g
  by_cases h1 : a.volume = b.volume
  · by_cases h2 : a.odds = b.odds
    · by_cases h3 : f = g
      · simp only [h1, h2, h3, orI, cmpI]
        split <;> simp_all <;> (try omega) <;> (split <;> simp_all <;> omega)
      · simp only [h1, h2, orI, cmpI]
        rcases Int.lt_or_gt_of_ne h3 with h | h
        · simp [h, h3]
        · have : ¬ f < g := by omega
          simp [h, h3, this]
    · simp only [h1, orI, cmpI]
      rcases Int.lt_or_gt_of_ne h2 with h | h
      · simp [h, h2]
      · have : ¬ a.odds < b.odds := by omega
        simp [h, h2, this]
  · simp only [orI, cmpI]
    rcases Int.lt_or_gt_of_ne h1 with h | h
    · have : ¬ b.volume < a.volume := by omega
      simp [h, h1, this]
    · simp [h, h1]
/-! ### the code's -/
theorem nan_any (x : Int) (w : World) : Calls Tryz.prog 88 #[.int .i64 x] w fun e w' => e = .returned (.bool false) ∧ w = w' := by
  go_enter Tryz.func88, Tryz.ntmps88
  go_wp2_with fail
  go_ret
  exact ⟨by simp, rfl⟩
theorem cmp_any (x y : Int) (w : World) : Calls Tryz.prog 66 #[.int .i64 x, .int .i64 y] w fun e w' => e = .returned (.int .i64 (cmpI x y)) ∧ w = w' := by
  have HN := Lib.hid (fun x W => nan_any x W)
  rcases Int.lt_trichotomy x y with h | h | h
  · have e1 : cmpI x y = -1 := by simp [cmpI, h]
    rw [e1]
    go_enter Tryz.func66, Tryz.ntmps66
    go_wp2_with (first | (go_at_call 88; refine (HN.out _ _).mono ?_; rintro e w1 ⟨rfl, rfl⟩) | fail)
    all_goals (go_ret; exact ⟨rfl, rfl⟩)
  · have e1 : cmpI x y = 0 := by unfold cmpI; rw [if_neg (by omega), if_neg (by omega)]
    rw [e1]
    have h1 : ¬ x < y := by omega
    have h2 : ¬ y < x := by omega
    clear h
    go_enter Tryz.func66, Tryz.ntmps66
    go_wp2_with (first | (go_at_call 88; refine (HN.out _ _).mono ?_; rintro e w1 ⟨rfl, rfl⟩) | fail)
    all_goals (go_ret; exact ⟨rfl, rfl⟩)
  · have e1 : cmpI x y = 1 := by unfold cmpI; rw [if_neg (by omega), if_pos h]
    rw [e1]
    have h1 : ¬ x < y := by omega
    go_enter Tryz.func66, Tryz.ntmps66
    go_wp2_with (first | (go_at_call 88; refine (HN.out _ _).mono ?_; rintro e w1 ⟨rfl, rfl⟩) | fail)
    all_goals (go_ret; exact ⟨rfl, rfl⟩)
theorem or_any {w : World} {l : List Int} {A : Option Addr} {cap : Nat} (hr : Rd w 1 A (l.map ic)) (hl : l.length ≤ 1000) : Calls Tryz.prog 65 #[.slice A l.length cap] w fun e w' => e = .returned (.int .i64 (orI l)) ∧ w = w' := by
  go_enter Tryz.func65, Tryz.ntmps65
  go_wp2_with fail
  go_loopw [8] (fun p wr => ∃ k : Nat, p = .int .i64 k ∧ k ≤ l.length ∧ orI l = orI (l.drop k) ∧ wr = w) (fun p wr => l.length - (intOf p).toNat)
  case atStart => exact ⟨0, rfl, Nat.zero_le _, rfl, by first | rfl | trivial⟩
  case round =>
    obtain ⟨k, rfl, hk, ho, rfl⟩ := hrel
    have HO := Lib.hid ho
    clear ho
    by_cases hlt : k < l.length
    · have e1 : (k : Int) < (l.length : Int) := by omega
      obtain ⟨b1, o1, rfl, hc1⟩ := hr.at hlt
      have hi1 : wr.cell? ⟨b1, o1 + k * 1, none⟩ = some (.int .i64 l[k]) := hc1 0 _ rfl
      rw [Nat.mul_one] at hi1
      have hd : l.drop k = l[k] :: l.drop (k + 1) := by simp
      have HD : Hid (orI (l.drop k) = if l[k] = 0 then orI (l.drop (k + 1)) else l[k]) := Lib.hid (by rw [hd]; rfl)
      obtain ⟨z, hz⟩ : ∃ z, z = l[k] := ⟨_, rfl⟩
      rw [← hz] at hi1 HD
      clear hz hd hc1
      by_cases h0 : z = 0
      · subst h0
        have HD2 : Hid (orI l = orI (l.drop (k + 1))) := Lib.hid (by rw [HO.out, HD.out]; rfl)
        go_wp2_with fail
        go_roundw
        case rel => exact ⟨k + 1, by go_num, by omega, HD2.out, by first | rfl | trivial⟩
        case measure => simp [intOf]; omega
      · have HD2 : Hid (orI l = z) := Lib.hid (by rw [HO.out, HD.out, if_neg h0])
        have e0 : (z != 0) = true := by simpa using h0
        go_wp2_with fail
        go_ret
        exact ⟨by rw [HD2.out]; rfl, rfl⟩
    · have hkl : k = l.length := by omega
      have HD2 : Hid (orI l = 0) := Lib.hid (by rw [HO.out, hkl, List.drop_length]; rfl)
      have e1 : ¬ (k : Int) < (l.length : Int) := by omega
      go_wp2_with fail
      go_ret
      exact ⟨by rw [HD2.out]; rfl, rfl⟩
theorem far_any (a b : Int) (w : World) : Calls Tryz.prog 67 #[.int .i64 a, .int .i64 b] w fun e w' => e = .returned (.int .i64 (farW a b)) ∧ w = w' := by
  by_cases h : a < b
  · have e1 : farW a b = wrap64 (b - a) := by unfold farW; rw [show max a b = b by omega, show min a b = a by omega]
    rw [e1]
    go_enter Tryz.func67, Tryz.ntmps67
    go_wp2_with fail
    go_ret
    exact ⟨rfl, rfl⟩
  · have e1 : farW a b = wrap64 (a - b) := by unfold farW; rw [show max a b = a by omega, show min a b = b by omega]
    rw [e1]
    go_enter Tryz.func67, Tryz.ntmps67
    go_wp2_with fail
    go_ret
    exact ⟨rfl, rfl⟩
theorem rfar_any (a b : Int) (w : World) : Calls Tryz.prog 39 #[.int .i64 a, .int .i64 b] w fun e w' => e = .returned (.int .i64 (farW a b)) ∧ w = w' := by
  go_enter Tryz.func39, Tryz.ntmps39
  go_wp2_with fail
  go_ret
  exact ⟨rfl, rfl⟩
theorem own_any (x : Pr) (w : World) : Calls Tryz.prog 12 #[.agg x.arr] w fun e w' => e = .returned (.agg x.arr) ∧ Below w.heap.size w w' := by
  have hX : Blk (w.alloc (.cells x.arr 35)) w.heap.size 35 x.arr := Blk.new _ _ _ _ rfl
  have hR : Blk ((w.alloc (.cells x.arr 35)).alloc (.cells #[.int .i64 0, .int .i64 0, .int .i64 0] 32)) (w.heap.size + 1) 32 #[.int .i64 0, .int .i64 0, .int .i64 0] := Blk.new _ _ _ _ (sz_alloc _ _)
  have hb0 : Below w.heap.size w ((w.alloc (.cells x.arr 35)).alloc (.cells #[.int .i64 0, .int .i64 0, .int .i64 0] 32)) := by (repeat (first | with_reducible exact Below.refl _ _ | (with_reducible assumption) | (with_reducible refine below_alloc ?_ _) | (with_reducible refine below_ext (w1 := ?_) ?_ ?_; rotate_left 2; (with_reducible assumption)) | (with_reducible refine Below.setCell ?_ ?_ _; rotate_left; ((try simp) <;> omega)) | (with_reducible refine Below.drew ?_) | (with_reducible refine below_drewN ?_ _) | fail))
  go_enter Tryz.func12, Tryz.ntmps12
  go_wp2_with (first | ((with_reducible show wpList _ _ _ (⟨_, .build _ _, _, _, _, _⟩ :: _) _ _); refine wpList_build_is (by rfl) _ _ (by rfl) ?_ ?_ ?_; rotate_left; (next => simp only [List.map_toArray, List.map_cons, List.map_nil, go_sem]; exact built_c ..)) | ((with_reducible show wpList _ _ _ (⟨_, .store 32 _ _, _, _, _, _⟩ :: _) _ _); refine wpList_store_blk (by rfl) 32 _ _ (by rfl) _ _ (by rfl) (by rfl) _ _ hR (by kernel_rfl) (by rfl) ?_ ?_; (next => exact pr_one ..); intro w3 hR3 hU3) | fail)
  refine bodyPost_ret (results_cell_row rfl _ _ _ _ _ _ _ (by rfl) hR3 Tryz.underlying32 rfl (by kernel_rfl)) rfl ⟨rfl, below_upd hb0 (Nat.le_succ _) hU3⟩
theorem priced_any {w : World} {l : List Int} {A : Option Addr} {cap : Nat} (hr : Rd w 1 A (l.map ic)) (hl : l.length ≤ 1000) : Calls Tryz.prog 7 #[.slice A l.length cap] w fun e w' => e = .returned (.bool (decide (∀ x ∈ l, 0 ≤ x ∧ x ≤ 1099511627776))) ∧ w = w' := by
  go_enter Tryz.func7, Tryz.ntmps7
  go_wp2_with fail
  go_loopw [3] (fun p wr => ∃ k : Nat, p = .int .i64 k ∧ k ≤ l.length ∧ Hid (∀ x ∈ l.take k, 0 ≤ x ∧ x ≤ 1099511627776) ∧ wr = w) (fun p wr => l.length - (intOf p).toNat)
  case atStart => exact ⟨0, rfl, Nat.zero_le _, Lib.hid (fun x hx => by simp at hx), by first | rfl | trivial⟩
  case round =>
    obtain ⟨k, rfl, hk, HO, rfl⟩ := hrel
    by_cases hlt : k < l.length
    · have e1 : (k : Int) < (l.length : Int) := by omega
      obtain ⟨b1, o1, rfl, hc1⟩ := hr.at hlt
      have hi1 : wr.cell? ⟨b1, o1 + k * 1, none⟩ = some (.int .i64 l[k]) := hc1 0 _ rfl
      rw [Nat.mul_one] at hi1
      have HM : Hid (l[k] ∈ l) := Lib.hid (List.getElem_mem hlt)
      have HT : Hid (l.take (k + 1) = l.take k ++ [l[k]]) := Lib.hid (List.take_succ_eq_append_getElem hlt)
      generalize l[k] = z at *
      clear hc1
      by_cases h0 : z < 0
      · have HF : Hid (decide (∀ x ∈ l, 0 ≤ x ∧ x ≤ 1099511627776) = false) := Lib.hid (decide_eq_false (fun h => by have := h z HM.out; omega))
        go_wp2_with fail
        go_ret
        exact ⟨by rw [HF.out]; rfl, rfl⟩
      · by_cases h1 : 1099511627776 < z
        · have HF : Hid (decide (∀ x ∈ l, 0 ≤ x ∧ x ≤ 1099511627776) = false) := Lib.hid (decide_eq_false (fun h => by have := h z HM.out; omega))
          go_wp2_with fail
          go_ret
          exact ⟨by rw [HF.out]; rfl, rfl⟩
        · have HO2 : Hid (∀ x ∈ l.take (k + 1), 0 ≤ x ∧ x ≤ 1099511627776) := Lib.hid (fun x hx => by
            rw [HT.out] at hx
            rcases List.mem_append.1 hx with hx | hx
            · exact HO.out x hx
            · rw [List.mem_singleton.1 hx]; omega)
          go_wp2_with fail
          go_roundw
          case rel => exact ⟨k + 1, by go_num, by omega, HO2, by first | rfl | trivial⟩
          case measure => simp [intOf]; omega
    · have HF : Hid (decide (∀ x ∈ l, 0 ≤ x ∧ x ≤ 1099511627776) = true) := Lib.hid (decide_eq_true (fun x hx => HO.out x (by rw [List.take_of_length_le (by omega)]; exact hx)))
      have e1 : ¬ (k : Int) < (l.length : Int) := by omega
      go_wp2_with fail
      go_ret
      exact ⟨by rw [HF.out]; rfl, rfl⟩
theorem order_any (a b : Pr) (r : Int) (w : World) : Calls Tryz.prog 34 #[.agg a.arr, .agg b.arr, .int .i64 r] w fun e w' => e = .returned (.int .i64 (ordI a b r)) ∧ Below w.heap.size w w' := by
  have hA : Blk ((w.alloc (.cells a.arr 32)).alloc (.cells b.arr 32)) w.heap.size 32 a.arr := (Blk.new w _ _ _ rfl).alloc _
  have hB : Blk ((w.alloc (.cells a.arr 32)).alloc (.cells b.arr 32)) (w.heap.size + 1) 32 b.arr := Blk.new _ _ _ _ (sz_alloc _ _)
  have hb0 : Below w.heap.size w ((w.alloc (.cells a.arr 32)).alloc (.cells b.arr 32)) := by (repeat (first | with_reducible exact Below.refl _ _ | (with_reducible assumption) | (with_reducible refine below_alloc ?_ _) | (with_reducible refine below_ext (w1 := ?_) ?_ ?_; rotate_left 2; (with_reducible assumption)) | (with_reducible refine Below.setCell ?_ ?_ _; rotate_left; ((try simp) <;> omega)) | (with_reducible refine Below.drew ?_) | (with_reducible refine below_drewN ?_ _) | fail))
  have HC := Lib.hid (fun x y W => cmp_any x y W)
  have HF := Lib.hid (fun x y W => far_any x y W)
  generalize hw1 : (w.alloc (.cells a.arr 32)).alloc (.cells b.arr 32) = w1 at *
  have HW1 := Lib.hid hw1
  have a0 : w1.cell? ⟨w.heap.size, 0, none⟩ = some (.int .i64 a.price) := hA.cell 0
  have a1 : w1.cell? ⟨w.heap.size, 1, none⟩ = some (.int .i64 a.volume) := hA.cell 1
  have a2 : w1.cell? ⟨w.heap.size, 2, none⟩ = some (.int .i64 a.odds) := hA.cell 2
  have b0 : w1.cell? ⟨w.heap.size + 1, 0, none⟩ = some (.int .i64 b.price) := hB.cell 0
  have b1 : w1.cell? ⟨w.heap.size + 1, 1, none⟩ = some (.int .i64 b.volume) := hB.cell 1
  have b2 : w1.cell? ⟨w.heap.size + 1, 2, none⟩ = some (.int .i64 b.odds) := hB.cell 2
  have lA := hA.lt
  have lB := hB.lt
  clear hw1 hA hB
  go_enter Tryz.func34, Tryz.ntmps34
  go_upto_region 1 with fail
  rw [HW1.out]
  refine wp_region_below_tail 24 (by kernel_rfl) (by kernel_rfl) ?_
  simp only [List.take_succ_cons, List.take_zero, List.drop_succ_cons, List.drop_zero]
  repeat (first | go_big_quiet_skip | (go_big_quiet_want; go_big_quiet_op; go_big_quiet_on) | (refine q_load_fld (by rfl) _ _ (by rfl) (fun _ h => h) _ _ (by rfl) ?_ ?_ ?_ ?_ ?_ ?_; rotate_left; (next => (repeat (first | (with_reducible refine BlkAt.new _ _ _ _ ?_; ((try simp) <;> omega)) | (with_reducible assumption) | (with_reducible refine Blk.at (t := ?_) ?_; rotate_left; with_reducible assumption) | with_reducible refine BlkAt.alloc ?_ _ | with_reducible refine BlkAt.drew ?_ | (with_reducible refine BlkAt.setSame ?_ _ _) | (with_reducible refine BlkAt.setCell ?_ ?_ _; rotate_left; ((try simp) <;> omega)) | (with_reducible refine BlkAt.ext (w := ?_) ?_ ?_; rotate_left 2; (with_reducible assumption)) | fail))); rotate_left; (next => first | (simp only [go_sem]; rfl) | rfl); (next => kernel_rfl); (try simp only [Act.put, List.setIfInBounds_toArray, List.set_cons_zero, List.set_cons_succ])) | (refine q_rem (by rfl) _ _ _ _ (by rfl) _ _ (by rfl) (by rfl) (by kernel_rfl) (by kernel_rfl) ?_ ?_; (next => omega); (try simp only [Act.put, List.setIfInBounds_toArray, List.set_cons_zero, List.set_cons_succ])) | (refine q_step_ex (by rfl) ?_; apply Exists.intro; refine ⟨fun W hW => ?_, ?_⟩; (next => (have hWc := fun (b o : Nat) (h : b < _) => (Ext.out hW).cell (p := ⟨b, o, none⟩) h); (try have hLK := HLK.out W (Ext.out hW)); go_simp; first | rfl | (go_at_call 66; refine (HC.out _ _ _).mono ?_; rintro e w'' ⟨rfl, rfl⟩; exact ⟨rfl, hW⟩) | (go_at_call 67; refine (HF.out _ _ _).mono ?_; rintro e w'' ⟨rfl, rfl⟩; exact ⟨rfl, hW⟩) | fail); (try simp only [Act.put, List.setIfInBounds_toArray, List.set_cons_zero, List.set_cons_succ])) | fail)
  refine wpQuiet_nil ?_
  intro w2 hb2
  go_wp2_with fail
  refine (or_any (l := [cmpI b.volume a.volume, cmpI a.odds b.odds, cmpI (farW a.price r) (farW b.price r), cmpI a.price b.price]) (rd_own (Blk.new _ _ _ _ rfl) (by simp [ic]) (n := 4) (by simp [ic])) (by simp)).mono ?_
  rintro e w3 ⟨rfl, rfl⟩
  go_wp2_with fail
  go_ret
  exact ⟨rfl, below_ext hb0 (below_ext hb2 (by (repeat (first | with_reducible exact Below.refl _ _ | (with_reducible assumption) | (with_reducible refine below_alloc ?_ _) | (with_reducible refine below_ext (w1 := ?_) ?_ ?_; rotate_left 2; (with_reducible assumption)) | (with_reducible refine Below.setCell ?_ ?_ _; rotate_left; ((try simp) <;> omega)) | (with_reducible refine Below.drew ?_) | (with_reducible refine below_drewN ?_ _) | fail))))⟩
theorem less_any (a b : Pr) (r : Int) (w : World) : Calls Tryz.prog 15 #[.agg a.arr, .agg b.arr, .int .i64 r] w fun e w' => e = .returned (.bool (lessI a b r)) ∧ Below w.heap.size w w' := by
  have hA : Blk ((w.alloc (.cells a.arr 32)).alloc (.cells b.arr 32)) w.heap.size 32 a.arr := (Blk.new w _ _ _ rfl).alloc _
  have hB : Blk ((w.alloc (.cells a.arr 32)).alloc (.cells b.arr 32)) (w.heap.size + 1) 32 b.arr := Blk.new _ _ _ _ (sz_alloc _ _)
  have hb0 : Below w.heap.size w ((w.alloc (.cells a.arr 32)).alloc (.cells b.arr 32)) := by (repeat (first | with_reducible exact Below.refl _ _ | (with_reducible assumption) | (with_reducible refine below_alloc ?_ _) | (with_reducible refine below_ext (w1 := ?_) ?_ ?_; rotate_left 2; (with_reducible assumption)) | (with_reducible refine Below.setCell ?_ ?_ _; rotate_left; ((try simp) <;> omega)) | (with_reducible refine Below.drew ?_) | (with_reducible refine below_drewN ?_ _) | fail))
  have HO := Lib.hid (fun W => order_any a b r W)
  obtain ⟨z, hz⟩ : ∃ z, z = ordI a b r := ⟨_, rfl⟩
  rw [← hz] at HO
  have HZ : Hid (lessI a b r = decide (z < 0)) := Lib.hid (by rw [hz]; rfl)
  clear hz
  go_enter Tryz.func15, Tryz.ntmps15
  go_wp2_with (first | ((with_reducible show wpList _ _ _ (⟨_, .load 32 _, _, _, _, _⟩ :: _) _ _); refine wpList_load_ho 32 _ (by rfl) (by rfl) ?_ (.pointer (some ⟨_, 0, none⟩)) (by rfl) ?_ _ Tryz.underlying32 rfl ?_ ?_; rotate_left; (next => (repeat (first | (with_reducible refine BlkAt.new _ _ _ _ ?_; ((try simp) <;> omega)) | (with_reducible assumption) | (with_reducible refine Blk.at (t := ?_) ?_; rotate_left; with_reducible assumption) | with_reducible refine BlkAt.alloc ?_ _ | with_reducible refine BlkAt.drew ?_ | (with_reducible refine BlkAt.setSame ?_ _ _) | (with_reducible refine BlkAt.setCell ?_ ?_ _; rotate_left; ((try simp) <;> omega)) | (with_reducible refine BlkAt.ext (w := ?_) ?_ ?_; rotate_left 2; (with_reducible assumption)) | fail))); (next => kernel_rfl)) | fail)
  refine (HO.out _).mono ?_
  rintro e w3 ⟨rfl, hb3⟩
  go_wp2_with fail
  all_goals go_ret
  all_goals exact ⟨by rw [HZ.out]; first | rfl | simp_all | (simp; omega), below_ext hb0 hb3⟩
theorem chf_any {w : World} {bx : Nat} {r : Int} (hx : Blk w bx 2 #[.int .i64 r]) (a b : Pr) : Calls Tryz.prog 33 #[.agg a.arr, .agg b.arr, .pointer (some ⟨bx, 0, none⟩)] w fun e w' => e = .returned (.int .i64 (ordI a b r)) ∧ Below w.heap.size w w' := by
  have hA : Blk ((w.alloc (.cells a.arr 32)).alloc (.cells b.arr 32)) w.heap.size 32 a.arr := (Blk.new w _ _ _ rfl).alloc _
  have hB : Blk ((w.alloc (.cells a.arr 32)).alloc (.cells b.arr 32)) (w.heap.size + 1) 32 b.arr := Blk.new _ _ _ _ (sz_alloc _ _)
  have hb0 : Below w.heap.size w ((w.alloc (.cells a.arr 32)).alloc (.cells b.arr 32)) := by (repeat (first | with_reducible exact Below.refl _ _ | (with_reducible assumption) | (with_reducible refine below_alloc ?_ _) | (with_reducible refine below_ext (w1 := ?_) ?_ ?_; rotate_left 2; (with_reducible assumption)) | (with_reducible refine Below.setCell ?_ ?_ _; rotate_left; ((try simp) <;> omega)) | (with_reducible refine Below.drew ?_) | (with_reducible refine below_drewN ?_ _) | fail))
  have cx : ((w.alloc (.cells a.arr 32)).alloc (.cells b.arr 32)).cell? ⟨bx, 0, none⟩ = some (.int .i64 r) := (hx.ext hb0).cell 0
  have HO := Lib.hid (fun W => order_any a b r W)
  obtain ⟨z, hz⟩ : ∃ z, z = ordI a b r := ⟨_, rfl⟩
  rw [← hz] at HO ⊢
  clear hz hx
  go_enter Tryz.func33, Tryz.ntmps33
  go_wp2_with (first | ((with_reducible show wpList _ _ _ (⟨_, .load 32 _, _, _, _, _⟩ :: _) _ _); refine wpList_load_ho 32 _ (by rfl) (by rfl) ?_ (.pointer (some ⟨_, 0, none⟩)) (by rfl) ?_ _ Tryz.underlying32 rfl ?_ ?_; rotate_left; (next => (repeat (first | (with_reducible refine BlkAt.new _ _ _ _ ?_; ((try simp) <;> omega)) | (with_reducible assumption) | (with_reducible refine Blk.at (t := ?_) ?_; rotate_left; with_reducible assumption) | with_reducible refine BlkAt.alloc ?_ _ | with_reducible refine BlkAt.drew ?_ | (with_reducible refine BlkAt.setSame ?_ _ _) | (with_reducible refine BlkAt.setCell ?_ ?_ _; rotate_left; ((try simp) <;> omega)) | (with_reducible refine BlkAt.ext (w := ?_) ?_ ?_; rotate_left 2; (with_reducible assumption)) | fail))); (next => kernel_rfl)) | fail)
  refine (HO.out _).mono ?_
  rintro e w3 ⟨rfl, hb3⟩
  go_wp2_with fail
  go_ret
  exact ⟨rfl, below_ext hb0 hb3⟩
theorem rless_any (a b : Pr) (r : Int) (w : World) : Calls Tryz.prog 16 #[.agg a.arr, .agg b.arr, .int .i64 r] w fun e w' => e = .returned (.bool (lessI a b r)) ∧ Below w.heap.size w w' := by
  have hA : Blk ((w.alloc (.cells a.arr 35)).alloc (.cells b.arr 35)) w.heap.size 35 a.arr := (Blk.new w _ _ _ rfl).alloc _
  have hB : Blk ((w.alloc (.cells a.arr 35)).alloc (.cells b.arr 35)) (w.heap.size + 1) 35 b.arr := Blk.new _ _ _ _ (sz_alloc _ _)
  have hb0 : Below w.heap.size w ((w.alloc (.cells a.arr 35)).alloc (.cells b.arr 35)) := by (repeat (first | with_reducible exact Below.refl _ _ | (with_reducible assumption) | (with_reducible refine below_alloc ?_ _) | (with_reducible refine below_ext (w1 := ?_) ?_ ?_; rotate_left 2; (with_reducible assumption)) | (with_reducible refine Below.setCell ?_ ?_ _; rotate_left; ((try simp) <;> omega)) | (with_reducible refine Below.drew ?_) | (with_reducible refine below_drewN ?_ _) | fail))
  have HF := Lib.hid (fun x y W => rfar_any x y W)
  have HL := Lib.hid (less_eq a b r)
  generalize lessI a b r = res at HL ⊢
  generalize hw1 : (w.alloc (.cells a.arr 35)).alloc (.cells b.arr 35) = w1 at *
  have HW1 := Lib.hid hw1
  have a0 : w1.cell? ⟨w.heap.size, 0, none⟩ = some (.int .i64 a.price) := hA.cell 0
  have a1 : w1.cell? ⟨w.heap.size, 1, none⟩ = some (.int .i64 a.volume) := hA.cell 1
  have a2 : w1.cell? ⟨w.heap.size, 2, none⟩ = some (.int .i64 a.odds) := hA.cell 2
  have b0 : w1.cell? ⟨w.heap.size + 1, 0, none⟩ = some (.int .i64 b.price) := hB.cell 0
  have b1 : w1.cell? ⟨w.heap.size + 1, 1, none⟩ = some (.int .i64 b.volume) := hB.cell 1
  have b2 : w1.cell? ⟨w.heap.size + 1, 2, none⟩ = some (.int .i64 b.odds) := hB.cell 2
  have lA := hA.lt
  have lB := hB.lt
  clear hw1 hA hB
  go_enter Tryz.func16, Tryz.ntmps16
  go_upto_region 1 with fail
  rw [HW1.out]
  by_cases h1 : a.volume = b.volume
  case neg =>
    have e1 : (a.volume != b.volume) = true := by simpa using h1
    have HR : Hid (res = decide (b.volume < a.volume)) := Lib.hid (by rw [HL.out, if_pos h1])
    go_wp2_with fail
    all_goals go_ret
    all_goals exact ⟨by rw [HR.out]; first | rfl | simp_all | (simp; omega), hb0⟩
  have e1 : (a.volume != b.volume) = false := by simpa using h1
  by_cases h2 : a.odds = b.odds
  case neg =>
    have e2 : (a.odds != b.odds) = true := by simpa using h2
    have HR : Hid (res = decide (a.odds < b.odds)) := Lib.hid (by rw [HL.out, if_neg (by simp [h1]), if_pos h2])
    clear h1
    go_wp2_with fail
    all_goals go_ret
    all_goals exact ⟨by rw [HR.out]; first | rfl | simp_all | (simp; omega), hb0⟩
  have e2 : (a.odds != b.odds) = false := by simpa using h2
  obtain ⟨f, hf⟩ : ∃ f, f = farW a.price r := ⟨_, rfl⟩
  obtain ⟨g, hg⟩ : ∃ g, g = farW b.price r := ⟨_, rfl⟩
  have HFA : Hid (∀ W, Calls Tryz.prog 39 #[.int .i64 a.price, .int .i64 r] W fun e w' => e = .returned (.int .i64 f) ∧ W = w') := Lib.hid (fun W => by rw [hf]; exact rfar_any _ _ W)
  have HFB : Hid (∀ W, Calls Tryz.prog 39 #[.int .i64 b.price, .int .i64 r] W fun e w' => e = .returned (.int .i64 g) ∧ W = w') := Lib.hid (fun W => by rw [hg]; exact rfar_any _ _ W)
  have HR0 : Hid (res = if f ≠ g then decide (f < g) else decide (a.price < b.price)) := Lib.hid (by rw [HL.out, if_neg (by simp [h1]), if_neg (by simp [h2]), hf, hg])
  clear h1 h2 hf hg HF HL
  go_wp2_with fail
  by_cases h3 : f = g
  · have e3 : (f != g) = false := by simpa using h3
    have HR : Hid (res = decide (a.price < b.price)) := Lib.hid (by rw [HR0.out, if_neg (by simp [h3])])
    clear h3
    refine wp_region_below_lit (by kernel_rfl) (by kernel_rfl) ?_
    repeat (first | go_big_quiet_skip | (go_big_quiet_want; go_big_quiet_op; go_big_quiet_on) | (refine q_load_fld (by rfl) _ _ (by rfl) (fun _ h => h) _ _ (by rfl) ?_ ?_ ?_ ?_ ?_ ?_; rotate_left; (next => (repeat (first | (with_reducible refine BlkAt.new _ _ _ _ ?_; ((try simp) <;> omega)) | (with_reducible assumption) | (with_reducible refine Blk.at (t := ?_) ?_; rotate_left; with_reducible assumption) | with_reducible refine BlkAt.alloc ?_ _ | with_reducible refine BlkAt.drew ?_ | (with_reducible refine BlkAt.setSame ?_ _ _) | (with_reducible refine BlkAt.setCell ?_ ?_ _; rotate_left; ((try simp) <;> omega)) | (with_reducible refine BlkAt.ext (w := ?_) ?_ ?_; rotate_left 2; (with_reducible assumption)) | fail))); rotate_left; (next => first | (simp only [go_sem]; rfl) | rfl); (next => kernel_rfl); (try simp only [Act.put, List.setIfInBounds_toArray, List.set_cons_zero, List.set_cons_succ])) | (refine q_rem (by rfl) _ _ _ _ (by rfl) _ _ (by rfl) (by rfl) (by kernel_rfl) (by kernel_rfl) ?_ ?_; (next => omega); (try simp only [Act.put, List.setIfInBounds_toArray, List.set_cons_zero, List.set_cons_succ])) | (refine q_step_ex (by rfl) ?_; apply Exists.intro; refine ⟨fun W hW => ?_, ?_⟩; (next => (have hWc := fun (b o : Nat) (h : b < _) => (Ext.out hW).cell (p := ⟨b, o, none⟩) h); (try have hLK := HLK.out W (Ext.out hW)); go_simp; first | rfl | (go_at_call 39; (with_reducible refine (HFA.out _).mono ?_); rintro e w'' ⟨rfl, rfl⟩; exact ⟨rfl, hW⟩) | (go_at_call 39; (with_reducible refine (HFB.out _).mono ?_); rintro e w'' ⟨rfl, rfl⟩; exact ⟨rfl, hW⟩) | fail); (try simp only [Act.put, List.setIfInBounds_toArray, List.set_cons_zero, List.set_cons_succ])) | fail)
    refine wpQuiet_nil ?_
    intro w2 hb2
    have c0 : w2.cell? ⟨w.heap.size, 0, none⟩ = some (.int .i64 a.price) := (hb2.cell (p := ⟨w.heap.size, 0, none⟩) lA).trans a0
    have d0 : w2.cell? ⟨w.heap.size + 1, 0, none⟩ = some (.int .i64 b.price) := (hb2.cell (p := ⟨w.heap.size + 1, 0, none⟩) lB).trans b0
    go_wp2_with fail
    all_goals go_ret
    all_goals exact ⟨by rw [HR.out]; first | rfl | simp_all | (simp; omega), below_ext hb0 hb2⟩
  · have e3 : (f != g) = true := by simpa using h3
    have HR : Hid (res = decide (f < g)) := Lib.hid (by rw [HR0.out, if_pos h3])
    refine wp_region_below_lit (by kernel_rfl) (by kernel_rfl) ?_
    repeat (first | go_big_quiet_skip | (go_big_quiet_want; go_big_quiet_op; go_big_quiet_on) | (refine q_load_fld (by rfl) _ _ (by rfl) (fun _ h => h) _ _ (by rfl) ?_ ?_ ?_ ?_ ?_ ?_; rotate_left; (next => (repeat (first | (with_reducible refine BlkAt.new _ _ _ _ ?_; ((try simp) <;> omega)) | (with_reducible assumption) | (with_reducible refine Blk.at (t := ?_) ?_; rotate_left; with_reducible assumption) | with_reducible refine BlkAt.alloc ?_ _ | with_reducible refine BlkAt.drew ?_ | (with_reducible refine BlkAt.setSame ?_ _ _) | (with_reducible refine BlkAt.setCell ?_ ?_ _; rotate_left; ((try simp) <;> omega)) | (with_reducible refine BlkAt.ext (w := ?_) ?_ ?_; rotate_left 2; (with_reducible assumption)) | fail))); rotate_left; (next => first | (simp only [go_sem]; rfl) | rfl); (next => kernel_rfl); (try simp only [Act.put, List.setIfInBounds_toArray, List.set_cons_zero, List.set_cons_succ])) | (refine q_rem (by rfl) _ _ _ _ (by rfl) _ _ (by rfl) (by rfl) (by kernel_rfl) (by kernel_rfl) ?_ ?_; (next => omega); (try simp only [Act.put, List.setIfInBounds_toArray, List.set_cons_zero, List.set_cons_succ])) | (refine q_step_ex (by rfl) ?_; apply Exists.intro; refine ⟨fun W hW => ?_, ?_⟩; (next => (have hWc := fun (b o : Nat) (h : b < _) => (Ext.out hW).cell (p := ⟨b, o, none⟩) h); (try have hLK := HLK.out W (Ext.out hW)); go_simp; first | rfl | (go_at_call 39; (with_reducible refine (HFA.out _).mono ?_); rintro e w'' ⟨rfl, rfl⟩; exact ⟨rfl, hW⟩) | (go_at_call 39; (with_reducible refine (HFB.out _).mono ?_); rintro e w'' ⟨rfl, rfl⟩; exact ⟨rfl, hW⟩) | fail); (try simp only [Act.put, List.setIfInBounds_toArray, List.set_cons_zero, List.set_cons_succ])) | fail)
    refine wpQuiet_nil ?_
    intro w2 hb2
    have c0 : w2.cell? ⟨w.heap.size, 0, none⟩ = some (.int .i64 a.price) := (hb2.cell (p := ⟨w.heap.size, 0, none⟩) lA).trans a0
    have d0 : w2.cell? ⟨w.heap.size + 1, 0, none⟩ = some (.int .i64 b.price) := (hb2.cell (p := ⟨w.heap.size + 1, 0, none⟩) lB).trans b0
    have lA2 : w.heap.size < w2.heap.size := by have := hb2.size; omega
    have lB2 : w.heap.size + 1 < w2.heap.size := by have := hb2.size; omega
    clear a0 a1 a2 b0 b1 b2
    go_wp2_with fail
    refine wp_region_below_lit (by kernel_rfl) (by kernel_rfl) ?_
    repeat (first | go_big_quiet_skip | (go_big_quiet_want; go_big_quiet_op; go_big_quiet_on) | (refine q_load_fld (by rfl) _ _ (by rfl) (fun _ h => h) _ _ (by rfl) ?_ ?_ ?_ ?_ ?_ ?_; rotate_left; (next => (repeat (first | (with_reducible refine BlkAt.new _ _ _ _ ?_; ((try simp) <;> omega)) | (with_reducible assumption) | (with_reducible refine Blk.at (t := ?_) ?_; rotate_left; with_reducible assumption) | with_reducible refine BlkAt.alloc ?_ _ | with_reducible refine BlkAt.drew ?_ | (with_reducible refine BlkAt.setSame ?_ _ _) | (with_reducible refine BlkAt.setCell ?_ ?_ _; rotate_left; ((try simp) <;> omega)) | (with_reducible refine BlkAt.ext (w := ?_) ?_ ?_; rotate_left 2; (with_reducible assumption)) | fail))); rotate_left; (next => first | (simp only [go_sem]; rfl) | rfl); (next => kernel_rfl); (try simp only [Act.put, List.setIfInBounds_toArray, List.set_cons_zero, List.set_cons_succ])) | (refine q_rem (by rfl) _ _ _ _ (by rfl) _ _ (by rfl) (by rfl) (by kernel_rfl) (by kernel_rfl) ?_ ?_; (next => omega); (try simp only [Act.put, List.setIfInBounds_toArray, List.set_cons_zero, List.set_cons_succ])) | (refine q_step_ex (by rfl) ?_; apply Exists.intro; refine ⟨fun W hW => ?_, ?_⟩; (next => (have hWc := fun (b o : Nat) (h : b < _) => (Ext.out hW).cell (p := ⟨b, o, none⟩) h); (try have hLK := HLK.out W (Ext.out hW)); go_simp; first | rfl | (go_at_call 39; (with_reducible refine (HFA.out _).mono ?_); rintro e w'' ⟨rfl, rfl⟩; exact ⟨rfl, hW⟩) | (go_at_call 39; (with_reducible refine (HFB.out _).mono ?_); rintro e w'' ⟨rfl, rfl⟩; exact ⟨rfl, hW⟩) | fail); (try simp only [Act.put, List.setIfInBounds_toArray, List.set_cons_zero, List.set_cons_succ])) | fail)
    refine wpQuiet_nil ?_
    intro w3 hb3
    go_wp2_with fail
    all_goals go_ret
    all_goals exact ⟨by rw [HR.out]; first | rfl | simp_all | (simp; omega), below_ext hb0 (below_ext hb2 hb3)⟩
end Cl
end Go.Proofs.YtacpjpkhmdcagaaGreat
