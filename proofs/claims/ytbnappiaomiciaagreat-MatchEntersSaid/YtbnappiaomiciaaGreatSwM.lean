/- This text proves what sweep.Make answers: the fills of a taker with the other side's orders, by price and time. It has no conditions but those that it states. -/
import Derived.Test.YtbnappiaomiciaaGreatSw
import Derived.Test.YtbnappiaomiciaaGreatBkEa
import Derived.Test.YtbnappiaomiciaaGreatRangeH
import Derived.Scope
namespace Go.Proofs.YtbnappiaomiciaaGreat
set_option linter.unusedVariables false
open Go.RowKit
namespace Sw
set_option maxHeartbeats 4000000
set_option maxRecDepth 10000
attribute [local go_sem] Oper.semAt_some
open Bk (bet Bs osOf srt Oo Sl)
theorem in_any {w : World} {tb : Nat} (t : Tk) (hT : Blk w tb 104 t.arr) (p : Int) : Calls Tryz.prog 84 #[.int .i64 p, .pointer (some ⟨tb, 0, none⟩)] w fun e w' => e = .returned (.bool (decide (t.lo ≤ p) && decide (p ≤ t.hi))) ∧ w = w' := by
  have c4 : w.cell? ⟨tb, 4, none⟩ = some (.int .i64 t.lo) := hT.cell 4
  have c5 : w.cell? ⟨tb, 5, none⟩ = some (.int .i64 t.hi) := hT.cell 5
  by_cases h1 : t.lo ≤ p
  · go_enter Tryz.func84, Tryz.ntmps84
    go_wp2_with fail
    go_ret
    exact ⟨by simp [h1], rfl⟩
  · have h2 : decide (t.lo ≤ p) = false := decide_eq_false h1
    rw [h2]
    go_enter Tryz.func84, Tryz.ntmps84
    go_wp2_with fail
    go_ret
    exact ⟨rfl, rfl⟩
/-- What Make leaves in memory. -/
def MkPost (w : World) (p : List Fl × Int × Int) (e : Ending) (w' : World) : Prop :=
  (∃ v, e = .returned (.agg #[v, .int .i64 p.2.1, .int .i64 p.2.2]) ∧ w'.ownsRow w.heap.size 54 4 v p.1.length (flatF p.1)) ∧ Below w.heap.size w w'
theorem results_plan {fn : Func} {p : Tmp} (h : fn.results = #[.cell p 59]) (tmps : Array Value) (w : World) (g : Nat) (cs : Array Value) (hp : tmps.getD p undef = .pointer (some ⟨g, 0, none⟩)) (hb : Blk w g 59 cs) (h3 : cs.size = 3) :
    (results fn tmps).run Tryz.prog w = .ok (.agg cs) w :=
  results_cell_row h _ _ _ _ _ _ _ hp hb Tryz.underlying59 rfl (by rw [h3]; kernel_rfl)
theorem make_off (p : Option Addr) (t : Tk) (h : ¬ ((t.side = 0 ∨ t.side = 1) ∧ 1 ≤ t.qty)) (w : World) : Calls Tryz.prog 48 #[.pointer p, .agg t.arr] w (MkPost w ([], t.qty, 1)) := by
  have hT0 : Blk ((w.alloc (.cells t.arr 104)).alloc (.cells #[.slice none 0 0, .int .i64 0, .int .i64 0] 59)) w.heap.size 104 t.arr := (Blk.new w _ _ _ rfl).alloc _
  have hR0 : Blk ((w.alloc (.cells t.arr 104)).alloc (.cells #[.slice none 0 0, .int .i64 0, .int .i64 0] 59)) (w.heap.size + 1) 59 #[.slice none 0 0, .int .i64 0, .int .i64 0] := Blk.new _ _ _ _ (sz_alloc _ _)
  have hb0 : Below w.heap.size w ((w.alloc (.cells t.arr 104)).alloc (.cells #[.slice none 0 0, .int .i64 0, .int .i64 0] 59)) := by (repeat (first | with_reducible exact Below.refl _ _ | (with_reducible assumption) | (with_reducible refine below_alloc ?_ _) | (with_reducible refine below_ext (w1 := ?_) ?_ ?_; rotate_left 2; (with_reducible assumption)) | (with_reducible refine Below.setCell ?_ ?_ _; rotate_left; ((try simp) <;> omega)) | (with_reducible refine Below.drew ?_) | (with_reducible refine below_drewN ?_ _) | fail))
  have hz0 : ((w.alloc (.cells t.arr 104)).alloc (.cells #[.slice none 0 0, .int .i64 0, .int .i64 0] 59)).heap.size = w.heap.size + 1 + 1 := by rw [sz_alloc, sz_alloc]
  refine calls_of_wp_marks Tryz.func48 rfl ?_
  simp only [Tryz.ntmps48, List.size_toArray, List.length_cons, List.length_nil, Nat.reduceAdd, Nat.reduceSub, Array.replicate_succ, Array.replicate_zero, List.push_toArray, List.append_toArray, List.nil_append, List.cons_append]
  generalize hw0 : (w.alloc (.cells t.arr 104)).alloc (.cells #[.slice none 0 0, .int .i64 0, .int .i64 0] 59) = w0 at hT0 hR0 hb0 hz0
  have HW0 := Lib.hid hw0
  have HZ0 := Lib.hid hz0
  clear hw0 hz0
  have HH := Lib.hid h
  clear h
  go_wp2_with fail
  rw [HW0.out]
  refine wp_scope_straight ?_
  have hP1 : Blk (w0.alloc (.cells #[.slice none 0 0, .int .i64 t.qty, .int .i64 1] 59)) w0.heap.size 59 #[.slice none 0 0, .int .i64 t.qty, .int .i64 1] := Blk.new _ _ _ _ rfl
  have hb1 : Below w0.heap.size w0 (w0.alloc (.cells #[.slice none 0 0, .int .i64 t.qty, .int .i64 1] 59)) := by (repeat (first | with_reducible exact Below.refl _ _ | (with_reducible assumption) | (with_reducible refine below_alloc ?_ _) | (with_reducible refine below_ext (w1 := ?_) ?_ ?_; rotate_left 2; (with_reducible assumption)) | (with_reducible refine Below.setCell ?_ ?_ _; rotate_left; ((try simp) <;> omega)) | (with_reducible refine Below.drew ?_) | (with_reducible refine below_drewN ?_ _) | fail))
  have c3 : w0.cell? ⟨w.heap.size, 3, none⟩ = some (.int .i64 t.qty) := hT0.cell 3
  have hT1 := hT0.ext hb1
  have hR1 := hR0.ext hb1
  have hB1 := below_ext hb0 hb1
  have d0 : (w0.alloc (.cells #[.slice none 0 0, .int .i64 t.qty, .int .i64 1] 59)).cell? ⟨w.heap.size, 0, none⟩ = some (.int .i64 t.side) := hT1.cell 0
  have d3 : (w0.alloc (.cells #[.slice none 0 0, .int .i64 t.qty, .int .i64 1] 59)).cell? ⟨w.heap.size, 3, none⟩ = some (.int .i64 t.qty) := hT1.cell 3
  clear hT0 hR0 hb0 HW0 hT1
  by_cases hs : t.side = 0 ∨ t.side = 1
  · have hq : t.qty < 1 := by have := HH.out; omega
    have HO := Lib.hid (fun W => other_yes hs W)
    go_wp2_with (first | (go_at_call 68; refine (HO.out _).mono ?_; rintro e w2 ⟨rfl, rfl⟩) | ((with_reducible show wpList _ _ _ (⟨_, .load 59 _, _, _, _, _⟩ :: _) _ _); refine wpList_load_ho 59 _ (by rfl) (by rfl) ?_ (.pointer (some ⟨_, 0, none⟩)) (by rfl) ?_ _ Tryz.underlying59 rfl ?_ ?_; rotate_left; (next => (repeat (first | (with_reducible refine BlkAt.new _ _ _ _ ?_; ((try simp) <;> omega)) | (with_reducible assumption) | (with_reducible refine Blk.at (t := ?_) ?_; rotate_left; with_reducible assumption) | with_reducible refine BlkAt.alloc ?_ _ | with_reducible refine BlkAt.drew ?_ | (with_reducible refine BlkAt.setSame ?_ _ _) | (with_reducible refine BlkAt.setCell ?_ ?_ _; rotate_left; ((try simp) <;> omega)) | (with_reducible refine BlkAt.ext (w := ?_) ?_ ?_; rotate_left 2; (with_reducible assumption)) | fail))); (next => kernel_rfl)) | ((with_reducible show wpList _ _ _ (⟨_, .store 59 _ _, _, _, _, _⟩ :: _) _ _); refine wpList_store_blk (by rfl) 59 _ _ (by rfl) _ _ (by rfl) (by rfl) _ _ hR1 (by kernel_rfl) (by rfl) ?_ ?_; (next => first | (simp [Value.oneCell']; done) | (simp [Value.oneCell', Edt.cells]; done) | exact Are.ordArr_one _); intro w3 hR3 hU3) | fail)
    have hR4 : Blk w3 (w.heap.size + 1) 59 #[.slice none 0 0, .int .i64 t.qty, .int .i64 1] := hR3
    exact bodyPostM_none rfl (results_plan rfl _ _ _ _ (by rfl) hR4 rfl) ⟨⟨_, rfl, World.ownsRow_nil _ _ _ _⟩, below_upd hB1 (by omega) hU3⟩
  · have HO := Lib.hid (fun W => other_no (s := t.side) (by omega) (by omega) W)
    clear hs
    go_wp2_with (first | (go_at_call 68; refine (HO.out _).mono ?_; rintro e w2 ⟨⟨z, rfl⟩, rfl⟩) | ((with_reducible show wpList _ _ _ (⟨_, .load 59 _, _, _, _, _⟩ :: _) _ _); refine wpList_load_ho 59 _ (by rfl) (by rfl) ?_ (.pointer (some ⟨_, 0, none⟩)) (by rfl) ?_ _ Tryz.underlying59 rfl ?_ ?_; rotate_left; (next => (repeat (first | (with_reducible refine BlkAt.new _ _ _ _ ?_; ((try simp) <;> omega)) | (with_reducible assumption) | (with_reducible refine Blk.at (t := ?_) ?_; rotate_left; with_reducible assumption) | with_reducible refine BlkAt.alloc ?_ _ | with_reducible refine BlkAt.drew ?_ | (with_reducible refine BlkAt.setSame ?_ _ _) | (with_reducible refine BlkAt.setCell ?_ ?_ _; rotate_left; ((try simp) <;> omega)) | (with_reducible refine BlkAt.ext (w := ?_) ?_ ?_; rotate_left 2; (with_reducible assumption)) | fail))); (next => kernel_rfl)) | ((with_reducible show wpList _ _ _ (⟨_, .store 59 _ _, _, _, _, _⟩ :: _) _ _); refine wpList_store_blk (by rfl) 59 _ _ (by rfl) _ _ (by rfl) (by rfl) _ _ hR1 (by kernel_rfl) (by rfl) ?_ ?_; (next => first | (simp [Value.oneCell']; done) | (simp [Value.oneCell', Edt.cells]; done) | exact Are.ordArr_one _); intro w3 hR3 hU3) | fail)
    have hR4 : Blk w3 (w.heap.size + 1) 59 #[.slice none 0 0, .int .i64 t.qty, .int .i64 1] := hR3
    exact bodyPostM_none rfl (results_plan rfl _ _ _ _ (by rfl) hR4 rfl) ⟨⟨_, rfl, World.ownsRow_nil _ _ _ _⟩, below_upd hB1 (by omega) hU3⟩
/-- What holds in Make's loop. -/
structure Mi (t : Tk) (pb zb B : Nat) (w8 W : World) (pre : List Ord) (fs : List Fl) (left : Int) (v : Value) : Prop where
  cont : Cont t t.qty pre fs left
  rng : 0 ≤ left ∧ left ≤ t.qty
  P : Blk W pb 59 #[v, .int .i64 left, .int .i64 1]
  own : W.ownsRow B 54 4 v fs.length (flatF fs)
  len : fs.length ≤ pre.length
  low : Kc [pb] [54] zb w8 W
/-- What a loop that stops leaves. -/
def Mx (t : Tk) (pb rb B B0 : Nat) (w W : World) (pre : List Ord) (c : Code) : Prop :=
  ∃ (fs : List Fl) (left stop : Int) (v : Value), (∀ rest, mk t (pre ++ rest) t.qty = (fs, left, stop)) ∧ W.ownsRow B 54 4 v fs.length (flatF fs) ∧ Below B0 w W ∧ ((c = .ret ∧ Blk W rb 59 #[v, .int .i64 left, .int .i64 stop]) ∨ (c = .exit 0 ∧ left = 0 ∧ stop = 0 ∧ Blk W pb 59 #[v, .int .i64 0, .int .i64 1] ∧ Blk W rb 59 #[.slice none 0 0, .int .i64 0, .int .i64 0]))
theorem owns_own {W W' : World} {row : Option Nat} {B B' : Nat} {e : TypeId} {size n : Nat} {v : Value} {xs : List Value} (h : W.ownsRow B' e size v n xs) (hg : W.grownBy W' row) (hr : ∀ r, row = some r → B ≤ r ∧ ∃ o : Obj, W.heap[r]? = some o ∧ o.isCells = false) : W'.ownsRow B' e size v n xs :=
  owns_keepB h (fun r cs fr hc => hg.block r (Array.getElem?_eq_some_iff.1 hc).1 (fun e2 => by
    obtain ⟨_, o, ho, hc2⟩ := hr r e2.symm
    rw [hc] at ho
    cases ho
    cases hc2))
theorem Bs.few {w : World} {c : Nat → Nat} {b N most k : Nat} {ss : List Sl} (B : Bs w c b N most k ss) : (osOf ss).length ≤ 500 := by
  obtain ⟨d, B, I⟩ := B
  have h1 := Bk.slots_le I.ai
  have h2 := I.lim
  unfold osOf
  rw [List.length_map]
  omega
theorem Bs.okk {w : World} {c : Nat → Nat} {b N most k : Nat} {ss : List Sl} (B : Bs w c b N most k ss) : ∀ o ∈ osOf ss, Bk.okO o := by
  obtain ⟨d, B, I⟩ := B
  intro o ho
  obtain ⟨x, hx, rfl⟩ := List.mem_map.1 ho
  exact I.ok x hx
theorem owns_slice {W : World} {B : Nat} {e : TypeId} {size n : Nat} {v : Value} {xs : List Value} (h : W.ownsRow B e size v n xs) : ∃ A cap, v = .slice A n cap := by
  rcases h.2 with ⟨rfl, rfl⟩ | ⟨g, cap, cur, rfl, _⟩
  · exact ⟨_, _, rfl⟩
  · exact ⟨_, _, rfl⟩
theorem owns_mono {W : World} {B B' : Nat} {e : TypeId} {size n : Nat} {v : Value} {xs : List Value} (h : W.ownsRow B' e size v n xs) (hB : B ≤ B') : W.ownsRow B e size v n xs := by
  refine ⟨h.1, ?_⟩
  rcases h.2 with h0 | ⟨g, cap, cur, h1, h2, h3⟩
  · exact .inl h0
  · exact .inr ⟨g, cap, cur, h1, Nat.le_trans hB h2, h3⟩
theorem in_no {t : Tk} {p : Int} (h : p < t.lo ∨ t.hi < p) : (decide (t.lo ≤ p) && decide (p ≤ t.hi)) = false := by
  rcases h with h | h
  · rw [decide_eq_false (by omega : ¬ t.lo ≤ p)]; rfl
  · rw [decide_eq_false (by omega : ¬ p ≤ t.hi)]; simp
theorem in_yes {t : Tk} {p : Int} (h : ¬ (p < t.lo ∨ t.hi < p)) : (decide (t.lo ≤ p) && decide (p ≤ t.hi)) = true := by
  rw [decide_eq_true (by omega : t.lo ≤ p), decide_eq_true (by omega : p ≤ t.hi)]
  rfl
theorem wr3_blk {W : World} {rb : Nat} (hR : Blk W rb 59 #[.slice none 0 0, .int .i64 0, .int .i64 0]) (v a b : Value) : Blk (((W.setCell ⟨rb, 0, none⟩ v).setCell ⟨rb, 1, none⟩ a).setCell ⟨rb, 2, none⟩ b) rb 59 #[v, a, b] := ((hR.setCell 0 v).setCell 1 a).setCell 2 b
theorem wr3_kf {W : World} {rb : Nat} (hR : Blk W rb 59 #[.slice none 0 0, .int .i64 0, .int .i64 0]) (v a b : Value) (B : Nat) : KeepsFrom B W (((W.setCell ⟨rb, 0, none⟩ v).setCell ⟨rb, 1, none⟩ a).setCell ⟨rb, 2, none⟩ b) :=
  (((KeepsOthers.setCell _ _ _).trans (KeepsOthers.setCell _ _ _)).trans (KeepsOthers.setCell _ _ _)).from _
theorem Mx.ret {t : Tk} {pb rb B B0 : Nat} {w W : World} {pre : List Ord} {fs : List Fl} {left stop : Int} {v : Value} (hR : Blk W rb 59 #[.slice none 0 0, .int .i64 0, .int .i64 0]) (h : ∀ rest, mk t (pre ++ rest) t.qty = (fs, left, stop)) (hown : W.ownsRow B 54 4 v fs.length (flatF fs)) (hb : Below B0 w W) (hB : B0 ≤ rb) :
    Mx t pb rb B B0 w (((W.setCell ⟨rb, 0, none⟩ v).setCell ⟨rb, 1, none⟩ (.int .i64 left)).setCell ⟨rb, 2, none⟩ (.int .i64 stop)) pre .ret := by
  have u1 := Upd.setCell W ⟨rb, 0, none⟩ v
  have u2 := Upd.setCell (W.setCell ⟨rb, 0, none⟩ v) ⟨rb, 1, none⟩ (.int .i64 left)
  have u3 := Upd.setCell ((W.setCell ⟨rb, 0, none⟩ v).setCell ⟨rb, 1, none⟩ (.int .i64 left)) ⟨rb, 2, none⟩ (.int .i64 stop)
  refine ⟨fs, left, stop, v, h, ?_, below_upd (below_upd (below_upd hb hB u1) hB u2) hB u3, .inl ⟨rfl, wr3_blk hR _ _ _⟩⟩
  exact owns_upd (owns_upd (owns_upd hown hR (by decide) u1) (hR.setCell 0 v) (by decide) u2) ((hR.setCell 0 v).setCell 1 _) (by decide) u3
theorem own_ne {W : World} {B z : Nat} {e t : TypeId} {size n : Nat} {v : Value} {xs : List Value} {cs : Array Value} (h : W.ownsRow B e size v n xs) (hb : Blk W z t cs) (ht : t ≠ e) : v.ownBlock ≠ some z := fun e2 => by
  rcases h.2 with ⟨rfl, _⟩ | ⟨g, cap, cur, rfl, _, hg, _⟩
  · cases e2
  · simp only [Value.ownBlock, Option.some.injEq] at e2
    subst e2
    rw [show W.heap[_]? = _ from hb] at hg
    cases hg
    exact ht rfl
theorem kc_updS {nb : List Nat} {ts : List TypeId} {B g : Nat} {W W' : World} (hg : g ∈ nb) (u : Upd g W W') : Kc nb ts B W W' :=
  ⟨(ButL.refl _ _ _).upd hg u, fun k cs t fr hk hn _ => (u.block k (fun e => hn (by rw [e]; exact hg))).trans hk⟩
theorem pt_keeps {W w5 : World} {pb zb n : Nat} {v : Value} {xs : List Value} {cs : Array Value} (hP : Blk W pb 59 cs) (hown : W.ownsRow zb 54 4 v n xs) (hz : zb ≤ W.heap.size) (h : Pt pb v W w5) : Kc [pb] [54] zb W w5 ∧ KeepsFrom zb W w5 := by
  refine ⟨⟨⟨h.os, h.tape, h.output, h.size, fun q hq hn => h.same q (by omega) (by simpa using hn) (fun e => by have := owns_base hown q e; omega)⟩, fun k cs' t fr hk hn ht => ?_⟩, ⟨h.size, fun k o _ hk ho => ?_⟩⟩
  · exact (h.same k (Array.getElem?_eq_some_iff.1 hk).1 (by simpa using hn) (fun e => by
      rcases hown.2 with ⟨rfl, _⟩ | ⟨g, cap, cur, rfl, _, hg, _⟩
      · cases e
      · simp only [Value.ownBlock, Option.some.injEq] at e
        subst e
        rw [hk] at hg
        cases hg
        exact ht (by simp))).trans hk
  · refine (h.same k (Array.getElem?_eq_some_iff.1 hk).1 (fun e => ?_) (fun e => ?_)).trans hk
    · subst e
      rw [show W.heap[_]? = _ from hP] at hk
      cases hk
      cases ho
    · rcases hown.2 with ⟨rfl, _⟩ | ⟨g, cap, cur, rfl, _, hg, _⟩
      · cases e
      · simp only [Value.ownBlock, Option.some.injEq] at e
        subst e
        rw [hk] at hg
        cases hg
        cases ho
theorem Mi.post {t : Tk} {pb zb : Nat} {w8 W w5 : World} {α : Type} {p : α → List Ord} {pre' : α} {fs fs' : List Fl} {left left' : Int} {v v5 : Value} (hl : Kc [pb] [54] zb w8 W) (hP : Blk W pb 59 #[v, .int .i64 left, .int .i64 1]) (hown : W.ownsRow zb 54 4 v fs.length (flatF fs)) (hz : zb ≤ W.heap.size) (hpt : Pt pb v W w5)
    (hP5 : Blk w5 pb 59 #[v5, .int .i64 left, .int .i64 1]) (hown5 : w5.ownsRow zb 54 4 v5 fs'.length (flatF fs')) (hc : Cont t t.qty (p pre') fs' left') (hr : 0 ≤ left' ∧ left' ≤ t.qty) (hn : fs'.length ≤ (p pre').length) :
    KeepsFrom zb W (w5.setCell ⟨pb, 1, none⟩ (.int .i64 left')) ∧ Kc [pb] [54] zb W (w5.setCell ⟨pb, 1, none⟩ (.int .i64 left')) ∧ ∃ fs left v, Mi t pb zb zb w8 (w5.setCell ⟨pb, 1, none⟩ (.int .i64 left')) (p pre') fs left v := by
  have hk := pt_keeps hP hown hz hpt
  have u := Upd.setCell w5 ⟨pb, 1, none⟩ (.int .i64 left')
  have hk2 : Kc [pb] [54] zb w5 (w5.setCell ⟨pb, 1, none⟩ (.int .i64 left')) := kc_updS (by simp) u
  exact ⟨hk.2.trans ((KeepsOthers.setCell _ _ _).from _), hk.1.trans hk2, fs', left', v5, hc, hr, hP5.setCell 1 _, owns_upd hown5 hP5 (by decide) u, hn, hl.trans (hk.1.trans hk2)⟩
theorem mk_fin {fn : Func} {p : Tmp} {a : Act} {D rb : Nat} {w W : World} {L : List Ord} {t : Tk} {fs : List Fl} {left stop : Int} {v : Value} (hres : fn.results = #[.cell p 59]) (hd : a.defers = [{ target := .collected D, args := #[] }]) (hp : a.tmps.getD p undef = .pointer (some ⟨rb, 0, none⟩)) (h1 : mk t L t.qty = (fs, left, stop))
    (h2 : W.ownsRow w.heap.size 54 4 v fs.length (flatF fs)) (h3 : Below w.heap.size w W) (h4 : Blk W rb 59 #[v, .int .i64 left, .int .i64 stop]) (hK : W.heap[D]? = some (.deferred (some []))) (hDr : rb ≠ D) (hwD : w.heap.size ≤ D) : bodyPostM Fence.wide 9 Tryz.prog fn (MkPost w (mk t L t.qty)) .ret a W := by
  rw [h1]
  refine bodyPostM_ret hd hK (results_plan hres _ _ rb _ hp ((World.putObj_heap_other hDr).trans h4) rfl) ⟨⟨v, rfl, owns_keepB h2 (fun r cs fr hr => World.putObj_heap_other (fun e => ?_))⟩, below_mark h3 hwD hK⟩
  subst e
  rw [hK] at hr
  cases hr
theorem wr3_own {B rb n : Nat} {W : World} {v' : Value} {xs : List Value} (hR : Blk W rb 59 #[.slice none 0 0, .int .i64 0, .int .i64 0]) (hown : W.ownsRow B 54 4 v' n xs) (v a b : Value) : (((W.setCell ⟨rb, 0, none⟩ v).setCell ⟨rb, 1, none⟩ a).setCell ⟨rb, 2, none⟩ b).ownsRow B 54 4 v' n xs :=
  owns_upd (owns_upd (owns_upd hown hR (by decide) (Upd.setCell W ⟨rb, 0, none⟩ v)) (hR.setCell 0 v) (by decide) (Upd.setCell (W.setCell ⟨rb, 0, none⟩ v) ⟨rb, 1, none⟩ a)) ((hR.setCell 0 v).setCell 1 a) (by decide) (Upd.setCell ((W.setCell ⟨rb, 0, none⟩ v).setCell ⟨rb, 1, none⟩ a) ⟨rb, 2, none⟩ b)
theorem wr3_below {B0 rb : Nat} {w W : World} (hb : Below B0 w W) (hB : B0 ≤ rb) (v a b : Value) : Below B0 w (((W.setCell ⟨rb, 0, none⟩ v).setCell ⟨rb, 1, none⟩ a).setCell ⟨rb, 2, none⟩ b) :=
  below_upd (below_upd (below_upd hb (show B0 ≤ rb from hB) (Upd.setCell _ ⟨rb, 0, none⟩ _)) hB (Upd.setCell _ ⟨rb, 1, none⟩ _)) hB (Upd.setCell _ ⟨rb, 2, none⟩ _)
theorem mx_all {t : Tk} {pre L : List Ord} {r : List Fl × Int × Int} (h : ∀ rest, mk t (pre ++ rest) t.qty = r) (hp : pre <+: L) : mk t L t.qty = r := by
  obtain ⟨rest, rfl⟩ := hp
  exact h rest
theorem wr3_at {W : World} {rb D : Nat} (h : D ≠ rb) (v a b : Value) : (((W.setCell ⟨rb, 0, none⟩ v).setCell ⟨rb, 1, none⟩ a).setCell ⟨rb, 2, none⟩ b).heap[D]? = W.heap[D]? :=
  ((Upd.setCell _ _ b).block D h).trans (((Upd.setCell _ _ a).block D h).trans ((Upd.setCell _ _ v).block D h))
theorem srt_le (n : Int) (L : List Ord) : (srt n L).length ≤ L.length := by
  rw [(Bk.srt_perm n L).length_eq]
  exact List.length_filter_le _ _
theorem srt_mem {n : Int} {L : List Ord} {x : Ord} (h : x ∈ srt n L) : x ∈ L := (List.mem_filter.1 ((Bk.srt_perm n L).mem_iff.1 h)).1
section
variable {w : World} {c : Nat → Nat} {b N most k : Nat} {ss : List Sl}
theorem make_on (S : Bs w c b N most k ss) (t : Tk) (hs : t.side = 0 ∨ t.side = 1) (hq1 : 1 ≤ t.qty) (hq2 : t.qty ≤ 9223372036854775807) : Calls Tryz.prog 48 #[.pointer (some ⟨b, 0, none⟩), .agg t.arr] w (MkPost w (mk t (srt (1 - t.side) (osOf ss)) t.qty)) := by
  have hT0 : Blk ((w.alloc (.cells t.arr 104)).alloc (.cells #[.slice none 0 0, .int .i64 0, .int .i64 0] 59)) w.heap.size 104 t.arr := (Blk.new w _ _ _ rfl).alloc _
  have hR0 : Blk ((w.alloc (.cells t.arr 104)).alloc (.cells #[.slice none 0 0, .int .i64 0, .int .i64 0] 59)) (w.heap.size + 1) 59 #[.slice none 0 0, .int .i64 0, .int .i64 0] := Blk.new _ _ _ _ (sz_alloc _ _)
  have hb0 : Below w.heap.size w ((w.alloc (.cells t.arr 104)).alloc (.cells #[.slice none 0 0, .int .i64 0, .int .i64 0] 59)) := by (repeat (first | with_reducible exact Below.refl _ _ | (with_reducible assumption) | (with_reducible refine below_alloc ?_ _) | (with_reducible refine below_ext (w1 := ?_) ?_ ?_; rotate_left 2; (with_reducible assumption)) | (with_reducible refine Below.setCell ?_ ?_ _; rotate_left; ((try simp) <;> omega)) | (with_reducible refine Below.drew ?_) | (with_reducible refine below_drewN ?_ _) | fail))
  have hz0 : ((w.alloc (.cells t.arr 104)).alloc (.cells #[.slice none 0 0, .int .i64 0, .int .i64 0] 59)).heap.size = w.heap.size + 1 + 1 := by rw [sz_alloc, sz_alloc]
  refine calls_of_wp_marks Tryz.func48 rfl ?_
  simp only [Tryz.ntmps48, List.size_toArray, List.length_cons, List.length_nil, Nat.reduceAdd, Nat.reduceSub, Array.replicate_succ, Array.replicate_zero, List.push_toArray, List.append_toArray, List.nil_append, List.cons_append]
  generalize hw0 : (w.alloc (.cells t.arr 104)).alloc (.cells #[.slice none 0 0, .int .i64 0, .int .i64 0] 59) = w0 at hT0 hR0 hb0 hz0
  have HW0 := Lib.hid hw0
  have HZ0 := Lib.hid hz0
  clear hw0 hz0
  have HO := Lib.hid (fun W => other_yes hs W)
  have HS := Lib.hid hs
  have hq3 : ¬ t.qty < 1 := by omega
  have hq4 : decide (t.qty < 1) = false := decide_eq_false hq3
  clear hs
  go_wp2_with fail
  rw [HW0.out]
  refine wp_scope_straight ?_
  have hP1 : Blk (w0.alloc (.cells #[.slice none 0 0, .int .i64 t.qty, .int .i64 1] 59)) w0.heap.size 59 #[.slice none 0 0, .int .i64 t.qty, .int .i64 1] := Blk.new _ _ _ _ rfl
  have hb1 : Below w0.heap.size w0 (w0.alloc (.cells #[.slice none 0 0, .int .i64 t.qty, .int .i64 1] 59)) := by (repeat (first | with_reducible exact Below.refl _ _ | (with_reducible assumption) | (with_reducible refine below_alloc ?_ _) | (with_reducible refine below_ext (w1 := ?_) ?_ ?_; rotate_left 2; (with_reducible assumption)) | (with_reducible refine Below.setCell ?_ ?_ _; rotate_left; ((try simp) <;> omega)) | (with_reducible refine Below.drew ?_) | (with_reducible refine below_drewN ?_ _) | fail))
  have c3 : w0.cell? ⟨w.heap.size, 3, none⟩ = some (.int .i64 t.qty) := hT0.cell 3
  have hT1 := hT0.ext hb1
  have hR1 := hR0.ext hb1
  have hB1 := below_ext hb0 hb1
  have d0 : (w0.alloc (.cells #[.slice none 0 0, .int .i64 t.qty, .int .i64 1] 59)).cell? ⟨w.heap.size, 0, none⟩ = some (.int .i64 t.side) := hT1.cell 0
  have d3 : (w0.alloc (.cells #[.slice none 0 0, .int .i64 t.qty, .int .i64 1] 59)).cell? ⟨w.heap.size, 3, none⟩ = some (.int .i64 t.qty) := hT1.cell 3
  clear hT0 hR0 hb0 HW0
  have hF2 : Blk ((w0.alloc (.cells #[.slice none 0 0, .int .i64 t.qty, .int .i64 1] 59)).alloc (.cells #[.nilFunc] 162)) (w0.heap.size + 1) 162 #[.nilFunc] := Blk.new _ _ _ _ (sz_alloc _ _)
  go_wp2_with (first | (go_at_call 68; refine (HO.out _).mono ?_; rintro e w2 ⟨rfl, rfl⟩) | (((with_reducible show wpList _ _ _ (⟨_, .store 162 _ _, _, _, _, _⟩ :: _) _ _); refine wpList_store_fld (by rfl) _ _ _ (by rfl) _ _ (by rfl) _ (by rfl) _ _ hF2 ?_ ?_ (by rfl) (by rfl) ?_; (next => simp); (next => kernel_rfl); intro w3 hF3 hU3); have hG3 : Blk (w3.alloc (.cells #[.nilFunc] 105)) w3.heap.size 105 #[.nilFunc] := Blk.new _ _ _ _ rfl) | ((with_reducible show wpList _ _ _ (⟨_, .store 105 _ _, _, _, _, _⟩ :: _) _ _); refine wpList_store_fld (by rfl) _ _ _ (by rfl) _ _ (by rfl) _ (by rfl) _ _ hG3 ?_ ?_ (by rfl) (by rfl) ?_; (next => simp); (next => kernel_rfl); intro w4 hG4 hU4) | fail)
  have hb3 : Below (w0.alloc (.cells #[.slice none 0 0, .int .i64 t.qty, .int .i64 1] 59)).heap.size (w0.alloc (.cells #[.slice none 0 0, .int .i64 t.qty, .int .i64 1] 59)) w3 := below_upd (by (repeat (first | with_reducible exact Below.refl _ _ | (with_reducible assumption) | (with_reducible refine below_alloc ?_ _) | (with_reducible refine below_ext (w1 := ?_) ?_ ?_; rotate_left 2; (with_reducible assumption)) | (with_reducible refine Below.setCell ?_ ?_ _; rotate_left; ((try simp) <;> omega)) | (with_reducible refine Below.drew ?_) | (with_reducible refine below_drewN ?_ _) | fail))) (by rw [sz_alloc]; exact Nat.le_refl _) hU3
  have hb4 : Below w3.heap.size w3 w4 := below_upd (by (repeat (first | with_reducible exact Below.refl _ _ | (with_reducible assumption) | (with_reducible refine below_alloc ?_ _) | (with_reducible refine below_ext (w1 := ?_) ?_ ?_; rotate_left 2; (with_reducible assumption)) | (with_reducible refine Below.setCell ?_ ?_ _; rotate_left; ((try simp) <;> omega)) | (with_reducible refine Below.drew ?_) | (with_reducible refine below_drewN ?_ _) | fail))) (Nat.le_refl _) hU4
  have hb34 := below_ext hb3 hb4
  have hT4 := hT1.ext hb34
  have hR4 := hR1.ext hb34
  have hP4 := hP1.ext hb34
  have hF4 : Blk w4 (w0.heap.size + 1) 162 #[.func (.func 83) #[.pointer (some ⟨w0.heap.size, 0, none⟩)] #[]] := Blk.ext hF3 hb4
  have hG4' : Blk w4 w3.heap.size 105 #[.func (.func 84) #[] #[.pointer (some ⟨w.heap.size, 0, none⟩)]] := hG4
  have hB4 := below_ext hB1 hb34
  have hz3 := hF3.lt
  have hz4 := hG4.lt
  clear hF2 hF3 hU3 hG3 hG4 hU4 hb1 hb3 hb4 hb34 hT1 hR1 hP1 hB1 d0 d3 c3
  refine wp_label ?_
  go_wp2_with fail
  refine (Bk.each_any (some ⟨b, 0, none⟩) (1 - t.side) _).mono ?_
  rintro e w8 ⟨rfl, hQ8, hI8, hb8⟩
  go_wp2_with fail
  have hzw := HZ0.out
  have hT8 := hT4.ext hb8
  have hR8 := hR4.ext hb8
  have hP8 := hP4.ext hb8
  have hF8 := hF4.ext hb8
  have hG8 := hG4'.ext hb8
  have hB8 := below_ext hB4 hb8
  have hz8 := hb8.size
  obtain ⟨tb, htb⟩ : ∃ n, n = w.heap.size := ⟨_, rfl⟩
  have S8 := S.ext hB8
  have h9p : c w0.heap.size = 9 := by
    obtain ⟨d, B, I⟩ := S
    exact B.out _ (by omega)
  obtain ⟨pb, hpb⟩ : ∃ n, n = w0.heap.size := ⟨_, rfl⟩
  obtain ⟨gb, hgb⟩ : ∃ n, n = w3.heap.size := ⟨_, rfl⟩
  rw [← hpb] at hP8 hF8 hzw hz3 h9p
  try rw [← hpb]
  rw [← hgb] at hG8 hz3 hz4
  try rw [← hgb]
  have hfew : (srt (1 - t.side) (osOf ss)).length ≤ 500 := Nat.le_trans (srt_le _ _) (Bs.few S)
  have hok := Lib.hid (Bs.okk S)
  have hseq := Lib.hid (Bk.beach_all S8 (1 - t.side) _ _ hQ8 hI8 [pb] [54] (fun t h => by rw [List.mem_singleton.1 h]; decide) (fun q hq => by rw [List.mem_singleton.1 hq]; exact ⟨h9p, by omega⟩))
  have hfar : w.heap.size + 1 < pb ∧ pb + 1 < gb ∧ gb < w8.heap.size := by omega
  clear hQ8 hI8 hT4 hR4 hP4 hF4 hG4' hB4 hb8 hpb hgb hzw hz3 hz4 hz8 S8 h9p HO HZ0 htb S
  refine' wp_rangeFuncOF [pb] [54] (gf := 101) (by rfl) (enters_of Tryz.func101 (by kernel_rfl) rfl) hseq.out (fun _ => rfl)
    (fun pre W => ∃ fs left v, Mi t pb w8.heap.size w8.heap.size w8 W (pre.map (·.1)) fs left v)
    (fun cd pre W => Mx t pb (w.heap.size + 1) w.heap.size w.heap.size w W (pre.map (·.1)) cd)
    ?I ?Ix ?h0 _ (fun x bx W => w8.heap.size ≤ bx ∧ Blk W bx 30 x.1.arr) ?hBx ?assign ?body ?done ?stop
  case I =>
    rintro pre W W' row ⟨fs, left, v, h⟩ hg hr
    exact ⟨fs, left, v, h.cont, h.rng, h.P.own hg hr, owns_own h.own hg hr, h.len, Bk.kc_own w8 (Nat.le_refl _) (Nat.le_refl _) () W W' row h.low hg hr⟩
  case Ix =>
    rintro cd pre W W' row ⟨fs, left, stop, v, h1, h2, h3, h4⟩ hg hr
    refine ⟨fs, left, stop, v, h1, owns_own h2 hg hr, ?_, ?_⟩
    · exact h3.trans (grown_below hg (by have := h3.size; omega) (fun q e => by have := (hr q e).1; have := hB8.size; omega))
    · rcases h4 with ⟨k1, k2⟩ | ⟨k1, k2, k3, k4, k5⟩
      · exact .inl ⟨k1, k2.own hg hr⟩
      · exact .inr ⟨k1, k2, k3, k4.own hg hr, k5.own hg hr⟩
  case h0 => exact ⟨[], t.qty, .slice none 0 0, cont_nil t t.qty, ⟨by omega, Int.le_refl _⟩, hP8, World.ownsRow_nil _ _ _ _, Nat.le_refl _, Kc.refl _ _ _ _⟩
  case hBx =>
    rintro x bx _ W W' row ⟨h2, h3⟩ hg hr
    exact ⟨h2, h3.own hg hr⟩
  case assign =>
    intro l pre x W K hI hK
    obtain ⟨fs, left, v, h⟩ := hI
    have hsz := h.low.low.size
    have hX0 : Blk (W.alloc (.cells Are.ord0.arr 30)) W.heap.size 30 Are.ord0.arr := Blk.new _ _ _ _ rfl
    unfold Bk.encO
    refine round_region_lit (by kernel_rfl) (fun ⟨_, _, h⟩ => h) ?_
    go_wp2_with (first | ((with_reducible show wpList _ _ _ (⟨_, .store 30 _ _, _, _, _, _⟩ :: _) _ _); refine wpList_store_blk (by rfl) 30 _ _ (by rfl) _ _ (by rfl) (by rfl) _ _ hX0 (by kernel_rfl) (by rfl) ?_ ?_; (next => first | (simp [Value.oneCell']; done) | (simp [Value.oneCell', Edt.cells]; done) | exact Are.ordArr_one _); intro W5 hX5 hU5) | fail)
    have hW5 : Below W.heap.size W W5 := below_upd (by (repeat (first | with_reducible exact Below.refl _ _ | (with_reducible assumption) | (with_reducible refine below_alloc ?_ _) | (with_reducible refine below_ext (w1 := ?_) ?_ ?_; rotate_left 2; (with_reducible assumption)) | (with_reducible refine Below.setCell ?_ ?_ _; rotate_left; ((try simp) <;> omega)) | (with_reducible refine Below.drew ?_) | (with_reducible refine below_drewN ?_ _) | fail))) (Nat.le_refl _) hU5
    try simp only [Act.put]
    obtain ⟨bx, hbe⟩ : ∃ b, b = W.heap.size := ⟨_, rfl⟩
    rw [← hbe] at hX5 ⊢
    have hk5 : Kc [pb] [54] w8.heap.size W W5 := Kc.of_below hW5 hsz
    exact hK bx W5 (keepsFrom_below hW5) hk5 ⟨fs, left, v, h.cont, h.rng, h.P.ext hW5, owns_ext h.own hW5, h.len, h.low.trans hk5⟩ ⟨by omega, hX5⟩
  case body =>
    rintro l pre ⟨o, ho⟩ bx W ⟨fs, left, v, M⟩ ⟨hbx, hX⟩ hlt2
    have hlow := M.low
    have hcont := M.cont
    have hrng := M.rng
    have hlw := hlow.low.size
    have hTW : Blk W w.heap.size 104 t.arr := hlow.low_blk hT8 (by simp; omega) (by omega)
    have hRW : Blk W (w.heap.size + 1) 59 #[.slice none 0 0, .int .i64 0, .int .i64 0] := hlow.low_blk hR8 (by simp; omega) (by omega)
    have hFW := hlow.low_blk hF8 (by simp) (by omega)
    have hGW := hlow.low_blk hG8 (by simp; omega) (by omega)
    have hBW : Below w.heap.size w W := hB8.trans ⟨hlow.low.os, hlow.low.tape, hlow.low.output, hlow.low.size, fun q hq => hlow.low.block q (by omega) (by simp; omega)⟩
    have hP := M.P
    have hown := M.own
    have hflen := M.len
    have hpre : pre.length ≤ 101000 := by omega
    have lX := hX.lt
    have lP := hP.lt
    have p1 : W.cell? ⟨pb, 1, none⟩ = some (.int .i64 left) := hP.cell 1
    have p2 : W.cell? ⟨pb, 2, none⟩ = some (.int .i64 1) := hP.cell 2
    have t0 : W.cell? ⟨w.heap.size, 0, none⟩ = some (.int .i64 t.side) := hTW.cell 0
    have t1 : W.cell? ⟨w.heap.size, 1, none⟩ = some (.int .i64 t.owner) := hTW.cell 1
    have t2 : W.cell? ⟨w.heap.size, 2, none⟩ = some (.int .i64 t.limit) := hTW.cell 2
    have t6 : W.cell? ⟨w.heap.size, 6, none⟩ = some (.int .i64 t.self) := hTW.cell 6
    have o1 : W.cell? ⟨bx, 1, none⟩ = some (.int .i64 o.owner) := hX.cell 1
    have o3 : W.cell? ⟨bx, 3, none⟩ = some (.int .i64 o.price) := hX.cell 3
    have o4 : W.cell? ⟨bx, 4, none⟩ = some (.int .i64 o.qty) := hX.cell 4
    have o0 : W.cell? ⟨bx, 0, none⟩ = some (.int .i64 o.id) := hX.cell 0
    have o2 : W.cell? ⟨bx, 2, none⟩ = some (.int .i64 o.side) := hX.cell 2
    have o5 : W.cell? ⟨bx, 5, none⟩ = some (.int .i64 o.flags) := hX.cell 5
    have o6 : W.cell? ⟨bx, 6, none⟩ = some (.int .i64 o.seq) := hX.cell 6
    have cF : W.cell? ⟨pb + 1, 0, none⟩ = some (.func (.func 83) #[.pointer (some ⟨pb, 0, none⟩)] #[]) := hFW.cell 0
    have cG : W.cell? ⟨gb, 0, none⟩ = some (.func (.func 84) #[] #[.pointer (some ⟨w.heap.size, 0, none⟩)]) := hGW.cell 0
    have hmap : (pre ++ [(⟨o, ho⟩ : Oo (1 - t.side) (osOf ss))]).map (·.1) = pre.map (·.1) ++ [o] := by simp
    have HM := Lib.hid hmap
    have HQ := Lib.hid (hok.out o (srt_mem ho)).2.2.1
    have HL := Lib.hid hlow
    clear hmap hseq hok hfew hT8 hR8 hP8 hF8 hG8 hB8 hlow M
    have HW := Lib.hid (fun W => worse_any t.side o.price t.limit W)
    have HI := Lib.hid (fun W (h : Blk W w.heap.size 104 t.arr) => in_any t h o.price)
    have hMx : ∀ {r}, (∀ rest, mk t (pre.map (·.1) ++ o :: rest) t.qty = r) → ∀ rest, mk t ((pre ++ [(⟨o, ho⟩ : Oo (1 - t.side) (osOf ss))]).map (·.1) ++ rest) t.qty = r := fun h rest => by
      rw [HM.out, List.append_assoc, List.singleton_append]
      exact h rest
    by_cases h0 : left = 0
    · subst h0
      gi_wp2_with fail
      exact ⟨KeepsFrom.refl _ _, fs, 0, 0, v, hMx (hcont.done rfl), owns_mono hown (by omega), hBW, .inr ⟨rfl, rfl, rfl, hP, hRW⟩⟩
    have k0 : (left == 0) = false := by simpa using h0
    obtain ⟨A, cp, rfl⟩ := owns_slice hown
    have hown8 : W.ownsRow w.heap.size 54 4 (.slice A fs.length cp) fs.length (flatF fs) := owns_mono hown (by omega)
    have p0 : W.cell? ⟨pb, 0, none⟩ = some (.slice A fs.length cp) := hP.cell 0
    have r0 : W.cell? ⟨w.heap.size + 1, 0, none⟩ = some (.slice none 0 0) := hRW.cell 0
    have r1 : W.cell? ⟨w.heap.size + 1, 1, none⟩ = some (.int .i64 0) := hRW.cell 1
    have r2 : W.cell? ⟨w.heap.size + 1, 2, none⟩ = some (.int .i64 0) := hRW.cell 2
    have f0 : W.frozen? ⟨w.heap.size + 1, 0, none⟩ = false := hRW.frozen 0
    have f1 : W.frozen? ⟨w.heap.size + 1, 1, none⟩ = false := hRW.frozen 1
    have f2 : W.frozen? ⟨w.heap.size + 1, 2, none⟩ = false := hRW.frozen 2
    have g1 : W.frozen? ⟨pb, 1, none⟩ = false := hP.frozen 1
    have g2 : W.frozen? ⟨pb, 2, none⟩ = false := hP.frozen 2
    have nrp : w.heap.size + 1 ≠ pb := by omega
    by_cases hw : wrs t.side o.price t.limit = true
    · rw [hw] at HW
      gi_wp2_with fail
      refine ⟨trivial, CallsIn.inRound l (callsIn_wide.2 ?_)⟩
      refine (HW.out _).mono ?_
      rintro e w1 ⟨rfl, rfl⟩
      gi_wp2_with fail
      exact ⟨wr3_kf hRW _ _ _ _, Mx.ret hRW (hMx (hcont.worse h0 hw)) hown8 hBW (by omega)⟩
    have hw' : wrs t.side o.price t.limit = false := by simpa using hw
    rw [hw'] at HW
    clear hw
    by_cases hin : o.price < t.lo ∨ t.hi < o.price
    · have HI : Hid (Calls Tryz.prog 84 #[.int .i64 o.price, .pointer (some ⟨w.heap.size, 0, none⟩)] W fun e w' => e = .returned (.bool false) ∧ W = w') := Lib.hid (by
        have h := in_any t hTW o.price
        rwa [in_no hin] at h)
      have HN := Lib.hid hin
      clear hin
      gi_wp2_with fail
      refine ⟨trivial, CallsIn.inRound l (callsIn_wide.2 ?_)⟩
      refine (HW.out _).mono ?_
      rintro e w1 ⟨rfl, rfl⟩
      gi_wp2_with fail
      refine ⟨trivial, CallsIn.inRound l (callsIn_wide.2 ?_)⟩
      refine HI.out.mono ?_
      rintro e w1 ⟨rfl, rfl⟩
      gi_wp2_with fail
      have u2 := Upd.setCell W ⟨pb, 2, none⟩ (.int .i64 2)
      exact ⟨((KeepsOthers.setCell _ _ _).from _).trans (wr3_kf (hRW.upd nrp u2) _ _ _ _), Mx.ret (hRW.upd nrp u2) (hMx (hcont.out h0 hw' HN.out)) (owns_upd hown8 hP (by decide) u2) (below_upd hBW (show w.heap.size ≤ pb by omega) u2) (by omega)⟩
    have HI : Hid (Calls Tryz.prog 84 #[.int .i64 o.price, .pointer (some ⟨w.heap.size, 0, none⟩)] W fun e w' => e = .returned (.bool true) ∧ W = w') := Lib.hid (by
      have h := in_any t hTW o.price
      rwa [in_yes hin] at h)
    have HN := Lib.hid hin
    clear hin
    have hl0 := hrng.1
    have hl1 : left ≤ 9223372036854775807 := Int.le_trans hrng.2 hq2
    have hl2 : 1 ≤ left := by omega
    have hoq := HQ.out
    obtain ⟨hq5, hq6⟩ := hoq
    have hfl : fs.length ≤ 200000 := by
      have := hflen
      rw [List.length_map] at this
      omega
    have hpq : ∀ {v5 : Value} {W5 : World}, Pt pb (.slice A fs.length cp) W W5 → Blk W5 pb 59 v5.cells → True := fun _ _ => trivial
    clear hpq
    by_cases hown2 : t.self = 0 ∨ o.owner ≠ t.owner
    · have ks : t.self = 0 ∨ (t.self == 0) = false ∧ (o.owner != t.owner) = true := by
        rcases hown2 with h | h
        · exact .inl h
        · by_cases h6 : t.self = 0
          · exact .inl h6
          · exact .inr ⟨by simpa using h6, by simpa using h⟩
      have hc := hcont.trade h0 hw' HN.out hown2
      clear hown2
      by_cases hm : left ≤ o.qty
      · have hmin : min left o.qty = left := by omega
        rw [hmin, Int.sub_self] at hc
        have HC := Lib.hid hc
        have HPU := Lib.hid (put_any hP hown hlw hfl o left false)
        clear hc hmin
        rcases ks with ks | ⟨ks, ks2⟩
        all_goals
          gi_wp2_with fail
          refine ⟨trivial, CallsIn.inRound l (callsIn_wide.2 ?_)⟩
          refine (HW.out _).mono ?_
          rintro e w1 ⟨rfl, rfl⟩
          gi_wp2_with fail
          refine ⟨trivial, CallsIn.inRound l (callsIn_wide.2 ?_)⟩
          refine HI.out.mono ?_
          rintro e w1 ⟨rfl, rfl⟩
          gi_wp2_with fail
          refine ⟨trivial, CallsIn.inRound l (callsIn_wide.2 ?_)⟩
          refine HPU.out.mono ?_
          rintro e w5 ⟨rfl, v5, hP5, hown5, hpt5⟩
          have q1 : w5.cell? ⟨pb, 1, none⟩ = some (.int .i64 left) := hP5.cell 1
          have q2 : w5.frozen? ⟨pb, 1, none⟩ = false := hP5.frozen 1
          gi_wp2_with fail
          exact Mi.post HL.out hP hown hlw hpt5 hP5 hown5 (by rw [HM.out]; exact HC.out) ⟨by omega, by omega⟩ (by rw [HM.out]; simp at hflen ⊢; omega)
      · have hmin : min left o.qty = o.qty := by omega
        rw [hmin] at hc
        have HC := Lib.hid hc
        have HPU := Lib.hid (put_any hP hown hlw hfl o o.qty false)
        clear hc hmin
        rcases ks with ks | ⟨ks, ks2⟩
        all_goals
          gi_wp2_with fail
          refine ⟨trivial, CallsIn.inRound l (callsIn_wide.2 ?_)⟩
          refine (HW.out _).mono ?_
          rintro e w1 ⟨rfl, rfl⟩
          gi_wp2_with fail
          refine ⟨trivial, CallsIn.inRound l (callsIn_wide.2 ?_)⟩
          refine HI.out.mono ?_
          rintro e w1 ⟨rfl, rfl⟩
          gi_wp2_with fail
          refine ⟨trivial, CallsIn.inRound l (callsIn_wide.2 ?_)⟩
          refine HPU.out.mono ?_
          rintro e w5 ⟨rfl, v5, hP5, hown5, hpt5⟩
          have q1 : w5.cell? ⟨pb, 1, none⟩ = some (.int .i64 left) := hP5.cell 1
          have q2 : w5.frozen? ⟨pb, 1, none⟩ = false := hP5.frozen 1
          gi_wp2_with fail
          exact Mi.post HL.out hP hown hlw hpt5 hP5 hown5 (by rw [HM.out]; exact HC.out) ⟨by omega, by omega⟩ (by rw [HM.out]; simp at hflen ⊢; omega)
    have ks : (t.self == 0) = false ∧ (o.owner != t.owner) = false := ⟨by simpa using fun h => hown2 (.inl h), by simpa using Decidable.not_not.1 fun h => hown2 (.inr h)⟩
    obtain ⟨ks, ks2⟩ := ks
    have HO2 := Lib.hid hown2
    clear hown2
    by_cases hs1 : t.self = 1
    · have hc := hcont.takerGoes h0 hw' HN.out HO2.out hs1
      have HC := Lib.hid hc
      clear hc
      gi_wp2_with fail
      refine ⟨trivial, CallsIn.inRound l (callsIn_wide.2 ?_)⟩
      refine (HW.out _).mono ?_
      rintro e w1 ⟨rfl, rfl⟩
      gi_wp2_with fail
      refine ⟨trivial, CallsIn.inRound l (callsIn_wide.2 ?_)⟩
      refine HI.out.mono ?_
      rintro e w1 ⟨rfl, rfl⟩
      gi_wp2_with fail
      have u2 := Upd.setCell W ⟨pb, 2, none⟩ (.int .i64 3)
      exact ⟨((KeepsOthers.setCell _ _ _).from _).trans (wr3_kf (hRW.upd nrp u2) _ _ _ _), Mx.ret (hRW.upd nrp u2) (hMx HC.out) (owns_upd hown8 hP (by decide) u2) (below_upd hBW (show w.heap.size ≤ pb by omega) u2) (by omega)⟩
    have ks3 : (t.self == 1) = false := by simpa using hs1
    have ks4 : (t.self != 1) = true := by simpa using hs1
    have HPU := Lib.hid (put_any hP hown hlw hfl o o.qty true)
    by_cases hs3 : t.self = 3
    · have hc := hcont.bothGo h0 hw' HN.out HO2.out hs1 hs3
      have HC := Lib.hid hc
      clear hc hs1
      gi_wp2_with fail
      refine ⟨trivial, CallsIn.inRound l (callsIn_wide.2 ?_)⟩
      refine (HW.out _).mono ?_
      rintro e w1 ⟨rfl, rfl⟩
      gi_wp2_with fail
      refine ⟨trivial, CallsIn.inRound l (callsIn_wide.2 ?_)⟩
      refine HI.out.mono ?_
      rintro e w1 ⟨rfl, rfl⟩
      gi_wp2_with fail
      refine ⟨trivial, CallsIn.inRound l (callsIn_wide.2 ?_)⟩
      refine HPU.out.mono ?_
      rintro e w5 ⟨rfl, v5, hP5, hown5, hpt5⟩
      have hR5 : Blk w5 (w.heap.size + 1) 59 #[.slice none 0 0, .int .i64 0, .int .i64 0] := (hpt5.same _ hRW.lt nrp (own_ne hown hRW (by decide))).trans hRW
      obtain ⟨A5, cp5, rfl⟩ := owns_slice hown5
      have hT5 : Blk w5 w.heap.size 104 t.arr := (hpt5.same _ hTW.lt (by omega) (own_ne hown hTW (by decide))).trans hTW
      have t6 : w5.cell? ⟨w.heap.size, 6, none⟩ = some (.int .i64 t.self) := hT5.cell 6
      have p0 : w5.cell? ⟨pb, 0, none⟩ = some (.slice A5 (fs ++ [Fl.mk o.id o.price o.qty true]).length cp5) := hP5.cell 0
      have p1 : w5.cell? ⟨pb, 1, none⟩ = some (.int .i64 left) := hP5.cell 1
      have p2 : w5.cell? ⟨pb, 2, none⟩ = some (.int .i64 1) := hP5.cell 2
      have g2 : w5.frozen? ⟨pb, 2, none⟩ = false := hP5.frozen 2
      have r0 : w5.cell? ⟨w.heap.size + 1, 0, none⟩ = some (.slice none 0 0) := hR5.cell 0
      have r1 : w5.cell? ⟨w.heap.size + 1, 1, none⟩ = some (.int .i64 0) := hR5.cell 1
      have r2 : w5.cell? ⟨w.heap.size + 1, 2, none⟩ = some (.int .i64 0) := hR5.cell 2
      have f0 : w5.frozen? ⟨w.heap.size + 1, 0, none⟩ = false := hR5.frozen 0
      have f1 : w5.frozen? ⟨w.heap.size + 1, 1, none⟩ = false := hR5.frozen 1
      have f2 : w5.frozen? ⟨w.heap.size + 1, 2, none⟩ = false := hR5.frozen 2
      have HF5 := Lib.hid (pt_keeps hP hown hlw hpt5)
      generalize hfs : fs ++ [Fl.mk o.id o.price o.qty true] = fs5 at *
      gi_wp2_with fail
      have u2 := Upd.setCell w5 ⟨pb, 2, none⟩ (.int .i64 3)
      have hb5 : Below w.heap.size w w5 := hBW.trans ⟨hpt5.os, hpt5.tape, hpt5.output, hpt5.size, fun q hq => hpt5.same q (by omega) (by omega) (fun e => by have := owns_base hown q e; omega)⟩
      exact ⟨(HF5.out.2.trans ((KeepsOthers.setCell _ _ _).from _)).trans (wr3_kf (hR5.upd nrp u2) _ _ _ _), Mx.ret (hR5.upd nrp u2) (hMx HC.out) (owns_upd (owns_mono hown5 (by omega)) hP5 (by decide) u2) (below_upd hb5 (show w.heap.size ≤ pb by omega) u2) (by omega)⟩
    have ks5 : (t.self == 3) = false := by simpa using hs3
    have hc := hcont.makerGoes h0 hw' HN.out HO2.out hs1 hs3
    have HC := Lib.hid hc
    clear hc hs1 hs3
    gi_wp2_with fail
    refine ⟨trivial, CallsIn.inRound l (callsIn_wide.2 ?_)⟩
    refine (HW.out _).mono ?_
    rintro e w1 ⟨rfl, rfl⟩
    gi_wp2_with fail
    refine ⟨trivial, CallsIn.inRound l (callsIn_wide.2 ?_)⟩
    refine HI.out.mono ?_
    rintro e w1 ⟨rfl, rfl⟩
    gi_wp2_with fail
    refine ⟨trivial, CallsIn.inRound l (callsIn_wide.2 ?_)⟩
    refine HPU.out.mono ?_
    rintro e w5 ⟨rfl, v5, hP5, hown5, hpt5⟩
    have hT5 : Blk w5 w.heap.size 104 t.arr := (hpt5.same _ hTW.lt (by omega) (own_ne hown hTW (by decide))).trans hTW
    have t6 : w5.cell? ⟨w.heap.size, 6, none⟩ = some (.int .i64 t.self) := hT5.cell 6
    gi_wp2_with fail
    have hk := pt_keeps hP hown hlw hpt5
    exact ⟨hk.2, hk.1, _, left, v5, by rw [HM.out]; exact HC.out, hrng, hP5, hown5, by rw [HM.out]; simp at hflen ⊢; omega, HL.out.trans hk.1⟩
  case done =>
    rintro D ys W hD hys ⟨fs, left, v, M⟩ hK
    have hlow := M.low
    have hall := M.cont.all
    rw [hys] at hall
    have hP := M.P
    have hown : W.ownsRow w.heap.size 54 4 v fs.length (flatF fs) := owns_mono M.own (by omega)
    have hlw := hlow.low.size
    have hRW : Blk W (w.heap.size + 1) 59 #[.slice none 0 0, .int .i64 0, .int .i64 0] := hlow.low_blk hR8 (by simp; omega) (by omega)
    have hBW : Below w.heap.size w W := hB8.trans ⟨hlow.low.os, hlow.low.tape, hlow.low.output, hlow.low.size, fun q hq => hlow.low.block q (by omega) (by simp; omega)⟩
    have hKl : D < W.heap.size := (Array.getElem?_eq_some_iff.1 hK).1
    have r0 : W.cell? ⟨w.heap.size + 1, 0, none⟩ = some (.slice none 0 0) := hRW.cell 0
    have r1 : W.cell? ⟨w.heap.size + 1, 1, none⟩ = some (.int .i64 0) := hRW.cell 1
    have r2 : W.cell? ⟨w.heap.size + 1, 2, none⟩ = some (.int .i64 0) := hRW.cell 2
    have f0 : W.frozen? ⟨w.heap.size + 1, 0, none⟩ = false := hRW.frozen 0
    have f1 : W.frozen? ⟨w.heap.size + 1, 1, none⟩ = false := hRW.frozen 1
    have f2 : W.frozen? ⟨w.heap.size + 1, 2, none⟩ = false := hRW.frozen 2
    have g2 : W.frozen? ⟨pb, 2, none⟩ = false := hP.frozen 2
    have nrp : w.heap.size + 1 ≠ pb := by omega
    obtain ⟨A, cp, rfl⟩ := owns_slice hown
    have p0 : W.cell? ⟨pb, 0, none⟩ = some (.slice A fs.length cp) := hP.cell 0
    have p1 : W.cell? ⟨pb, 1, none⟩ = some (.int .i64 left) := hP.cell 1
    have p2 : W.cell? ⟨pb, 2, none⟩ = some (.int .i64 1) := hP.cell 2
    clear hseq hok M hlow
    by_cases h0 : left = 0
    · subst h0
      rw [if_pos rfl] at hall
      have HA := Lib.hid hall
      clear hall
      go_wp2_with fail
      have u2 := Upd.setCell W ⟨pb, 2, none⟩ (.int .i64 0)
      exact mk_fin rfl rfl (by rfl) HA.out (wr3_own (hRW.upd nrp u2) (owns_upd hown hP (by decide) u2) _ _ _) (wr3_below (below_upd hBW (show w.heap.size ≤ pb by omega) u2) (by omega) _ _ _) (wr3_blk (hRW.upd nrp u2) _ _ _) ((wr3_at (by omega) _ _ _).trans ((u2.block D (by show D ≠ pb; omega)).trans hK)) (by omega) (by omega)
    · rw [if_neg h0] at hall
      have k0 : (left == 0) = false := by simpa using h0
      have HA := Lib.hid hall
      clear hall
      go_wp2_with fail
      exact mk_fin rfl rfl (by rfl) HA.out (wr3_own hRW hown _ _ _) (wr3_below hBW (by omega) _ _ _) (wr3_blk hRW _ _ _) ((wr3_at (by omega) _ _ _).trans hK) (by omega) (by omega)
  case stop =>
    rintro D cd pre W hD hp ⟨fs, left, stop, v, h1, hown, hBW, h4⟩ hK
    rcases h4 with ⟨rfl, hR⟩ | ⟨rfl, rfl, rfl, hP, hRW⟩
    · have hKl : D < W.heap.size := (Array.getElem?_eq_some_iff.1 hK).1
      clear hseq hok
      go_wp2_with fail
      exact mk_fin rfl rfl (by rfl) (mx_all h1 hp) hown hBW hR hK (by omega) (by omega)
    · have p1 : W.cell? ⟨pb, 1, none⟩ = some (.int .i64 0) := hP.cell 1
      have p2 : W.cell? ⟨pb, 2, none⟩ = some (.int .i64 1) := hP.cell 2
      have hKl : D < W.heap.size := (Array.getElem?_eq_some_iff.1 hK).1
      have r0 : W.cell? ⟨w.heap.size + 1, 0, none⟩ = some (.slice none 0 0) := hRW.cell 0
      have r1 : W.cell? ⟨w.heap.size + 1, 1, none⟩ = some (.int .i64 0) := hRW.cell 1
      have r2 : W.cell? ⟨w.heap.size + 1, 2, none⟩ = some (.int .i64 0) := hRW.cell 2
      have f0 : W.frozen? ⟨w.heap.size + 1, 0, none⟩ = false := hRW.frozen 0
      have f1 : W.frozen? ⟨w.heap.size + 1, 1, none⟩ = false := hRW.frozen 1
      have f2 : W.frozen? ⟨w.heap.size + 1, 2, none⟩ = false := hRW.frozen 2
      have g2 : W.frozen? ⟨pb, 2, none⟩ = false := hP.frozen 2
      have nrp : w.heap.size + 1 ≠ pb := by omega
      obtain ⟨A, cp, rfl⟩ := owns_slice hown
      have p0 : W.cell? ⟨pb, 0, none⟩ = some (.slice A fs.length cp) := hP.cell 0
      have H1 := Lib.hid h1
      clear hseq hok h1
      go_wp2_with fail
      have u2 := Upd.setCell W ⟨pb, 2, none⟩ (.int .i64 0)
      exact mk_fin rfl rfl (by rfl) (mx_all H1.out hp) (wr3_own (hRW.upd nrp u2) (owns_upd hown hP (by decide) u2) _ _ _) (wr3_below (below_upd hBW (show w.heap.size ≤ pb by omega) u2) (by omega) _ _ _) (wr3_blk (hRW.upd nrp u2) _ _ _) ((wr3_at (by omega) _ _ _).trans ((u2.block D (by show D ≠ pb; omega)).trans hK)) (by omega) (by omega)
end
end Sw
end Go.Proofs.YtbnappiaomiciaaGreat
