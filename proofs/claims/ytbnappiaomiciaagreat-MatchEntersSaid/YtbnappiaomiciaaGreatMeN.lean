/- This text proves that results and plans that are alike are called the same: damperref14.Same, damperref15.Same. It has no conditions but those that it states. This text proves that the statements turn the program's plans and results into the document's as they are: damperlaw14.Back, damperlaw15.Back. It has no conditions but those that it states. This text proves that damperlaw14.Like says yes of a book and the document's book that hold the same orders. It has no conditions but those that it states. This text proves what comes of an order where there is no book, and a bound on what Enter leaves. It has no conditions but those that it states. -/
import Derived.Test.YtbnappiaomiciaaGreatMeE
namespace Go.Proofs.YtbnappiaomiciaaGreat
set_option linter.unusedVariables false
open Go.RowKit
namespace Mr
set_option maxHeartbeats 8000000
set_option maxRecDepth 10000
open Sw (Fl)
open Ma (resArr)
theorem guardFl : Tryz.prog.eqGuardType Tryz.prog.depth 160 = false := by kernel_rfl
theorem eqFl (f : Fl) (w : World) : (Op.equalIn 10000 160 (.agg f.arr) (.agg f.arr)).run Tryz.prog w = .ok true w := by
  have u2 := Tryz.underlying2
  have a2 := Tryz.isAgg2
  have z2 := Tryz.sizeOf2
  have u4 := Tryz.underlying4
  have a4 := Tryz.isAgg4
  have z4 := Tryz.sizeOf4
  have hS : Tryz.prog.underlying 160 = some (.struct (Tryz.prog.fieldsOf 160)) := by kernel_rfl
  have hp : Tryz.prog.stoodInHeld 160 = false := by kernel_rfl
  rw [show (10000 : Nat) = 9999 + 1 from rfl, run_equalIn_agg w 9999 160 _ _ hS hp]
  simp only [Program.fieldsOf, Tryz.underlying160]
  unfold Fl.arr Fl.cells
  go_simp
theorem q_ne_fl {ops : Array Oper} {C : World → Prop} {Q : Act → Prop} {a : Act} {o : Oper} {rest : List Oper} (hgd : Region.wanted o (yielded ops a.tmps) = true) (x y : Operand) (u : TypeId) (ho : o.op = .binOp .neq 160 x y u)
    (p : Fl) (hx : a.eval x = .agg p.cells.toArray) (hy : a.eval y = .agg p.cells.toArray) (h : wpQuiet Tryz.prog ops C Q rest (a.put o.dst (.bool false))) : wpQuiet Tryz.prog ops C Q (o :: rest) a :=
  q_step hgd _ (fun w _ => by
    unfold Oper.quietAt execOp
    simp only [ho, hx, hy, Sem.run_bind, run_eqGuard_agg _ _ _ _ _ _ _ guardFl, Result.andThen_ok, run_neq_struct]
    rw [show (Op.equalIn 10000 160 (.agg p.cells.toArray) (.agg p.cells.toArray)).run Tryz.prog w = .ok true w from eqFl p w]
    exact ⟨rfl, rfl⟩) h
/-- The fills of two plans are the same. -/
theorem rsame4_any {w : World} {fs : List Fl} {A A' : Option Addr} {cap cap' : Nat} (h1 : Rd w 4 A (fs.map Fl.cells)) (h2 : Rd w 4 A' (fs.map Fl.cells)) (hl : fs.length ≤ 1000) (left stop : Int) :
    Calls Tryz.prog 43 #[.agg #[.slice A fs.length cap, .int .i64 left, .int .i64 stop], .agg #[.slice A' fs.length cap', .int .i64 left, .int .i64 stop]] w fun x w' => x = .returned (.bool true) ∧ Below w.heap.size w w' := by
  have hP0 : Blk ((w.alloc (.cells #[.slice A fs.length cap, .int .i64 left, .int .i64 stop] 93)).alloc (.cells #[.slice A' fs.length cap', .int .i64 left, .int .i64 stop] 93)) w.heap.size 93 #[.slice A fs.length cap, .int .i64 left, .int .i64 stop] := (Blk.new w _ _ _ rfl).alloc _
  have hR0 : Blk ((w.alloc (.cells #[.slice A fs.length cap, .int .i64 left, .int .i64 stop] 93)).alloc (.cells #[.slice A' fs.length cap', .int .i64 left, .int .i64 stop] 93)) (w.heap.size + 1) 93 #[.slice A' fs.length cap', .int .i64 left, .int .i64 stop] := Blk.new _ _ _ _ (sz_alloc _ _)
  have hb0 : Below w.heap.size w ((w.alloc (.cells #[.slice A fs.length cap, .int .i64 left, .int .i64 stop] 93)).alloc (.cells #[.slice A' fs.length cap', .int .i64 left, .int .i64 stop] 93)) := by (repeat (first | with_reducible exact Below.refl _ _ | (with_reducible assumption) | (with_reducible refine below_alloc ?_ _) | (with_reducible refine below_ext (w1 := ?_) ?_ ?_; rotate_left 2; (with_reducible assumption)) | (with_reducible refine Below.setCell ?_ ?_ _; rotate_left; ((try simp) <;> omega)) | (with_reducible refine Below.drew ?_) | (with_reducible refine below_drewN ?_ _) | fail))
  go_enter Tryz.func43, Tryz.ntmps43
  go_upto_region 1 with fail
  generalize ((w.alloc (.cells #[.slice A fs.length cap, .int .i64 left, .int .i64 stop] 93)).alloc (.cells #[.slice A' fs.length cap', .int .i64 left, .int .i64 stop] 93)) = w0 at *
  have a0 : w0.cell? ⟨w.heap.size, 0, none⟩ = some (.slice A fs.length cap) := hP0.cell 0
  have a1 : w0.cell? ⟨w.heap.size, 1, none⟩ = some (.int .i64 left) := hP0.cell 1
  have a2 : w0.cell? ⟨w.heap.size, 2, none⟩ = some (.int .i64 stop) := hP0.cell 2
  have b0 : w0.cell? ⟨w.heap.size + 1, 0, none⟩ = some (.slice A' fs.length cap') := hR0.cell 0
  have b1 : w0.cell? ⟨w.heap.size + 1, 1, none⟩ = some (.int .i64 left) := hR0.cell 1
  have b2 : w0.cell? ⟨w.heap.size + 1, 2, none⟩ = some (.int .i64 stop) := hR0.cell 2
  have k1 : (left != left) = false := by simp
  have k2 : (stop != stop) = false := by simp
  have HH := Lib.hid (And.intro (h1.below hb0) (And.intro (h2.below hb0) (And.intro hP0 (And.intro hR0 hb0))))
  clear h1 h2 hP0 hR0 hb0
  go_wp2_with fail
  go_loopw [5] (fun iv wr => ∃ i : Nat, iv = .int .i64 i ∧ i ≤ fs.length ∧ Hid (Below w0.heap.size w0 wr)) (fun iv _ => fs.length - (intOf iv).toNat)
  case atStart => exact ⟨0, rfl, Nat.zero_le _, Lib.hid (Below.refl _ _)⟩
  case round =>
    obtain ⟨i, rfl, hi, HB⟩ := hrel
    have a0r : wr.cell? ⟨w.heap.size, 0, none⟩ = some (.slice A fs.length cap) := (HB.out.cell (p := ⟨w.heap.size, 0, none⟩) HH.out.2.2.1.lt).trans a0
    have b0r : wr.cell? ⟨w.heap.size + 1, 0, none⟩ = some (.slice A' fs.length cap') := (HB.out.cell (p := ⟨w.heap.size + 1, 0, none⟩) HH.out.2.2.2.1.lt).trans b0
    clear a0 a1 a2 b0 b1 b2
    by_cases hlt : i < fs.length
    · have e1 : (i : Int) < (fs.length : Int) := by omega
      have HLT := Lib.hid hlt
      obtain ⟨ab, ao, rfl, hm1⟩ := Bk.rd_rngB (HH.out.1.below HB.out) HLT.out
      obtain ⟨ab', ao', rfl, hm2⟩ := Bk.rd_rngB (HH.out.2.1.below HB.out) HLT.out
      obtain ⟨x, hx⟩ : ∃ x, x = fs[i]'HLT.out := ⟨_, rfl⟩
      replace hm1 : wr.rangeAt ab (ao + i * 4) x.cells := by rw [hx]; exact hm1
      replace hm2 : wr.rangeAt ab' (ao' + i * 4) x.cells := by rw [hx]; exact hm2
      have l1 : w.heap.size < wr.heap.size := cell_lt a0r
      have l2 : w.heap.size + 1 < wr.heap.size := cell_lt b0r
      clear hx hlt
      go_wp2_with fail
      refine wp_region_below_lit (by kernel_rfl) (by kernel_rfl) ?_
      repeat (first | go_big_quiet_skip | (go_big_quiet_want; go_big_quiet_op; go_big_quiet_on) | (refine q_load_mid (by rfl) _ _ (by rfl) (fun _ h => h) _ _ (by rfl) _ _ hm1 Tryz.underlying160 rfl (by kernel_rfl) ?_; (try simp only [Act.put, List.setIfInBounds_toArray, List.set_cons_zero, List.set_cons_succ])) | (refine q_load_mid (by rfl) _ _ (by rfl) (fun _ h => h) _ _ (by rfl) _ _ hm2 Tryz.underlying160 rfl (by kernel_rfl) ?_; (try simp only [Act.put, List.setIfInBounds_toArray, List.set_cons_zero, List.set_cons_succ])) | (refine Mr.q_ne_fl (by rfl) _ _ _ (by rfl) _ (by rfl) (by rfl) ?_; (try simp only [Act.put, List.setIfInBounds_toArray, List.set_cons_zero, List.set_cons_succ])) | (refine q_load_fld (by rfl) _ _ (by rfl) (fun _ h => h) _ _ (by rfl) ?_ ?_ ?_ ?_ ?_ ?_; rotate_left; (next => (repeat (first | (with_reducible refine BlkAt.new _ _ _ _ ?_; ((try simp) <;> omega)) | (with_reducible assumption) | (with_reducible refine Blk.at (t := ?_) ?_; rotate_left; with_reducible assumption) | with_reducible refine BlkAt.alloc ?_ _ | with_reducible refine BlkAt.drew ?_ | (with_reducible refine BlkAt.setSame ?_ _ _) | (with_reducible refine BlkAt.setCell ?_ ?_ _; rotate_left; ((try simp) <;> omega)) | (with_reducible refine BlkAt.ext (w := ?_) ?_ ?_; rotate_left 2; (with_reducible assumption)) | fail))); rotate_left; (next => first | (simp only [go_sem]; rfl) | rfl); (next => kernel_rfl); (try simp only [Act.put, List.setIfInBounds_toArray, List.set_cons_zero, List.set_cons_succ])) | (refine q_rem (by rfl) _ _ _ _ (by rfl) _ _ (by rfl) (by rfl) (by kernel_rfl) (by kernel_rfl) ?_ ?_; (next => omega); (try simp only [Act.put, List.setIfInBounds_toArray, List.set_cons_zero, List.set_cons_succ])) | (refine q_step_ex (by rfl) ?_; apply Exists.intro; refine ⟨fun W hW => ?_, ?_⟩; (next => (have hWc := fun (b o : Nat) (h : b < _) => (Ext.out hW).cell (p := ⟨b, o, none⟩) h); (try have hLK := HLK.out W (Ext.out hW)); go_simp; first | rfl | fail); (try simp only [Act.put, List.setIfInBounds_toArray, List.set_cons_zero, List.set_cons_succ])) | fail)
      refine wpQuiet_nil ?_
      intro w8 hb8
      go_wp2_with fail
      go_roundw
      case rel => exact ⟨i + 1, by go_num, HLT.out, Lib.hid (below_ext HB.out hb8)⟩
      case measure => (have := HLT.out; simp [intOf]; omega)
    · obtain rfl : i = fs.length := by omega
      clear hlt
      go_wp2_with fail
      go_ret
      exact ⟨rfl, below_ext HH.out.2.2.2.2 HB.out⟩
theorem built_rp0 (A : Option Addr) (n c : Nat) : Tryz.prog.built 93 [(0, .slice A n c)] = some #[.slice A n c, .int .i64 0, .int .i64 0] := by kernel_rfl
theorem wpList_eq_same {ops : Array Oper} {rest : List Oper} {o : Oper} {a : Act} {w : World} {Q : Exit → Act → World → Prop} (hgd : Region.wanted o (yielded ops a.tmps) = true) (x y : Operand) (u : TypeId) (ho : o.op = .binOp .eql 30 x y u)
    (p : Ord) (hx : a.eval x = .agg p.cells.toArray) (hy : a.eval y = .agg p.cells.toArray) (h : wpList Tryz.prog ops Q rest (a.put o.dst (.bool true)) w) : wpList Tryz.prog ops Q (o :: rest) a w :=
  wpList_eq_ord hgd x y u ho p p hx hy (by rw [ordEq_refl]; exact h)
theorem rng_res {w : World} {g : Nat} {t : TypeId} {f gn y : Int} {v : Value} {o : Ord} (h : Blk w g t (resArr f v o gn y)) : w.rangeAt g 2 o.cells := fun j v hv => by
  rw [h.cell]
  have hj : j < 7 := (List.getElem?_eq_some_iff.1 hv).1
  match j, hj, hv with
  | 0, _, hv | 1, _, hv | 2, _, hv | 3, _, hv | 4, _, hv | 5, _, hv | 6, _, hv => exact hv
theorem rsame5_any {w : World} {fs : List Fl} {A A' : Option Addr} {cap cap' : Nat} (h1 : Rd w 4 A (fs.map Fl.cells)) (h2 : Rd w 4 A' (fs.map Fl.cells)) (hl : fs.length ≤ 1000) (f : Int) (o : Ord) (gn y : Int) :
    Calls Tryz.prog 11 #[.agg (resArr f (.slice A fs.length cap) o gn y), .agg (resArr f (.slice A' fs.length cap') o gn y)] w fun x w' => x = .returned (.bool true) ∧ Below w.heap.size w w' := by
  have hP0 : Blk ((w.alloc (.cells (resArr f (.slice A fs.length cap) o gn y) 48)).alloc (.cells (resArr f (.slice A' fs.length cap') o gn y) 48)) w.heap.size 48 (resArr f (.slice A fs.length cap) o gn y) := (Blk.new w _ _ _ rfl).alloc _
  have hR0 : Blk ((w.alloc (.cells (resArr f (.slice A fs.length cap) o gn y) 48)).alloc (.cells (resArr f (.slice A' fs.length cap') o gn y) 48)) (w.heap.size + 1) 48 (resArr f (.slice A' fs.length cap') o gn y) := Blk.new _ _ _ _ (sz_alloc _ _)
  have hb0 : Below w.heap.size w ((w.alloc (.cells (resArr f (.slice A fs.length cap) o gn y) 48)).alloc (.cells (resArr f (.slice A' fs.length cap') o gn y) 48)) := by (repeat (first | with_reducible exact Below.refl _ _ | (with_reducible assumption) | (with_reducible refine below_alloc ?_ _) | (with_reducible refine below_ext (w1 := ?_) ?_ ?_; rotate_left 2; (with_reducible assumption)) | (with_reducible refine Below.setCell ?_ ?_ _; rotate_left; ((try simp) <;> omega)) | (with_reducible refine Below.drew ?_) | (with_reducible refine below_drewN ?_ _) | fail))
  go_enter Tryz.func11, Tryz.ntmps11
  go_upto_region 1 with fail
  generalize ((w.alloc (.cells (resArr f (.slice A fs.length cap) o gn y) 48)).alloc (.cells (resArr f (.slice A' fs.length cap') o gn y) 48)) = w0 at *
  have HS := Lib.hid (rsame4_any (h1.below hb0) (h2.below hb0) hl (cap := cap) (cap' := cap') 0 0)
  have a0 : w0.cell? ⟨w.heap.size, 0, none⟩ = some (.int .i64 f) := hP0.cell 0
  have a1 : w0.cell? ⟨w.heap.size, 1, none⟩ = some (.slice A fs.length cap) := hP0.cell 1
  have b0 : w0.cell? ⟨w.heap.size + 1, 0, none⟩ = some (.int .i64 f) := hR0.cell 0
  have b1 : w0.cell? ⟨w.heap.size + 1, 1, none⟩ = some (.slice A' fs.length cap') := hR0.cell 1
  have kf : (f == f) = true := by simp
  have kg : (gn == gn) = true := by simp
  have ky : (y == y) = true := by simp
  have HH := Lib.hid (And.intro hP0 (And.intro hR0 hb0))
  clear h1 h2 hP0 hR0 hb0
  go_wp2_with (first | ((with_reducible show wpList _ _ _ (⟨_, .build _ _, _, _, _, _⟩ :: _) _ _); refine wpList_build_is (by rfl) _ _ (by rfl) ?_ ?_ ?_; rotate_left; (next => simp only [List.map_toArray, List.map_cons, List.map_nil, go_sem]; exact built_rp0 ..)) | (go_at_call 43; refine HS.out.mono ?_; rintro x w2 ⟨rfl, hb2⟩; have hP2 := HH.out.1.ext hb2; have hR2 := HH.out.2.1.ext hb2; have a9 : w2.cell? ⟨w.heap.size, 9, none⟩ = some (.int .i64 gn) := hP2.cell 9; have a10 : w2.cell? ⟨w.heap.size, 10, none⟩ = some (.int .i64 y) := hP2.cell 10; have b9 : w2.cell? ⟨w.heap.size + 1, 9, none⟩ = some (.int .i64 gn) := hR2.cell 9; have b10 : w2.cell? ⟨w.heap.size + 1, 10, none⟩ = some (.int .i64 y) := hR2.cell 10; have hm1 := rng_res hP2; have hm2 := rng_res hR2; clear hP2 hR2) | ((with_reducible show wpList _ _ _ (⟨_, .load 30 _, _, _, _, _⟩ :: _) _ _); refine wpList_load_midw (by rfl) _ _ (by rfl) _ _ (by rfl) _ _ hm1 Tryz.underlying30 rfl (by kernel_rfl) ?_) | ((with_reducible show wpList _ _ _ (⟨_, .load 30 _, _, _, _, _⟩ :: _) _ _); refine wpList_load_midw (by rfl) _ _ (by rfl) _ _ (by rfl) _ _ hm2 Tryz.underlying30 rfl (by kernel_rfl) ?_) | ((with_reducible show wpList _ _ _ (⟨_, .binOp .eql 30 _ _ _, _, _, _, _⟩ :: _) _ _); refine wpList_eq_same (by rfl) _ _ _ (by rfl) o (by rfl) (by rfl) ?_) | fail)
  go_ret
  exact ⟨rfl, below_ext HH.out.2.2 hb2⟩
end Mr
end Go.Proofs.YtbnappiaomiciaaGreat
namespace Go.Proofs.YtbnappiaomiciaaGreat
set_option linter.unusedVariables false
open Go.RowKit
namespace Mr
set_option maxHeartbeats 8000000
set_option maxRecDepth 10000
open Sw (Fl flatF flatF_snoc fl_ok)
open Ma (resArr res_one)
structure Kh (w W : World) (tb rbk pb B : Nat) (A : Option Addr) (n cap : Nat) (rows : List (List Value)) (v : Value) (left stop : Int) : Prop where
  T : Blk W tb 59 #[.slice A n cap, .int .i64 left, .int .i64 stop]
  R : Blk W rbk 93 #[.slice none 0 0, .int .i64 0, .int .i64 0]
  P : Blk W pb 93 #[v, .int .i64 left, .int .i64 stop]
  rd : Rd W 4 A rows
  below : Below w.heap.size w W
  far : ∀ a, A = some a → a.block < B ∧ a.block ≠ pb
  ord : w.heap.size ≤ rbk ∧ w.heap.size ≤ pb ∧ tb < B ∧ rbk < B ∧ pb < B ∧ tb ≠ pb ∧ rbk ≠ pb ∧ w.heap.size ≤ B
  lt : B ≤ W.heap.size
section
variable {w W W' W1 : World} {tb rbk pb B : Nat} {A : Option Addr} {n cap : Nat} {rows : List (List Value)} {v v' : Value} {left stop : Int}
theorem Kh.keep (h : Kh w W tb rbk pb B A n cap rows v left stop) (hk : ∀ q, q < B → W'.heap[q]? = W.heap[q]?) (hb : Below w.heap.size w W') (hz : W.heap.size ≤ W'.heap.size) : Kh w W' tb rbk pb B A n cap rows v left stop :=
  ⟨(hk _ h.ord.2.2.1).trans h.T, (hk _ h.ord.2.2.2.1).trans h.R, (hk _ h.ord.2.2.2.2.1).trans h.P, h.rd.keep (fun a e => hk _ (h.far a e).1), hb, h.far, h.ord, Nat.le_trans h.lt hz⟩
theorem Kh.ext (h : Kh w W tb rbk pb B A n cap rows v left stop) (hb : Below W.heap.size W W') : Kh w W' tb rbk pb B A n cap rows v left stop :=
  h.keep (fun q hq => hb.block q (Nat.lt_of_lt_of_le hq h.lt)) (below_ext h.below hb) hb.size
theorem Kh.upd (h : Kh w W tb rbk pb B A n cap rows v left stop) (u : Upd pb W W') (P : Blk W' pb 93 #[v', .int .i64 left, .int .i64 stop]) : Kh w W' tb rbk pb B A n cap rows v' left stop :=
  ⟨h.T.upd h.ord.2.2.2.2.2.1 u, h.R.upd h.ord.2.2.2.2.2.2.1 u, P, h.rd.keep (fun a e => u.block _ (h.far a e).2), below_upd h.below h.ord.2.1 u, h.far, h.ord, by rw [u.size]; exact h.lt⟩
theorem Kh.app (h : Kh w W tb rbk pb B A n cap rows v left stop) (h1 : Below W.heap.size W W1) (h2 : Below B W1 W') : Kh w W' tb rbk pb B A n cap rows v left stop :=
  h.keep (fun q hq => (h2.block q hq).trans (h1.block q (Nat.lt_of_lt_of_le hq h.lt))) ((below_ext h.below h1).trans (h2.mono h.ord.2.2.2.2.2.2.2)) (Nat.le_trans h1.size h2.size)
end
def SK (pb tb ab ao i n cap : Nat) (x : Fl) (v : Value) (W : World) : Prop := W.cell? ⟨pb, 0, none⟩ = some v ∧ (W.cell? ⟨tb, 0, none⟩ = some (.slice (some ⟨ab, ao, none⟩) n cap) ∧ W.cell? ⟨ab, ao + i * 4, none⟩ = some (.int .i64 x.id) ∧ W.cell? ⟨ab, ao + i * 4 + 1, none⟩ = some (.int .i64 x.price) ∧ W.cell? ⟨ab, ao + i * 4 + 2, none⟩ = some (.int .i64 x.qty) ∧ W.cell? ⟨ab, ao + i * 4 + 3, none⟩ = some (.bool x.gone))
theorem back4_any {w : World} {fs : List Fl} {A : Option Addr} {cap : Nat} (hrd : Rd w 4 A (fs.map Fl.cells)) (hA : ∀ a, A = some a → a.block < w.heap.size) (hl : fs.length ≤ 1000) (left stop : Int) :
    Calls Tryz.prog 44 #[.agg #[.slice A fs.length cap, .int .i64 left, .int .i64 stop]] w (RmPost w (fs, left, stop)) := by
  have hT0 : Blk (((w.alloc (.cells #[.slice A fs.length cap, .int .i64 left, .int .i64 stop] 59)).alloc (.cells #[.slice none 0 0, .int .i64 0, .int .i64 0] 93)).alloc (.cells #[.slice none 0 0, .int .i64 left, .int .i64 stop] 93)) w.heap.size 59 #[.slice A fs.length cap, .int .i64 left, .int .i64 stop] := ((Blk.new w _ _ _ rfl).alloc _).alloc _
  have hR0 : Blk (((w.alloc (.cells #[.slice A fs.length cap, .int .i64 left, .int .i64 stop] 59)).alloc (.cells #[.slice none 0 0, .int .i64 0, .int .i64 0] 93)).alloc (.cells #[.slice none 0 0, .int .i64 left, .int .i64 stop] 93)) (w.heap.size + 1) 93 #[.slice none 0 0, .int .i64 0, .int .i64 0] := (Blk.new _ _ _ _ (sz_alloc _ _)).alloc _
  have hP0 : Blk (((w.alloc (.cells #[.slice A fs.length cap, .int .i64 left, .int .i64 stop] 59)).alloc (.cells #[.slice none 0 0, .int .i64 0, .int .i64 0] 93)).alloc (.cells #[.slice none 0 0, .int .i64 left, .int .i64 stop] 93)) (w.heap.size + 1 + 1) 93 #[.slice none 0 0, .int .i64 left, .int .i64 stop] := Blk.new _ _ _ _ (by simp only [sz_alloc])
  have hb0 : Below w.heap.size w (((w.alloc (.cells #[.slice A fs.length cap, .int .i64 left, .int .i64 stop] 59)).alloc (.cells #[.slice none 0 0, .int .i64 0, .int .i64 0] 93)).alloc (.cells #[.slice none 0 0, .int .i64 left, .int .i64 stop] 93)) := by (repeat (first | with_reducible exact Below.refl _ _ | (with_reducible assumption) | (with_reducible refine below_alloc ?_ _) | (with_reducible refine below_ext (w1 := ?_) ?_ ?_; rotate_left 2; (with_reducible assumption)) | (with_reducible refine Below.setCell ?_ ?_ _; rotate_left; ((try simp) <;> omega)) | (with_reducible refine Below.drew ?_) | (with_reducible refine below_drewN ?_ _) | fail))
  have hz0 : (((w.alloc (.cells #[.slice A fs.length cap, .int .i64 left, .int .i64 stop] 59)).alloc (.cells #[.slice none 0 0, .int .i64 0, .int .i64 0] 93)).alloc (.cells #[.slice none 0 0, .int .i64 left, .int .i64 stop] 93)).heap.size = w.heap.size + 1 + 1 + 1 := by simp only [sz_alloc]
  go_enter Tryz.func44, Tryz.ntmps44
  go_upto_region 2 with fail
  generalize (((w.alloc (.cells #[.slice A fs.length cap, .int .i64 left, .int .i64 stop] 59)).alloc (.cells #[.slice none 0 0, .int .i64 0, .int .i64 0] 93)).alloc (.cells #[.slice none 0 0, .int .i64 left, .int .i64 stop] 93)) = w0 at *
  have K0 : Kh w w0 w.heap.size (w.heap.size + 1) (w.heap.size + 1 + 1) w0.heap.size A fs.length cap (fs.map Fl.cells) (.slice none 0 0) left stop :=
    ⟨hT0, hR0, hP0, hrd.below hb0, hb0, fun a e => by have := hA a e; omega, by omega, Nat.le_refl _⟩
  have HK0 := Lib.hid K0
  clear hT0 hR0 hP0 hb0 hrd hA K0
  obtain ⟨B, hB⟩ : ∃ B, B = w0.heap.size := ⟨_, rfl⟩
  rw [← hB] at HK0
  obtain ⟨tb, htb⟩ : ∃ x, x = w.heap.size := ⟨_, rfl⟩
  obtain ⟨rbk, hrbk⟩ : ∃ x, x = w.heap.size + 1 := ⟨_, rfl⟩
  obtain ⟨pb, hpb⟩ : ∃ x, x = w.heap.size + 1 + 1 := ⟨_, rfl⟩
  rw [← hpb, ← hrbk, ← htb] at HK0
  rw [← hpb, ← hrbk, ← htb]
  clear hB htb hrbk hpb hz0
  go_wp2_with fail
  go_loopw [4] (fun iv wr => ∃ (i : Nat) (v : Value), iv = .int .i64 i ∧ i ≤ fs.length ∧ Hid (Kh w wr tb rbk pb B A fs.length cap (fs.map Fl.cells) v left stop ∧ wr.ownsRow B 160 4 v (fs.take i).length (flatF (fs.take i)))) (fun iv _ => fs.length - (intOf iv).toNat)
  case atStart => exact ⟨0, _, rfl, Nat.zero_le _, Lib.hid ⟨HK0.out, World.ownsRow_nil _ _ _ _⟩⟩
  case round =>
    obtain ⟨i, v, rfl, hi, HK⟩ := hrel
    clear HK0
    have t0 : wr.cell? ⟨tb, 0, none⟩ = some (.slice A fs.length cap) := HK.out.1.T.cell 0
    by_cases hlt : i < fs.length
    · have e1 : (i : Int) < (fs.length : Int) := by omega
      have HLT := Lib.hid hlt
      obtain ⟨ab, ao, rfl, hm⟩ := Bk.rd_rngB HK.out.1.rd HLT.out
      obtain ⟨x, hx⟩ : ∃ x, x = fs[i]'HLT.out := ⟨_, rfl⟩
      replace hm : wr.rangeAt ab (ao + i * 4) x.cells := by rw [hx]; exact hm
      have HX : Hid (fs.take (i + 1) = fs.take i ++ [x]) := Lib.hid (by rw [hx]; exact List.take_succ_eq_append_getElem HLT.out)
      have hln : (fs.take i).length ≤ 1000 := by simp; omega
      clear hx hlt
      go_wp2_with fail
      refine wp_region_T (S := SK pb tb ab ao i fs.length cap x v) 30 (by kernel_rfl) ?_
      have hbd : Below wr.heap.size wr wr.drew := (Below.refl _ _).drew
      have K1 := HK.out.1.ext hbd
      have own1 := owns_ext HK.out.2 hbd
      have hm1 : wr.drew.rangeAt ab (ao + i * 4) x.cells := fun j v hv => (hbd.cell (cell_lt (hm j v hv))).trans (hm j v hv)
      generalize wr.drew = w1 at *
      have HS : Hid (∀ W, Below w1.heap.size w1 W → SK pb tb ab ao i fs.length cap x v W) := Lib.hid (fun W hW => ⟨(K1.P.ext hW).cell 0, (K1.T.ext hW).cell 0, (hW.cell (cell_lt (hm1 0 _ rfl))).trans (hm1 0 _ rfl), (hW.cell (cell_lt (hm1 1 _ rfl))).trans (hm1 1 _ rfl), (hW.cell (cell_lt (hm1 2 _ rfl))).trans (hm1 2 _ rfl), (hW.cell (cell_lt (hm1 3 _ rfl))).trans (hm1 3 _ rfl)⟩)
      have HK1 := Lib.hid (And.intro K1 own1)
      have hS := HS.out _ (Below.refl _ _)
      have hB1 : B ≤ w1.heap.size := K1.lt
      have HM := Lib.hid hm1
      have hab : ab < B := (K1.far _ rfl).1
      clear K1 own1 hm1 hbd t0 hm HK
      (refine T_take (i := 0) rfl (by kernel_rfl) (fun _ _ _ _ h => h) hS ?_; apply Exists.intro; refine ⟨.inl ⟨by rfl, fun W hW => ?_⟩, ?_⟩; (next => (obtain ⟨hs1, hs2⟩ := hW; go_simp; first | done | rfl)); simp only [Act.put, List.setIfInBounds_toArray, List.set_cons_zero, List.set_cons_succ])
      (refine T_take (i := 1) rfl (by kernel_rfl) (fun _ _ _ _ h => h) hS ?_; apply Exists.intro; refine ⟨.inl ⟨by rfl, fun W hW => ?_⟩, ?_⟩; (next => (obtain ⟨hs1, hs2⟩ := hW; go_simp; first | done | rfl)); simp only [Act.put, List.setIfInBounds_toArray, List.set_cons_zero, List.set_cons_succ])
      (refine T_take (i := 2) rfl (by kernel_rfl) (fun _ _ _ _ h => h) hS ?_; apply Exists.intro; refine ⟨.inl ⟨by rfl, fun W hW => ?_⟩, ?_⟩; (next => (obtain ⟨hs1, hs2⟩ := hW; go_simp; first | done | rfl)); simp only [Act.put, List.setIfInBounds_toArray, List.set_cons_zero, List.set_cons_succ])
      (refine T_take (i := 3) rfl (by kernel_rfl) (fun _ _ _ _ h => h) hS ?_; apply Exists.intro; refine ⟨.inl ⟨by rfl, fun W hW => ?_⟩, ?_⟩; (next => (obtain ⟨hs1, hs2⟩ := hW; go_simp; first | done | rfl)); simp only [Act.put, List.setIfInBounds_toArray, List.set_cons_zero, List.set_cons_succ])
      (refine T_take (i := 4) rfl (by kernel_rfl) (fun _ _ _ _ h => h) hS ?_; apply Exists.intro; refine ⟨.inl ⟨by rfl, fun W hW => ?_⟩, ?_⟩; (next => (obtain ⟨hs1, hs2⟩ := hW; go_simp; first | done | rfl)); simp only [Act.put, List.setIfInBounds_toArray, List.set_cons_zero, List.set_cons_succ])
      (refine T_take (i := 5) rfl (by kernel_rfl) (fun _ _ _ _ h => h) hS ?_; apply Exists.intro; refine ⟨.inl ⟨by rfl, fun W hW => ?_⟩, ?_⟩; (next => (obtain ⟨hs1, hs2⟩ := hW; go_simp; first | done | rfl)); simp only [Act.put, List.setIfInBounds_toArray, List.set_cons_zero, List.set_cons_succ])
      (refine T_take (i := 6) rfl (by kernel_rfl) (fun _ _ _ _ h => h) hS ?_; apply Exists.intro; refine ⟨.inl ⟨by rfl, fun W hW => ?_⟩, ?_⟩; (next => (obtain ⟨hs1, hs2⟩ := hW; go_simp; first | done | rfl)); simp only [Act.put, List.setIfInBounds_toArray, List.set_cons_zero, List.set_cons_succ])
      (refine T_take (i := 7) rfl (by kernel_rfl) (fun _ _ _ _ h => h) hS ?_; apply Exists.intro; refine ⟨.inl ⟨by rfl, fun W hW => ?_⟩, ?_⟩; (next => (obtain ⟨hs1, hs2⟩ := hW; go_simp; first | done | rfl)); simp only [Act.put, List.setIfInBounds_toArray, List.set_cons_zero, List.set_cons_succ])
      (refine T_take (i := 8) rfl (by kernel_rfl) (fun _ _ _ _ h => h) hS ?_; apply Exists.intro; refine ⟨.inl ⟨by rfl, fun W hW => ?_⟩, ?_⟩; (next => (obtain ⟨hs1, hs2⟩ := hW; go_simp; first | done | rfl)); simp only [Act.put, List.setIfInBounds_toArray, List.set_cons_zero, List.set_cons_succ])
      (refine T_take (i := 9) rfl (by kernel_rfl) (fun _ _ _ _ h => h) hS ?_; apply Exists.intro; refine ⟨.inl ⟨by rfl, fun W hW => ?_⟩, ?_⟩; (next => (obtain ⟨hs1, hs2⟩ := hW; go_simp; first | done | rfl)); simp only [Act.put, List.setIfInBounds_toArray, List.set_cons_zero, List.set_cons_succ])
      (refine T_take (i := 10) rfl (by kernel_rfl) (fun _ _ _ _ h => h) hS ?_; apply Exists.intro; refine ⟨.inl ⟨by rfl, fun W hW => ?_⟩, ?_⟩; (next => (obtain ⟨hs1, hs2⟩ := hW; go_simp; first | done | rfl)); simp only [Act.put, List.setIfInBounds_toArray, List.set_cons_zero, List.set_cons_succ])
      (refine T_take (i := 11) rfl (by kernel_rfl) (fun _ _ _ _ h => h) hS ?_; apply Exists.intro; refine ⟨.inl ⟨by rfl, fun W hW => ?_⟩, ?_⟩; (next => (obtain ⟨hs1, hs2⟩ := hW; go_simp; first | done | rfl)); simp only [Act.put, List.setIfInBounds_toArray, List.set_cons_zero, List.set_cons_succ])
      (refine T_take (i := 12) rfl (by kernel_rfl) (fun _ _ _ _ h => h) hS ?_; apply Exists.intro; refine ⟨.inl ⟨by rfl, fun W hW => ?_⟩, ?_⟩; (next => (obtain ⟨hs1, hs2⟩ := hW; go_simp; first | done | rfl)); simp only [Act.put, List.setIfInBounds_toArray, List.set_cons_zero, List.set_cons_succ])
      (refine T_take (i := 13) rfl (by kernel_rfl) (fun _ _ _ _ h => h) hS ?_; apply Exists.intro; refine ⟨.inl ⟨by rfl, fun W hW => ?_⟩, ?_⟩; (next => (obtain ⟨hs1, hs2⟩ := hW; go_simp; first | done | rfl)); simp only [Act.put, List.setIfInBounds_toArray, List.set_cons_zero, List.set_cons_succ])
      (refine T_take (i := 14) rfl (by kernel_rfl) (fun _ _ _ _ h => h) hS ?_; apply Exists.intro; refine ⟨.inl ⟨by rfl, fun W hW => ?_⟩, ?_⟩; (next => (obtain ⟨hs1, hs2⟩ := hW; go_simp; first | done | rfl)); simp only [Act.put, List.setIfInBounds_toArray, List.set_cons_zero, List.set_cons_succ])
      (refine T_take (i := 15) rfl (by kernel_rfl) (fun _ _ _ _ h => h) hS ?_; apply Exists.intro; refine ⟨.inl ⟨by rfl, fun W hW => ?_⟩, ?_⟩; (next => (obtain ⟨hs1, hs2⟩ := hW; go_simp; first | done | rfl)); simp only [Act.put, List.setIfInBounds_toArray, List.set_cons_zero, List.set_cons_succ])
      (refine T_take (i := 16) rfl (by kernel_rfl) (fun _ _ _ _ h => h) hS ?_; apply Exists.intro; refine ⟨.inl ⟨by rfl, fun W hW => ?_⟩, ?_⟩; (next => (obtain ⟨hs1, hs2⟩ := hW; go_simp; first | done | rfl)); simp only [Act.put, List.setIfInBounds_toArray, List.set_cons_zero, List.set_cons_succ])
      (refine T_take (i := 17) rfl (by kernel_rfl) (fun _ _ _ _ h => h) hS ?_; apply Exists.intro; refine ⟨.inl ⟨by rfl, fun W hW => ?_⟩, ?_⟩; (next => (obtain ⟨hs1, hs2⟩ := hW; go_simp; first | done | rfl)); simp only [Act.put, List.setIfInBounds_toArray, List.set_cons_zero, List.set_cons_succ])
      (refine T_take (i := 18) rfl (by kernel_rfl) (fun _ _ _ _ h => h) hS ?_; apply Exists.intro; refine ⟨.inl ⟨by rfl, fun W hW => ?_⟩, ?_⟩; (next => (obtain ⟨hs1, hs2⟩ := hW; go_simp; first | done | rfl)); simp only [Act.put, List.setIfInBounds_toArray, List.set_cons_zero, List.set_cons_succ])
      (refine T_take (i := 19) rfl (by kernel_rfl) (fun _ _ _ _ h => h) hS ?_; apply Exists.intro; refine ⟨.inl ⟨by rfl, fun W hW => ?_⟩, ?_⟩; (next => (obtain ⟨hs1, hs2⟩ := hW; go_simp; first | done | rfl)); simp only [Act.put, List.setIfInBounds_toArray, List.set_cons_zero, List.set_cons_succ])
      (refine T_take (i := 20) rfl (by kernel_rfl) (fun _ _ _ _ h => h) hS ?_; apply Exists.intro; refine ⟨.inl ⟨by rfl, fun W hW => ?_⟩, ?_⟩; (next => (obtain ⟨hs1, hs2⟩ := hW; go_simp; first | done | rfl)); simp only [Act.put, List.setIfInBounds_toArray, List.set_cons_zero, List.set_cons_succ])
      (refine T_take (i := 21) rfl (by kernel_rfl) (fun _ _ _ _ h => h) hS ?_; apply Exists.intro; refine ⟨.inl ⟨by rfl, fun W hW => ?_⟩, ?_⟩; (next => (obtain ⟨hs1, hs2⟩ := hW; go_simp; first | done | rfl)); simp only [Act.put, List.setIfInBounds_toArray, List.set_cons_zero, List.set_cons_succ])
      (refine T_take (i := 22) rfl (by kernel_rfl) (fun _ _ _ _ h => h) hS ?_; apply Exists.intro; refine ⟨.inl ⟨by rfl, fun W hW => ?_⟩, ?_⟩; (next => (obtain ⟨hs1, hs2⟩ := hW; go_simp; first | done | rfl)); simp only [Act.put, List.setIfInBounds_toArray, List.set_cons_zero, List.set_cons_succ])
      (refine T_take (i := 23) rfl (by kernel_rfl) (fun _ _ _ _ h => h) hS ?_; apply Exists.intro; refine ⟨.inl ⟨by rfl, fun W hW => ?_⟩, ?_⟩; (next => (obtain ⟨hs1, hs2⟩ := hW; go_simp; first | done | rfl)); simp only [Act.put, List.setIfInBounds_toArray, List.set_cons_zero, List.set_cons_succ])
      (refine T_take (i := 24) rfl (by kernel_rfl) (fun _ _ _ _ h => h) hS ?_; apply Exists.intro; refine ⟨.inl ⟨by rfl, fun W hW => ?_⟩, ?_⟩; (next => (obtain ⟨hs1, hs2⟩ := hW; go_simp; first | done | rfl)); simp only [Act.put, List.setIfInBounds_toArray, List.set_cons_zero, List.set_cons_succ])
      (refine T_take (i := 25) rfl (by kernel_rfl) (fun _ _ _ _ h => h) hS ?_; apply Exists.intro; refine ⟨.inl ⟨by rfl, fun W hW => ?_⟩, ?_⟩; (next => (obtain ⟨hs1, hs2⟩ := hW; go_simp; first | done | rfl)); simp only [Act.put, List.setIfInBounds_toArray, List.set_cons_zero, List.set_cons_succ])
      (refine T_take (i := 26) rfl (by kernel_rfl) (fun _ _ _ _ h => h) hS ?_; apply Exists.intro; refine ⟨.inl ⟨by rfl, fun W hW => ?_⟩, ?_⟩; (next => (obtain ⟨hs1, hs2⟩ := hW; go_simp; first | done | rfl)); simp only [Act.put, List.setIfInBounds_toArray, List.set_cons_zero, List.set_cons_succ])
      refine T_all [27] (by kernel_rfl) (by decide) ?_
      intro j hj
      simp only [List.mem_cons, List.mem_nil_iff, or_false, List.not_mem_nil] at hj
      subst hj
      refine T_op rfl (by rfl) ?_
      refine wp_build1 _ 160 _ (by rfl) (Value.agg #[.int .i64 0, .int .i64 0, .int .i64 0, .bool false]) 4 Tryz.underlying46 (by kernel_rfl) ⟨by decide, by decide⟩ (.agg #[.int .i64 x.id, .int .i64 x.price, .int .i64 x.qty, .bool x.gone]) (by rfl) #[.int .i64 x.id, .int .i64 x.price, .int .i64 x.qty, .bool x.gone] (by kernel_rfl) ?_
      intro w2 hX2 hb2 hz2
      refine ⟨.inr (HS.out _ hb2), ?_⟩
      simp only [Act.put, List.setIfInBounds_toArray, List.set_cons_zero, List.set_cons_succ]
      refine T_all [28] (by kernel_rfl) (by decide) ?_
      intro j hj
      simp only [List.mem_cons, List.mem_nil_iff, or_false, List.not_mem_nil] at hj
      subst hj
      refine T_op rfl (by rfl) ?_
      refine wp_append_rd _ _ _ (by rfl) B 160 (Value.agg #[.int .i64 0, .int .i64 0, .int .i64 0, .bool false]) 4 32 Tryz.underlying46 (by kernel_rfl) ⟨rfl, by decide⟩ v (fs.take i).length (flatF (fs.take i)) (by rfl) (owns_ext HK1.out.2 hb2) (some ⟨w1.heap.size, 0, none⟩) 1 1 [Fl.cells x] (by rfl) (rd_own hX2 (by simp [Fl.cells]) (n := 1) (by simp [Fl.cells])) ⟨rfl, fl_ok [x]⟩ (by simp) ⟨by unfold maxLen; omega, by omega⟩ (by omega) ?_
      intro v1 w3 hown3 hb3 hz3 hk3
      have K3 := HK1.out.1.app hb2 hb3
      have own3 : w3.ownsRow B 160 4 v1 (fs.take (i + 1)).length (flatF (fs.take (i + 1))) := by rw [HX.out, flatF_snoc]; simpa using hown3
      obtain ⟨A1, cap1, rfl, _, _, _, _⟩ := owns_rfl own3
      have HK3 := Lib.hid (And.intro K3 own3)
      have hP3 := K3.P
      have hm3 : w3.rangeAt ab (ao + i * 4) x.cells := fun j u hu => (hb3.cell (p := ⟨ab, ao + i * 4 + j, none⟩) hab).trans ((hb2.cell (cell_lt (HM.out j u hu))).trans (HM.out j u hu))
      have HS3 : Hid (SK pb tb ab ao i fs.length cap x v w3) := Lib.hid ⟨K3.P.cell 0, K3.T.cell 0, hm3 0 _ rfl, hm3 1 _ rfl, hm3 2 _ rfl, hm3 3 _ rfl⟩
      clear hm3
      clear hown3 hb3 hz3 hk3 K3 own3 hX2 hb2 hz2 HS HK1
      refine ⟨.inr HS3.out, ?_⟩
      simp only [Act.put, List.setIfInBounds_toArray, List.set_cons_zero, List.set_cons_succ]
      refine T_all [29] (by kernel_rfl) (by decide) ?_
      intro j hj
      simp only [List.mem_cons, List.mem_nil_iff, or_false, List.not_mem_nil] at hj
      subst hj
      refine T_op rfl (by rfl) (Rk.wp_calm (v := .pointer (some ⟨pb, 0, none⟩)) (by go_simp; first | done | rfl) ⟨.inr HS3.out, ?_⟩)
      simp only [Act.put, List.setIfInBounds_toArray, List.set_cons_zero, List.set_cons_succ]
      refine T_all [30] (by kernel_rfl) (by decide) ?_
      intro j hj
      simp only [List.mem_cons, List.mem_nil_iff, or_false, List.not_mem_nil] at hj
      subst hj
      refine T_op rfl (by rfl) ?_
      refine wp_store_fld _ _ _ (by rfl) pb 0 (by rfl) (.slice A1 (fs.take (i + 1)).length cap1) (by rfl) _ _ hP3 (by simp) (by kernel_rfl) rfl rfl ?_
      intro w4 hst hus
      refine ⟨.inl rfl, ?_⟩
      simp only [Act.put, List.setIfInBounds_toArray, List.set_cons_zero, List.set_cons_succ]
      refine T_done (by kernel_rfl) ?_
      have HK4 := Lib.hid (And.intro (HK3.out.1.upd hus hst) (Sw.owns_upd HK3.out.2 hP3 (by decide) hus))
      clear hP3 hst hus HK3
      go_wp2_with fail
      go_roundw
      case rel => exact ⟨i + 1, _, by go_num, HLT.out, HK4⟩
      case measure => (have := HLT.out; simp [intOf]; omega)
    · obtain rfl : i = fs.length := by omega
      have hown := HK.out.2
      rw [List.take_length] at hown
      obtain ⟨A1, cap1, rfl, _, _, _, _⟩ := owns_rfl hown
      have hP := HK.out.1.P
      have hR := HK.out.1.R
      clear hlt hi
      go_wp2_with (first | ((with_reducible show wpList _ _ _ (⟨_, .load 93 _, _, _, _, _⟩ :: _) _ _); refine wpList_load_ho 93 _ (by rfl) (by rfl) ?_ (.pointer (some ⟨_, 0, none⟩)) (by rfl) ?_ _ Tryz.underlying93 rfl ?_ ?_; rotate_left; (next => (repeat (first | (with_reducible refine BlkAt.new _ _ _ _ ?_; ((try simp) <;> omega)) | (with_reducible assumption) | (with_reducible refine Blk.at (t := ?_) ?_; rotate_left; with_reducible assumption) | with_reducible refine BlkAt.alloc ?_ _ | with_reducible refine BlkAt.drew ?_ | (with_reducible refine BlkAt.setSame ?_ _ _) | (with_reducible refine BlkAt.setCell ?_ ?_ _; rotate_left; ((try simp) <;> omega)) | (with_reducible refine BlkAt.ext (w := ?_) ?_ ?_; rotate_left 2; (with_reducible assumption)) | fail))); (next => kernel_rfl)) | ((with_reducible show wpList _ _ _ (⟨_, .store 93 _ _, _, _, _, _⟩ :: _) _ _); refine wpList_store_blk (by rfl) 93 _ _ (by rfl) _ _ (by rfl) (by rfl) _ _ hR (by kernel_rfl) (by rfl) ?_ ?_; (next => first | (simp [Value.oneCell']; done) | (simp [Value.oneCell', Edt.cells]; done) | exact Are.ordArr_one _); intro wE hRE hUE) | fail)
      exact bodyPost_ret (results_rplan rfl _ _ rbk _ (by rfl) hRE rfl) rfl ⟨⟨_, rfl, Sw.owns_upd (Rk.owns_mono hown HK.out.1.ord.2.2.2.2.2.2.2) hR (by decide) hUE⟩, below_upd HK.out.1.below HK.out.1.ord.1 hUE⟩
theorem wp_store_blk0 {P : Program} {o : Oper} {a : Act} {w : World} {K : Act → World → Prop} {Q : Exit → Act → World → Prop} (ty : TypeId) (x y : Operand) (ho : o.op = .store ty x y)
    (g : Nat) (cs' : Array Value) (hx : a.eval x = .pointer (some ⟨g, 0, none⟩)) (hy : a.eval y = .agg cs') (t : TypeId) (cs : Array Value) (hb : Blk w g t cs) (hi : (P.info? ty).map (·.size) = some cs'.size)
    (hold : cs.size = cs'.size) (h1 : cs'.all (·.oneCell') = true) (h : ∀ w2, Blk w2 g t cs' → Upd g w w2 → K (a.put o.dst undef) w2) : o.wp P a w K Q :=
  wp_store_row ty x y ho g cs' hx hy t cs hb hi hold h1 (h _ (setRow_heap w g cs cs' t _ hb) ⟨rfl, rfl, rfl, by simp, fun k hk => setRow_other w g k cs' hk⟩)
theorem y_load_mid {P : Program} {S : World → Prop} {ops : Array Oper} {o : Oper} {a : Act} (ty : TypeId) (x : Operand) (ho : o.op = .load ty x) (hw : Region.wanted o (yielded ops a.tmps) = true) (b off : Nat) (hx : a.eval x = .pointer (some ⟨b, off, none⟩)) (cs : List Value) (d : TypeDesc)
    (hc : ∀ w, S w → w.rangeAt b off cs) (hu : P.underlying ty = some d) (hd : d.isRow = true) (hi : (P.info? ty).map (·.size) = some cs.length) : YieldsIf P ops S o (.agg cs.toArray) a :=
  .inl ⟨hw, fun w hS => by
    unfold execOp
    simp only [ho, hx, Instr.loadAt, Instr.sureAddr, Sem.run_bind, Sem.run_pure, Result.andThen_ok, run_loadVar_mid w b off ty cs d (hc w hS) hu hd hi]⟩
theorem y_build {P : Program} {S : World → Prop} {ops : Array Oper} {o : Oper} {a : Act} (t : TypeId) (parts : Array (Nat × Operand)) (ho : o.op = .build t parts) (hw : Region.wanted o (yielded ops a.tmps) = true)
    (cells : Array Value) (hc : P.built t (parts.map fun (i, x) => (i, a.eval x)).toList = some cells) : YieldsIf P ops S o (.agg cells) a :=
  .inl ⟨hw, fun w _ => by
    unfold execOp
    simp only [ho, Sem.run_bind, Sem.run_pure, run_build w t _ cells hc, Result.andThen_ok]⟩
theorem built_r5 (f : Int) (A : Option Addr) (n c : Nat) (o : Ord) (gn y : Int) : Tryz.prog.built 48 [(0, .int .i64 f), (1, .slice A n c), (2, .agg o.cells.toArray), (3, .int .i64 gn), (4, .int .i64 y)] = some (resArr f (.slice A n c) o gn y) := by kernel_rfl
def S5 (tb : Nat) (f : Int) (A : Option Addr) (n cap : Nat) (o : Ord) (gn y : Int) (W : World) : Prop := W.cell? ⟨tb, 0, none⟩ = some (.int .i64 f) ∧ (W.cell? ⟨tb, 1, none⟩ = some (.slice A n cap) ∧ W.cell? ⟨tb, 9, none⟩ = some (.int .i64 gn) ∧ W.cell? ⟨tb, 10, none⟩ = some (.int .i64 y) ∧ Blk W tb 32 (resArr f (.slice A n cap) o gn y))
def B5Post (w : World) (fs : List Fl) (f : Int) (o : Ord) (gn y : Int) (x : Ending) (w' : World) : Prop :=
  (∃ A' cap', x = .returned (.agg (resArr f (.slice A' fs.length cap') o gn y)) ∧ Rd w' 4 A' (fs.map Fl.cells) ∧ ∀ a, A' = some a → w.heap.size ≤ a.block ∧ a.block < w'.heap.size) ∧ Below w.heap.size w w'
theorem back5_any {w : World} {fs : List Fl} {A : Option Addr} {cap : Nat} (hrd : Rd w 4 A (fs.map Fl.cells)) (hA : ∀ a, A = some a → a.block < w.heap.size) (hl : fs.length ≤ 1000) (f : Int) (o : Ord) (gn y : Int) :
    Calls Tryz.prog 12 #[.agg (resArr f (.slice A fs.length cap) o gn y)] w (B5Post w fs f o gn y) := by
  have hT0 : Blk ((w.alloc (.cells (resArr f (.slice A fs.length cap) o gn y) 32)).alloc (.cells #[.int .i64 0, .slice none 0 0, .int .i64 0, .int .i64 0, .int .i64 0, .int .i64 0, .int .i64 0, .int .i64 0, .int .i64 0, .int .i64 0, .int .i64 0] 48)) w.heap.size 32 (resArr f (.slice A fs.length cap) o gn y) := (Blk.new w _ _ _ rfl).alloc _
  have hR0 : Blk ((w.alloc (.cells (resArr f (.slice A fs.length cap) o gn y) 32)).alloc (.cells #[.int .i64 0, .slice none 0 0, .int .i64 0, .int .i64 0, .int .i64 0, .int .i64 0, .int .i64 0, .int .i64 0, .int .i64 0, .int .i64 0, .int .i64 0] 48)) (w.heap.size + 1) 48 (resArr 0 (.slice none 0 0) Are.ord0 0 0) := Blk.new _ _ _ _ (sz_alloc _ _)
  have hb0 : Below w.heap.size w ((w.alloc (.cells (resArr f (.slice A fs.length cap) o gn y) 32)).alloc (.cells #[.int .i64 0, .slice none 0 0, .int .i64 0, .int .i64 0, .int .i64 0, .int .i64 0, .int .i64 0, .int .i64 0, .int .i64 0, .int .i64 0, .int .i64 0] 48)) := by (repeat (first | with_reducible exact Below.refl _ _ | (with_reducible assumption) | (with_reducible refine below_alloc ?_ _) | (with_reducible refine below_ext (w1 := ?_) ?_ ?_; rotate_left 2; (with_reducible assumption)) | (with_reducible refine Below.setCell ?_ ?_ _; rotate_left; ((try simp) <;> omega)) | (with_reducible refine Below.drew ?_) | (with_reducible refine below_drewN ?_ _) | fail))
  go_enter Tryz.func12, Tryz.ntmps12
  go_upto_region 1 with fail
  generalize ((w.alloc (.cells (resArr f (.slice A fs.length cap) o gn y) 32)).alloc (.cells #[.int .i64 0, .slice none 0 0, .int .i64 0, .int .i64 0, .int .i64 0, .int .i64 0, .int .i64 0, .int .i64 0, .int .i64 0, .int .i64 0, .int .i64 0] 48)) = w0 at *
  refine wp_region_T (S := S5 w.heap.size f A fs.length cap o gn y) 14 (by kernel_rfl) ?_
  have hbd : Below w0.heap.size w0 w0.drew := (Below.refl _ _).drew
  have hT1 := hT0.ext hbd
  have hR1 := hR0.ext hbd
  have hb1 := below_ext hb0 hbd
  generalize w0.drew = w1 at *
  have hS : S5 w.heap.size f A fs.length cap o gn y w1 := ⟨hT1.cell 0, hT1.cell 1, hT1.cell 9, hT1.cell 10, hT1⟩
  have HB4 := Lib.hid (back4_any (hrd.below hb1) (fun a h => by have := hA a h; have := hb1.size; omega) (cap := cap) hl 0 0)
  clear hT0 hR0 hb0 hbd hrd hA
  (refine T_take (i := 0) rfl (by kernel_rfl) (fun _ _ _ _ h => h) hS ?_; apply Exists.intro; refine ⟨.inl ⟨by rfl, fun W hW => ?_⟩, ?_⟩; (next => (obtain ⟨hs1, hs2⟩ := hW; go_simp; first | done | rfl)); simp only [Act.put, List.setIfInBounds_toArray, List.set_cons_zero, List.set_cons_succ])
  (refine T_take (i := 1) rfl (by kernel_rfl) (fun _ _ _ _ h => h) hS ?_; apply Exists.intro; refine ⟨.inl ⟨by rfl, fun W hW => ?_⟩, ?_⟩; (next => (obtain ⟨hs1, hs2⟩ := hW; go_simp; first | done | rfl)); simp only [Act.put, List.setIfInBounds_toArray, List.set_cons_zero, List.set_cons_succ])
  (refine T_take (i := 2) rfl (by kernel_rfl) (fun _ _ _ _ h => h) hS ?_; apply Exists.intro; refine ⟨.inl ⟨by rfl, fun W hW => ?_⟩, ?_⟩; (next => (obtain ⟨hs1, hs2⟩ := hW; go_simp; first | done | rfl)); simp only [Act.put, List.setIfInBounds_toArray, List.set_cons_zero, List.set_cons_succ])
  (refine T_take (i := 3) rfl (by kernel_rfl) (fun _ _ _ _ h => h) hS ?_; apply Exists.intro; refine ⟨.inl ⟨by rfl, fun W hW => ?_⟩, ?_⟩; (next => (obtain ⟨hs1, hs2⟩ := hW; go_simp; first | done | rfl)); simp only [Act.put, List.setIfInBounds_toArray, List.set_cons_zero, List.set_cons_succ])
  (refine T_take (i := 4) rfl (by kernel_rfl) (fun _ _ _ _ h => h) hS ?_; apply Exists.intro; refine ⟨.inl ⟨by rfl, fun W hW => ?_⟩, ?_⟩; (next => (obtain ⟨hs1, hs2⟩ := hW; go_simp; first | done | rfl)); simp only [Act.put, List.setIfInBounds_toArray, List.set_cons_zero, List.set_cons_succ])
  (refine T_take (i := 7) rfl (by kernel_rfl) (fun _ _ _ _ h => h) hS ?_; apply Exists.intro; refine ⟨.inl ⟨by rfl, fun W hW => ?_⟩, ?_⟩; (next => (obtain ⟨hs1, hs2⟩ := hW; go_simp; first | done | rfl)); simp only [Act.put, List.setIfInBounds_toArray, List.set_cons_zero, List.set_cons_succ])
  (refine T_take (i := 8) rfl (by kernel_rfl) (fun _ _ _ _ h => h) hS ?_; refine ⟨_, y_load_mid 30 _ rfl (by rfl) w.heap.size 2 (by rfl) o.cells _ (fun W h => rng_res h.2.2.2.2) Tryz.underlying30 rfl (by kernel_rfl), ?_⟩; simp only [Act.put, List.setIfInBounds_toArray, List.set_cons_zero, List.set_cons_succ])
  (refine T_take (i := 9) rfl (by kernel_rfl) (fun _ _ _ _ h => h) hS ?_; apply Exists.intro; refine ⟨.inl ⟨by rfl, fun W hW => ?_⟩, ?_⟩; (next => (obtain ⟨hs1, hs2⟩ := hW; go_simp; first | done | rfl)); simp only [Act.put, List.setIfInBounds_toArray, List.set_cons_zero, List.set_cons_succ])
  (refine T_take (i := 10) rfl (by kernel_rfl) (fun _ _ _ _ h => h) hS ?_; apply Exists.intro; refine ⟨.inl ⟨by rfl, fun W hW => ?_⟩, ?_⟩; (next => (obtain ⟨hs1, hs2⟩ := hW; go_simp; first | done | rfl)); simp only [Act.put, List.setIfInBounds_toArray, List.set_cons_zero, List.set_cons_succ])
  (refine T_take (i := 11) rfl (by kernel_rfl) (fun _ _ _ _ h => h) hS ?_; apply Exists.intro; refine ⟨.inl ⟨by rfl, fun W hW => ?_⟩, ?_⟩; (next => (obtain ⟨hs1, hs2⟩ := hW; go_simp; first | done | rfl)); simp only [Act.put, List.setIfInBounds_toArray, List.set_cons_zero, List.set_cons_succ])
  (refine T_take (i := 12) rfl (by kernel_rfl) (fun _ _ _ _ h => h) hS ?_; apply Exists.intro; refine ⟨.inl ⟨by rfl, fun W hW => ?_⟩, ?_⟩; (next => (obtain ⟨hs1, hs2⟩ := hW; go_simp; first | done | rfl)); simp only [Act.put, List.setIfInBounds_toArray, List.set_cons_zero, List.set_cons_succ])
  refine T_all [5] (by kernel_rfl) (by decide) ?_
  intro j hj
  simp only [List.mem_cons, or_false, List.not_mem_nil] at hj
  subst hj
  refine T_op rfl (by rfl) ?_
  refine wp_enterE (ops := #[]) (F := 44) (args := #[.agg #[.slice A fs.length cap, .int .i64 0, .int .i64 0]]) ?_ ?_
  (next => first | (go_simp; done) | (go_simp; rfl))
  refine HB4.out.mono ?_
  rintro x w2 ⟨⟨v, rfl, hown⟩, hb2⟩
  obtain ⟨A2, cap2, rfl, hrd2, _, _, hfar2⟩ := owns_rfl hown
  have hT2 := hT1.ext hb2
  have hR2 := hR1.ext hb2
  have hS2 : S5 w.heap.size f A fs.length cap o gn y w2 := ⟨hT2.cell 0, hT2.cell 1, hT2.cell 9, hT2.cell 10, hT2⟩
  refine ⟨_, rfl, .inr hS2, ?_⟩
  simp only [Act.put, List.setIfInBounds_toArray, List.set_cons_zero, List.set_cons_succ]
  clear hS
  have hS := hS2
  (refine T_take (i := 6) rfl (by kernel_rfl) (fun _ _ _ _ h => h) hS ?_; refine ⟨.slice A2 fs.length cap2, .inl ⟨by rfl, fun W _ => ?_⟩, ?_⟩; (next => go_simp; first | done | rfl); simp only [Act.put, List.setIfInBounds_toArray, List.set_cons_zero, List.set_cons_succ])
  (refine T_take (i := 13) rfl (by kernel_rfl) (fun _ _ _ _ h => h) hS ?_; refine ⟨_, y_build _ _ rfl (by rfl) (resArr f (.slice A2 fs.length cap2) o gn y) ?_, ?_⟩; (next => simp only [List.map_toArray, List.map_cons, List.map_nil, go_sem]; exact built_r5 ..); simp only [Act.put, List.setIfInBounds_toArray, List.set_cons_zero, List.set_cons_succ])
  refine T_all [14] (by kernel_rfl) (by decide) ?_
  intro j hj
  simp only [List.mem_cons, or_false, List.not_mem_nil] at hj
  subst hj
  refine T_op rfl (by rfl) ?_
  refine wp_store_blk0 48 _ _ (by rfl) (w.heap.size + 1) (resArr f (.slice A2 fs.length cap2) o gn y) (by rfl) (by rfl) _ _ hR2 (by kernel_rfl) rfl (res_one ..) ?_
  intro w3 hR3 hU3
  refine ⟨.inl rfl, ?_⟩
  simp only [Act.put]
  refine T_done (by kernel_rfl) ?_
  have hlo := hb1.size
  go_wp2_with fail
  refine bodyPost_ret (results_rres rfl _ _ (w.heap.size + 1) _ (by rfl) hR3 rfl) rfl ⟨⟨A2, cap2, rfl, hrd2.keep (fun a h => hU3.block _ (by have := hfar2 a h; have := hR1.lt; omega)), fun a h => by have := hfar2 a h; have := hU3.size; omega⟩, below_upd (below_ext hb1 hb2) (by omega) hU3⟩
end Mr
end Go.Proofs.YtbnappiaomiciaaGreat
namespace Go.Proofs.YtbnappiaomiciaaGreat
set_option linter.unusedVariables false
open Go.RowKit
namespace Mr
set_option maxHeartbeats 8000000
set_option maxRecDepth 10000
open Bk (Bs osOf Sl fndI)
open Rk (Rb)
theorem like_any {w : World} {c : Nat → Nat} {b rb N most k : Nat} {ss : List Sl} {L : List Ord} {A : Option Addr} {cap : Nat} (S : Bs w c b N most k ss) (q : Rb w rb (N : Int) (most : Int) L A cap) (he : osOf ss = L) :
    Calls Tryz.prog 14 #[.pointer (some ⟨b, 0, none⟩), .pointer (some ⟨rb, 0, none⟩)] w fun x w' => x = .returned (.bool true) ∧ Below w.heap.size w w' := by
  have HLN : Hid (∀ W, Below w.heap.size w W → Calls Tryz.prog 47 #[.pointer (some ⟨b, 0, none⟩)] W fun x w' => x = .returned (.int .i64 (L.length : Int)) ∧ Below W.heap.size W w') := Lib.hid (fun W hW => by
    have h := Bk.len_any (S.ext hW)
    rwa [he] at h)
  have hn : (L.map (·.id)).Nodup := by rw [← he]; exact Bk.Bs.ids S
  have HGT : Hid (∀ o ∈ L, ∀ W, Below w.heap.size w W → Calls Tryz.prog 31 #[.pointer (some ⟨b, 0, none⟩), .int .i64 o.id] W fun x w' => x = .returned (.tuple #[.agg o.arr, .bool true]) ∧ Below W.heap.size W w') := Lib.hid (fun o ho W hW => by
    have h := Bk.bget_any (S.ext hW) (id := o.id) (Sw.Bs.okk S o (by rw [he]; exact ho)).2.2.2
    rw [he, Bk.fnd_mem hn ho] at h
    exact h)
  have HQ := Lib.hid q
  have hlen := q.len
  have c2 : w.cell? ⟨rb, 2, none⟩ = some (.slice A L.length cap) := q.hd.cell 2
  have lr := q.hd.lt
  clear S q he hn
  go_enter Tryz.func14, Tryz.ntmps14
  go_wp2_with fail
  have kk : ((L.length : Int) != (L.length : Int)) = false := by simp
  refine wp_region_below_lit (by kernel_rfl) (by kernel_rfl) ?_
  repeat (first | go_big_quiet_skip | (go_big_quiet_want; go_big_quiet_op; go_big_quiet_on) | (refine q_load_fld (by rfl) _ _ (by rfl) (fun _ h => h) _ _ (by rfl) ?_ ?_ ?_ ?_ ?_ ?_; rotate_left; (next => (repeat (first | (with_reducible refine BlkAt.new _ _ _ _ ?_; ((try simp) <;> omega)) | (with_reducible assumption) | (with_reducible refine Blk.at (t := ?_) ?_; rotate_left; with_reducible assumption) | with_reducible refine BlkAt.alloc ?_ _ | with_reducible refine BlkAt.drew ?_ | (with_reducible refine BlkAt.setSame ?_ _ _) | (with_reducible refine BlkAt.setCell ?_ ?_ _; rotate_left; ((try simp) <;> omega)) | (with_reducible refine BlkAt.ext (w := ?_) ?_ ?_; rotate_left 2; (with_reducible assumption)) | fail))); rotate_left; (next => first | (simp only [go_sem]; rfl) | rfl); (next => kernel_rfl); (try simp only [Act.put, List.setIfInBounds_toArray, List.set_cons_zero, List.set_cons_succ])) | (refine q_rem (by rfl) _ _ _ _ (by rfl) _ _ (by rfl) (by rfl) (by kernel_rfl) (by kernel_rfl) ?_ ?_; (next => omega); (try simp only [Act.put, List.setIfInBounds_toArray, List.set_cons_zero, List.set_cons_succ])) | (refine q_step_ex (by rfl) ?_; apply Exists.intro; refine ⟨fun W hW => ?_, ?_⟩; (next => (have hWc := fun (b o : Nat) (h : b < _) => (Ext.out hW).cell (p := ⟨b, o, none⟩) h); (try have hLK := HLK.out W (Ext.out hW)); go_simp; first | rfl | (go_at_call 47; refine (HLN.out _ hW.out).mono ?_; rintro x w'' ⟨rfl, hb2⟩; exact ⟨rfl, below_ext hW.out hb2⟩) | fail); (try simp only [Act.put, List.setIfInBounds_toArray, List.set_cons_zero, List.set_cons_succ])) | fail)
  refine wpQuiet_nil ?_
  intro w1 hb1
  have HB1 := Lib.hid hb1
  clear c2 hb1 kk
  go_wp2_with fail
  go_loopw [5] (fun iv wr => ∃ i : Nat, iv = .int .i64 i ∧ i ≤ L.length ∧ Hid (Below w.heap.size w wr)) (fun iv _ => L.length - (intOf iv).toNat)
  case atStart => exact ⟨0, rfl, Nat.zero_le _, HB1⟩
  case round =>
    obtain ⟨i, rfl, hi, HB⟩ := hrel
    clear HB1
    have qr := HQ.out.ext HB.out
    have c2 : wr.cell? ⟨rb, 2, none⟩ = some (.slice A L.length cap) := qr.hd.cell 2
    have lr2 := qr.hd.lt
    by_cases hlt : i < L.length
    · have e1 : (i : Int) < (L.length : Int) := by omega
      have HLT := Lib.hid hlt
      obtain ⟨ab, ao, rfl, hm⟩ := qr.at HLT.out
      obtain ⟨o, ho⟩ : ∃ o, o = L[i]'HLT.out := ⟨_, rfl⟩
      replace hm : wr.rangeAt ab (ao + i * 7) o.cells := by rw [ho]; exact hm
      have c0 : wr.cell? ⟨ab, ao + i * 7, none⟩ = some (.int .i64 o.id) := hm 0 _ rfl
      have HG1 := Lib.hid (HGT.out o (by rw [ho]; exact List.getElem_mem HLT.out))
      have HM := Lib.hid (And.intro hm c2)
      clear ho hlt qr hm
      go_wp2_with (first | (go_at_call 31; refine (HG1.out _ HB.out).mono ?_; rintro x w2 ⟨rfl, hb2⟩; have hY2 := Blk.new w2 30 Are.ord0.arr _ rfl) | (((with_reducible show wpList _ _ _ (⟨_, .store 30 _ _, _, _, _, _⟩ :: _) _ _); refine wpList_store_blk (by rfl) 30 _ _ (by rfl) _ _ (by rfl) (by rfl) _ _ hY2 (by kernel_rfl) (by rfl) ?_ ?_; (next => first | (simp [Value.oneCell']; done) | (simp [Value.oneCell', Edt.cells]; done) | exact Are.ordArr_one _); intro w3 hY3 hU3); have hb3 : Below wr.heap.size wr w3 := below_upd (below_alloc hb2 _) hb2.size hU3) | fail)
      have hmid : w3.rangeAt ab (ao + i * 7) o.cells := fun j u hu => (hb3.cell (cell_lt (HM.out.1 j u hu))).trans (HM.out.1 j u hu)
      have c23 : w3.cell? ⟨rb, 2, none⟩ = some (.slice (some ⟨ab, ao, none⟩) L.length cap) := (hb3.cell (p := ⟨rb, 2, none⟩) lr2).trans HM.out.2
      have hself : (!ordEq o o) = false := by rw [ordEq_refl]; rfl
      have lab : ab < w3.heap.size := cell_lt (hmid 0 _ rfl)
      have lrb : rb < w3.heap.size := cell_lt c23
      have HB3 := Lib.hid (below_ext HB.out hb3)
      clear c2 c0 hU3 hY2 hb2 hb3
      refine wp_region_below_lit (by kernel_rfl) (by kernel_rfl) ?_
      repeat (first | go_big_quiet_skip | (go_big_quiet_want; go_big_quiet_op; go_big_quiet_on) | (refine q_load_blk (by rfl) 30 _ (by rfl) ?_ (.pointer (some ⟨_, 0, none⟩)) (by rfl) ?_ _ (fun _ h => h) Tryz.underlying30 rfl ?_ ?_; rotate_left; (next => (repeat (first | (with_reducible refine BlkAt.new _ _ _ _ ?_; ((try simp) <;> omega)) | (with_reducible assumption) | (with_reducible refine Blk.at (t := ?_) ?_; rotate_left; with_reducible assumption) | with_reducible refine BlkAt.alloc ?_ _ | with_reducible refine BlkAt.drew ?_ | (with_reducible refine BlkAt.setSame ?_ _ _) | (with_reducible refine BlkAt.setCell ?_ ?_ _; rotate_left; ((try simp) <;> omega)) | (with_reducible refine BlkAt.ext (w := ?_) ?_ ?_; rotate_left 2; (with_reducible assumption)) | fail))); (next => kernel_rfl); (try simp only [Act.put, List.setIfInBounds_toArray, List.set_cons_zero, List.set_cons_succ])) | (refine q_load_mid (by rfl) _ _ (by rfl) (fun _ h => h) _ _ (by rfl) _ _ hmid Tryz.underlying30 rfl (by kernel_rfl) ?_; (try simp only [Act.put, List.setIfInBounds_toArray, List.set_cons_zero, List.set_cons_succ])) | (refine q_ne_ord (by rfl) _ _ _ (by rfl) _ _ (by rfl) (by rfl) ?_; (try simp only [Act.put, List.setIfInBounds_toArray, List.set_cons_zero, List.set_cons_succ])) | (refine q_load_fld (by rfl) _ _ (by rfl) (fun _ h => h) _ _ (by rfl) ?_ ?_ ?_ ?_ ?_ ?_; rotate_left; (next => (repeat (first | (with_reducible refine BlkAt.new _ _ _ _ ?_; ((try simp) <;> omega)) | (with_reducible assumption) | (with_reducible refine Blk.at (t := ?_) ?_; rotate_left; with_reducible assumption) | with_reducible refine BlkAt.alloc ?_ _ | with_reducible refine BlkAt.drew ?_ | (with_reducible refine BlkAt.setSame ?_ _ _) | (with_reducible refine BlkAt.setCell ?_ ?_ _; rotate_left; ((try simp) <;> omega)) | (with_reducible refine BlkAt.ext (w := ?_) ?_ ?_; rotate_left 2; (with_reducible assumption)) | fail))); rotate_left; (next => first | (simp only [go_sem]; rfl) | rfl); (next => kernel_rfl); (try simp only [Act.put, List.setIfInBounds_toArray, List.set_cons_zero, List.set_cons_succ])) | (refine q_rem (by rfl) _ _ _ _ (by rfl) _ _ (by rfl) (by rfl) (by kernel_rfl) (by kernel_rfl) ?_ ?_; (next => omega); (try simp only [Act.put, List.setIfInBounds_toArray, List.set_cons_zero, List.set_cons_succ])) | (refine q_step_ex (by rfl) ?_; apply Exists.intro; refine ⟨fun W hW => ?_, ?_⟩; (next => (have hWc := fun (b o : Nat) (h : b < _) => (Ext.out hW).cell (p := ⟨b, o, none⟩) h); (try have hLK := HLK.out W (Ext.out hW)); go_simp; first | rfl | fail); (try simp only [Act.put, List.setIfInBounds_toArray, List.set_cons_zero, List.set_cons_succ])) | fail)
      refine wpQuiet_nil ?_
      intro w8 hb8
      go_wp2_with fail
      go_roundw
      case rel => exact ⟨i + 1, by go_num, HLT.out, Lib.hid (below_ext HB3.out hb8)⟩
      case measure => (have := HLT.out; simp [intOf]; omega)
    · obtain rfl : i = L.length := by omega
      clear hlt qr
      go_wp2_with fail
      go_ret
      exact ⟨rfl, HB.out⟩
end Mr
end Go.Proofs.YtbnappiaomiciaaGreat
namespace Go.Proofs.YtbnappiaomiciaaGreat
set_option linter.unusedVariables false
open Go.RowKit
namespace Mr
set_option maxHeartbeats 8000000
set_option maxRecDepth 10000
open Bk (Bs osOf Sl addO)
open Sw (Fl mkP appF)
open Ma (En FPost QPost fstQ fauK mfirst_any cK cC cQ qArr resArr res_size res_one results_res enterF checkF EnPost tkE restsF restO)
theorem c1_nil {w : World} {bb bo be : Nat} (hB : Blk w bb 38 #[.pointer none]) :
    Calls Tryz.prog 26 #[.pointer (some ⟨bb, 0, none⟩), .pointer (some ⟨bo, 0, none⟩), .pointer (some ⟨be, 0, none⟩)] w (QPost true w) := by
  have b0 : w.cell? ⟨bb, 0, none⟩ = some (.pointer none) := hB.cell 0
  clear hB
  go_enter Tryz.func26, Tryz.ntmps26
  go_wp2_with fail
  go_ret
  exact ⟨rfl, Below.refl _ _⟩
theorem check_nil (e : En) (w : World) : Calls Tryz.prog 8 #[.pointer none, .agg e.arr] w (FPost 1 w) := by
  have hmf : ∀ (fn : Fn) (first cap : Array Value) (W : World), (Instr.makeFunc fn first cap).run Tryz.prog W = .ok (.func fn first cap) W := fun _ _ _ _ => rfl
  obtain ⟨w1, hw1⟩ : ∃ w1, w1 = ((w.alloc (.cells #[.pointer none] 38)).alloc (.cells e.arr 37)) := ⟨_, rfl⟩
  have hB0 : Blk w1 w.heap.size 38 #[.pointer none] := by rw [hw1]; exact (Blk.new w _ _ _ rfl).alloc _
  have hE0 : Blk w1 (w.heap.size + 1) 37 e.arr := by rw [hw1]; exact Blk.new _ _ _ _ (sz_alloc _ _)
  have hb0 : Below w.heap.size w w1 := by rw [hw1]; (repeat (first | with_reducible exact Below.refl _ _ | (with_reducible assumption) | (with_reducible refine below_alloc ?_ _) | (with_reducible refine below_ext (w1 := ?_) ?_ ?_; rotate_left 2; (with_reducible assumption)) | (with_reducible refine Below.setCell ?_ ?_ _; rotate_left; ((try simp) <;> omega)) | (with_reducible refine Below.drew ?_) | (with_reducible refine below_drewN ?_ _) | fail))
  have hmid : w1.rangeAt (w.heap.size + 1) 0 e.o.cells := (Ma.en_rng hE0).1
  have HW1 := Lib.hid hw1
  clear hw1
  go_enter Tryz.func8, Tryz.ntmps8
  go_wp2_with fail
  rw [← HW1.out]
  have hz : w1.heap.size = w.heap.size + 1 + 1 := by rw [HW1.out]; simp only [sz_alloc]
  have hB3 : ∀ o1 o2, Blk ((w1.alloc o1).alloc o2) w.heap.size 38 #[.pointer none] := fun o1 o2 => (hB0.alloc _).alloc _
  refine (show Calls _ _ _ _ (FPost (fstQ (fun k => decide (k = 0)) fauK 0 6) _) from mfirst_any 6 (w.heap.size + 1 + 1 + 1) cK (cC w.heap.size (w.heap.size + 1 + 1) (w.heap.size + 1)) (fun k => decide (k = 0)) fauK (by decide) ?_ cQ ?_).mono ?_
  · intro k hk j v hv
    have hF : ∀ (W : World), W.heap.size = w.heap.size + 1 + 1 + 1 → Blk (W.alloc (.cells (qArr w.heap.size (w.heap.size + 1 + 1) (w.heap.size + 1)) 84)) (w.heap.size + 1 + 1 + 1) 84 (qArr w.heap.size (w.heap.size + 1 + 1) (w.heap.size + 1)) := fun W h => Blk.new W _ _ _ h
    refine ((hF _ (by rw [sz_alloc, hz])).cell _).trans ?_
    match k, hk with
    | 0, _ | 1, _ | 2, _ | 3, _ | 4, _ | 5, _ =>
      match j, hv with
      | 0, hv => exact hv
      | 1, hv => exact hv
      | n + 2, hv => simp at hv
  · intro k hk hz2 W hW
    match k, hk with
    | 0, _ => exact c1_nil ((hB3 _ _).ext hW)
    | n + 1, _ => exact absurd (hz2 0 (by omega)) (by simp)
  rintro x w' ⟨rfl, hb1⟩
  go_wp2_with fail
  go_ret
  exact ⟨rfl, below_ext (below_alloc (below_alloc hb0 _) _) hb1⟩
theorem enter_nil (e : En) (w : World) : Calls Tryz.prog 6 #[.pointer none, .agg e.arr] w fun x w' => x = .returned (.agg (resArr 1 (.slice none 0 0) Are.ord0 0 0)) ∧ Below w.heap.size w w' := by
  have hR0 : Blk ((w.alloc (.cells e.arr 37)).alloc (.cells (resArr 0 (.slice none 0 0) Are.ord0 0 0) 32)) (w.heap.size + 1) 32 (resArr 0 (.slice none 0 0) Are.ord0 0 0) := Blk.new _ _ _ _ (sz_alloc _ _)
  have hb0 : Below w.heap.size w ((w.alloc (.cells e.arr 37)).alloc (.cells (resArr 0 (.slice none 0 0) Are.ord0 0 0) 32)) := by (repeat (first | with_reducible exact Below.refl _ _ | (with_reducible assumption) | (with_reducible refine below_alloc ?_ _) | (with_reducible refine below_ext (w1 := ?_) ?_ ?_; rotate_left 2; (with_reducible assumption)) | (with_reducible refine Below.setCell ?_ ?_ _; rotate_left; ((try simp) <;> omega)) | (with_reducible refine Below.drew ?_) | (with_reducible refine below_drewN ?_ _) | fail))
  have HC := Lib.hid (fun W => check_nil e W)
  go_enter Tryz.func6, Tryz.ntmps6
  go_wp2_with (first | ((with_reducible show wpList _ _ _ (⟨_, .load 37 _, _, _, _, _⟩ :: _) _ _); refine wpList_load_ho 37 _ (by rfl) (by rfl) ?_ (.pointer (some ⟨_, 0, none⟩)) (by rfl) ?_ _ Tryz.underlying37 rfl ?_ ?_; rotate_left; (next => (repeat (first | (with_reducible refine BlkAt.new _ _ _ _ ?_; ((try simp) <;> omega)) | (with_reducible assumption) | (with_reducible refine Blk.at (t := ?_) ?_; rotate_left; with_reducible assumption) | with_reducible refine BlkAt.alloc ?_ _ | with_reducible refine BlkAt.drew ?_ | (with_reducible refine BlkAt.setSame ?_ _ _) | (with_reducible refine BlkAt.setCell ?_ ?_ _; rotate_left; ((try simp) <;> omega)) | (with_reducible refine BlkAt.ext (w := ?_) ?_ ?_; rotate_left 2; (with_reducible assumption)) | fail))); (next => kernel_rfl)) | (go_at_call 8; refine (HC.out _).mono ?_; rintro x w1 ⟨rfl, hb1⟩; have hR1 := hR0.ext hb1) | (((with_reducible show wpList _ _ _ (⟨_, .store _ _ _, _, _, _, _⟩ :: _) _ _); refine wpList_store_fld (by rfl) _ _ _ (by rfl) _ _ (by rfl) _ (by rfl) _ _ hR1 ?_ ?_ (by rfl) (by rfl) ?_; (next => first | omega | ((try simp) <;> omega)); (next => kernel_rfl); intro w2 hR2 hU2); replace hR2 : Blk w2 (w.heap.size + 1) 32 (resArr 1 (.slice none 0 0) Are.ord0 0 0) := hR2; have r0 : w2.cell? ⟨w.heap.size + 1, 0, none⟩ = some (.int .i64 1) := hR2.cell 0) | ((with_reducible show wpList _ _ _ (⟨_, .load 32 _, _, _, _, _⟩ :: _) _ _); refine wpList_load_ho 32 _ (by rfl) (by rfl) ?_ (.pointer (some ⟨_, 0, none⟩)) (by rfl) ?_ _ Tryz.underlying32 rfl ?_ ?_; rotate_left; (next => (repeat (first | (with_reducible refine BlkAt.new _ _ _ _ ?_; ((try simp) <;> omega)) | (with_reducible assumption) | (with_reducible refine Blk.at (t := ?_) ?_; rotate_left; with_reducible assumption) | with_reducible refine BlkAt.alloc ?_ _ | with_reducible refine BlkAt.drew ?_ | (with_reducible refine BlkAt.setSame ?_ _ _) | (with_reducible refine BlkAt.setCell ?_ ?_ _; rotate_left; ((try simp) <;> omega)) | (with_reducible refine BlkAt.ext (w := ?_) ?_ ?_; rotate_left 2; (with_reducible assumption)) | fail))); (next => kernel_rfl)) | ((with_reducible show wpList _ _ _ (⟨_, .store 32 _ _, _, _, _, _⟩ :: _) _ _); refine wpList_store_blk (by rfl) 32 _ _ (by rfl) _ _ (by rfl) (by rfl) _ _ hR2 (by kernel_rfl) (by rfl) ?_ ?_; (next => exact res_one ..); intro w3 hR3 hU3) | fail)
  have hb3 := below_upd (below_upd (below_ext hb0 hb1) (by omega) hU2) (by omega) hU3
  exact bodyPost_ret (results_res rfl _ _ _ _ (by rfl) hR3 rfl) rfl ⟨rfl, hb3⟩
/-- What Enter leaves, with a bound on the book. -/
theorem enter_all {w : World} {c : Nat → Nat} {b N most k i : Nat} {ss : List Sl} (S : Bs w c b N most k ss) (e : En) (hid : Idx.Wf e.o.id) (hp : I64 e.o.price) (hq : e.o.qty ≤ 9223372036854775807) (hk : k + (osOf ss).length ≤ 3 * i) (hi : i ≤ 40) :
    ∃ k', k' + (enterF N most (osOf ss) e).2.length ≤ 3 * (i + 1) ∧ (enterF N most (osOf ss) e).1.fills.length ≤ 1000 ∧ Calls Tryz.prog 6 #[.pointer (some ⟨b, 0, none⟩), .agg e.arr] w (EnPost w c b N most k' (enterF N most (osOf ss) e)) := by
  have hml := Ma.mkP_len (tkE e) (osOf ss)
  by_cases hc : checkF N most (osOf ss) e = 0
  · have G := Ma.good hc
    have GG := Ma.plan_goes G.side G.qty.1 (fun o ho => (Sw.Bs.okk S o ho).2.2.1.1) (Bk.Bs.ids S)
    have hcnt := GG.count
    have hr : enterF N most (osOf ss) e = if restsF (osOf ss) e (mkP (tkE e) (osOf ss)) = true then (⟨0, (mkP (tkE e) (osOf ss)).1, restO e (mkP (tkE e) (osOf ss)).2.1, 0, 0⟩, addO N most (appF (mkP (tkE e) (osOf ss)).1 (osOf ss)).2 (restO e (mkP (tkE e) (osOf ss)).2.1)) else (⟨0, (mkP (tkE e) (osOf ss)).1, Are.ord0, (mkP (tkE e) (osOf ss)).2.1, Ma.whyF e (mkP (tkE e) (osOf ss))⟩, (appF (mkP (tkE e) (osOf ss)).1 (osOf ss)).2) := by unfold enterF; rw [if_neg (by rw [hc]; decide)]
    refine ⟨k + (mkP (tkE e) (osOf ss)).1.length + 1, ?_, ?_, Ma.enter_any S e hid hp hq (by omega)⟩
    · rw [hr]
      split
      · have : (addO N most (appF (mkP (tkE e) (osOf ss)).1 (osOf ss)).2 (restO e (mkP (tkE e) (osOf ss)).2.1)).length ≤ (appF (mkP (tkE e) (osOf ss)).1 (osOf ss)).2.length + 1 := by
          unfold addO
          split
          · simp
          · omega
        simp only
        omega
      · simp only
        omega
    · rw [hr]
      split
      · simp only; omega
      · simp only; omega
  · have hr : enterF N most (osOf ss) e = (⟨checkF N most (osOf ss) e, [], Are.ord0, 0, 0⟩, osOf ss) := by unfold enterF; rw [if_pos hc]
    exact ⟨k, by rw [hr]; simp only; omega, by rw [hr]; simp, Ma.enter_bad S e hid hp hq hc⟩
end Mr
end Go.Proofs.YtbnappiaomiciaaGreat
