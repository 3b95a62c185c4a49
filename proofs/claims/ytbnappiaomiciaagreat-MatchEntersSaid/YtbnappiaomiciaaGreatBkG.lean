/- This text proves contracts of a held book's functions that only read: find, Get, Front, Best, At, Worth, Room, Fits, Len, Crossed. It has no conditions but those that it states. -/
import Derived.Test.YtbnappiaomiciaaGreatSwL
import Derived.Test.YtbnappiaomiciaaGreatFifoNew
namespace Go.Proofs.YtbnappiaomiciaaGreat
set_option linter.unusedVariables false
open Go.RowKit
namespace Bk
set_option maxHeartbeats 1000000
set_option maxRecDepth 10000
open Are (St Ar ord0 ordArr_one)
open Lad (La LStep Fresh lvlZ)
open Fif (Fq up up_same up_ne)
open Idx (R3 Xq Wf)
theorem wf0 : Wf 0 := rfl
theorem results_ord2 {fn : Func} {p u : Tmp} (h : fn.results = #[.cell p 30, .tmp u]) (tmps : Array Value) (w : World) (g : Nat) (cs : Array Value) (x : Value) (hp : tmps.getD p undef = .pointer (some ⟨g, 0, none⟩)) (hx : tmps.getD u undef = x) (hb : Blk w g 30 cs) (h4 : cs.size = 7) :
    (results fn tmps).run Tryz.prog w = .ok (.tuple #[.agg cs, x]) w := by
  rw [results_cell_tmp h, hp, hx]
  simp only [asAddr, Sem.run_pure, Result.andThen_ok, run_loadVar_row w g 30 30 cs _ _ hb Tryz.underlying30 rfl (by rw [h4]; kernel_rfl)]
theorem results_cell_tmp2 {fn : Func} {p u t : Tmp} {ty : TypeId} (h : fn.results = #[.cell p ty, .tmp u, .tmp t]) (tmps : Array Value) (P : Program) (w : World) :
    (results fn tmps).run P w = ((asAddr (tmps.getD p undef)).run P w).andThen fun a w₁ => ((loadVar ty a).run P w₁).andThen fun v w₂ => .ok (.tuple #[v, tmps.getD u undef, tmps.getD t undef]) w₂ := by
  simp only [results, h]
  simp [Sem.run_bind, Result.andThen]
theorem results_ord3 {fn : Func} {p u t : Tmp} (h : fn.results = #[.cell p 30, .tmp u, .tmp t]) (tmps : Array Value) (w : World) (g : Nat) (cs : Array Value) (x y : Value) (hp : tmps.getD p undef = .pointer (some ⟨g, 0, none⟩)) (hx : tmps.getD u undef = x) (hy : tmps.getD t undef = y) (hb : Blk w g 30 cs) (h4 : cs.size = 7) :
    (results fn tmps).run Tryz.prog w = .ok (.tuple #[.agg cs, x, y]) w := by
  rw [results_cell_tmp2 h, hp, hx, hy]
  simp only [asAddr, Sem.run_pure, Result.andThen_ok, run_loadVar_row w g 30 30 cs _ _ hb Tryz.underlying30 rfl (by rw [h4]; kernel_rfl)]
theorem Bw.cells {w : World} {c : Nat → Nat} {b N most k : Nat} {d : Bd} {R : List R3} (B : Bw w c b N most k d R) : w.cell? ⟨b, 0, none⟩ = some (.pointer (some ⟨d.a, 0, none⟩)) ∧ w.cell? ⟨b, 1, none⟩ = some (.pointer (some ⟨d.l 0, 0, none⟩)) ∧ w.cell? ⟨b, 2, none⟩ = some (.pointer (some ⟨d.q 0, 0, none⟩)) ∧ w.cell? ⟨b, 3, none⟩ = some (.pointer (some ⟨d.l 1, 0, none⟩)) ∧ w.cell? ⟨b, 4, none⟩ = some (.pointer (some ⟨d.q 1, 0, none⟩)) ∧ w.cell? ⟨b, 5, none⟩ = some (.pointer (some ⟨d.x, 0, none⟩)) :=
  ⟨B.hd.cell 0, B.hd.cell 1, B.hd.cell 2, B.hd.cell 3, B.hd.cell 4, B.hd.cell 5⟩
theorem Bs.ext {w w' : World} {c : Nat → Nat} {b N most k : Nat} {ss : List Sl} (B : Bs w c b N most k ss) (h : Below w.heap.size w w') : Bs w' c b N most k ss := by
  obtain ⟨d, B, I⟩ := B
  exact ⟨d, B.ext h, I⟩
section
variable {w : World} {c : Nat → Nat} {b N most k : Nat} {ss : List Sl}
theorem Bs.lt (B : Bs w c b N most k ss) : b < w.heap.size := by
  obtain ⟨d, B, I⟩ := B
  exact B.lt
theorem look_yes (hn : (ss.map (·.2.id)).Nodup) {x : Sl} (hx : x ∈ ss) : Idx.look (Rr ss) 0 x.2.id = some ⟨0, x.2.id, (x.1 : Int)⟩ := by
  unfold Idx.look Rr
  induction ss with
  | nil => cases hx
  | cons y l ih =>
    rw [List.map_cons, List.nodup_cons] at hn
    rw [List.map_cons, List.find?_cons]
    rcases List.mem_cons.1 hx with rfl | hx'
    · simp [R3.is]
    · have hne : y.2.id ≠ x.2.id := fun e => hn.1 (List.mem_map.2 ⟨x, hx', e.symm⟩)
      have : R3.is 0 x.2.id ⟨0, y.2.id, (y.1 : Int)⟩ = false := by simp [R3.is, hne]
      rw [this]
      exact ih hn.2 hx'
theorem look_no {id : Int} (h : ∀ x ∈ ss, x.2.id ≠ id) : Idx.look (Rr ss) 0 id = none := by
  unfold Idx.look Rr
  rw [List.find?_eq_none]
  intro r hr
  obtain ⟨x, hx, rfl⟩ := List.mem_map.1 hr
  simp [R3.is, h x hx]
theorem find_yes (B : Bs w c b N most k ss) {x : Sl} (hx : x ∈ ss) : Calls Tryz.prog 67 #[.pointer (some ⟨b, 0, none⟩), .int .i64 x.2.id] w fun e w' => e = .returned (.tuple #[.agg x.2.arr, .int .i64 (x.1 : Int), .bool true]) ∧ Below w.heap.size w w' := by
  obtain ⟨d, B, I⟩ := B
  obtain ⟨c0, c1, c2, c3, c4, c5⟩ := B.cells
  have hbl := B.lt
  have hok := (I.ok x hx).2.2.2
  have ht := I.ai.tk x hx
  have hsz := I.ai.size
  have hN := I.lim.2.1
  have HX := Lib.hid (fun W (hW : Below w.heap.size w W) => Idx.get_any (B.ix.ext hW) (s := 0) (i := x.2.id) wf0 hok)
  rw [look_yes I.ids hx] at HX
  have HA := Lib.hid (fun W (hW : Below w.heap.size w W) => Are.get_yes d.a d.st x.1 W (B.ar.ext hW) (by omega) (by omega) ht.2.1)
  rw [ht.2.2] at HA
  have hN0 : Blk (w.alloc (.cells #[.int .i64 0, .int .i64 0, .int .i64 0, .int .i64 0, .int .i64 0, .int .i64 0, .int .i64 0] 30)) w.heap.size 30 #[.int .i64 0, .int .i64 0, .int .i64 0, .int .i64 0, .int .i64 0, .int .i64 0, .int .i64 0] := Blk.new _ _ _ _ rfl
  have hb0 : Below w.heap.size w (w.alloc (.cells #[.int .i64 0, .int .i64 0, .int .i64 0, .int .i64 0, .int .i64 0, .int .i64 0, .int .i64 0] 30)) := by (repeat (first | with_reducible exact Below.refl _ _ | (with_reducible assumption) | (with_reducible refine below_alloc ?_ _) | (with_reducible refine below_ext (w1 := ?_) ?_ ?_; rotate_left 2; (with_reducible assumption)) | (with_reducible refine Below.setCell ?_ ?_ _; rotate_left; ((try simp) <;> omega)) | (with_reducible refine Below.drew ?_) | (with_reducible refine below_drewN ?_ _) | fail))
  generalize hW0 : w.alloc (.cells #[.int .i64 0, .int .i64 0, .int .i64 0, .int .i64 0, .int .i64 0, .int .i64 0, .int .i64 0] 30) = w0 at hN0 hb0
  have HW0 := Lib.hid hW0
  clear hW0
  have d5 : w0.cell? ⟨b, 5, none⟩ = some (.pointer (some ⟨d.x, 0, none⟩)) := (hb0.cell (p := ⟨b, 5, none⟩) hbl).trans c5
  have hbl0 : b < w0.heap.size := Nat.lt_of_lt_of_le hbl hb0.size
  unfold Idx.key at HX
  simp only [Option.elim, Option.isSome] at HX
  go_enter Tryz.func67, Tryz.ntmps67
  go_wp2_with fail
  rw [HW0.out]
  refine wp_region_below_lit (by kernel_rfl) (by kernel_rfl) ?_
  repeat (first | go_big_quiet_skip | (go_big_quiet_want; go_big_quiet_op; go_big_quiet_on) | (refine q_load_fld (by rfl) _ _ (by rfl) (fun _ h => h) _ _ (by rfl) ?_ ?_ ?_ ?_ ?_ ?_; rotate_left; (next => (repeat (first | (with_reducible refine BlkAt.new _ _ _ _ ?_; ((try simp) <;> omega)) | (with_reducible assumption) | (with_reducible refine Blk.at (t := ?_) ?_; rotate_left; with_reducible assumption) | with_reducible refine BlkAt.alloc ?_ _ | with_reducible refine BlkAt.drew ?_ | (with_reducible refine BlkAt.setSame ?_ _ _) | (with_reducible refine BlkAt.setCell ?_ ?_ _; rotate_left; ((try simp) <;> omega)) | (with_reducible refine BlkAt.ext (w := ?_) ?_ ?_; rotate_left 2; (with_reducible assumption)) | fail))); rotate_left; (next => first | (simp only [go_sem]; rfl) | rfl); (next => kernel_rfl); (try simp only [Act.put, List.setIfInBounds_toArray, List.set_cons_zero, List.set_cons_succ])) | (refine q_rem (by rfl) _ _ _ _ (by rfl) _ _ (by rfl) (by rfl) (by kernel_rfl) (by kernel_rfl) ?_ ?_; (next => omega); (try simp only [Act.put, List.setIfInBounds_toArray, List.set_cons_zero, List.set_cons_succ])) | (refine q_step_ex (by rfl) ?_; apply Exists.intro; refine ⟨fun W hW => ?_, ?_⟩; (next => (have hWc := fun (b o : Nat) (h : b < _) => (Ext.out hW).cell (p := ⟨b, o, none⟩) h); (try have hLK := HLK.out W (Ext.out hW)); go_simp; first | rfl | (go_at_call 58; refine (key_any _ _).mono ?_; rintro e w'' ⟨rfl, hb2⟩; exact ⟨rfl, below_ext hW hb2⟩) | (go_at_call 57; refine (HX.out _ (below_ext hb0 hW)).mono ?_; rintro e w'' ⟨rfl, hb2⟩; exact ⟨rfl, below_ext hW hb2⟩) | fail); (try simp only [Act.put, List.setIfInBounds_toArray, List.set_cons_zero, List.set_cons_succ])) | fail)
  refine wpQuiet_nil ?_
  intro w1 hb1
  have d0 : w1.cell? ⟨b, 0, none⟩ = some (.pointer (some ⟨d.a, 0, none⟩)) := ((below_ext hb0 hb1).cell (p := ⟨b, 0, none⟩) hbl).trans c0
  have hN1 := hN0.ext hb1
  have hb01 := below_ext hb0 hb1
  clear hN0 d5 HX c0 c1 c2 c3 c4 c5
  go_wp2_with (first | (go_at_call 96; refine (HA.out _ hb01).mono ?_; rintro e w2 ⟨rfl, hb2⟩; have hN2 := hN1.ext hb2; clear hN1) | ((with_reducible show wpList _ _ _ (⟨_, .store 30 _ _, _, _, _, _⟩ :: _) _ _); refine wpList_store_blk (by rfl) 30 _ _ (by rfl) _ _ (by rfl) (by rfl) _ _ hN2 (by kernel_rfl) (by rfl) ?_ ?_; (next => first | (simp [Value.oneCell']; done) | (simp [Value.oneCell', Edt.cells]; done) | exact Are.ordArr_one _); intro w3 hN3 hU3) | ((with_reducible show wpList _ _ _ (⟨_, .load 30 _, _, _, _, _⟩ :: _) _ _); refine wpList_load_ho 30 _ (by rfl) (by rfl) ?_ (.pointer (some ⟨_, 0, none⟩)) (by rfl) ?_ _ Tryz.underlying30 rfl ?_ ?_; rotate_left; (next => (repeat (first | (with_reducible refine BlkAt.new _ _ _ _ ?_; ((try simp) <;> omega)) | (with_reducible assumption) | (with_reducible refine Blk.at (t := ?_) ?_; rotate_left; with_reducible assumption) | with_reducible refine BlkAt.alloc ?_ _ | with_reducible refine BlkAt.drew ?_ | (with_reducible refine BlkAt.setSame ?_ _ _) | (with_reducible refine BlkAt.setCell ?_ ?_ _; rotate_left; ((try simp) <;> omega)) | (with_reducible refine BlkAt.ext (w := ?_) ?_ ?_; rotate_left 2; (with_reducible assumption)) | fail))); (next => kernel_rfl)) | ((with_reducible show wpList _ _ _ (⟨_, .store 30 _ _, _, _, _, _⟩ :: _) _ _); refine wpList_store_blk (by rfl) 30 _ _ (by rfl) _ _ (by rfl) (by rfl) _ _ hN3 (by kernel_rfl) (by rfl) ?_ ?_; (next => first | (simp [Value.oneCell']; done) | (simp [Value.oneCell', Edt.cells]; done) | exact Are.ordArr_one _); intro w4 hN4 hU4) | fail)
  have hN5 : Blk w4 w.heap.size 30 x.2.arr := hN4
  exact bodyPost_ret (results_ord3 rfl _ _ _ _ _ _ (by rfl) (by rfl) (by rfl) hN5 rfl) rfl ⟨rfl, below_upd (below_upd (below_ext hb01 hb2) (Nat.le_refl _) hU3) (Nat.le_refl _) hU4⟩
theorem find_no (B : Bs w c b N most k ss) {id : Int} (hid : Wf id) (h : ∀ x ∈ ss, x.2.id ≠ id) : Calls Tryz.prog 67 #[.pointer (some ⟨b, 0, none⟩), .int .i64 id] w fun e w' => e = .returned (.tuple #[.agg ord0.arr, .int .i64 0, .bool false]) ∧ Below w.heap.size w w' := by
  obtain ⟨d, B, I⟩ := B
  obtain ⟨c0, c1, c2, c3, c4, c5⟩ := B.cells
  have hbl := B.lt
  have HX := Lib.hid (fun W (hW : Below w.heap.size w W) => Idx.get_any (B.ix.ext hW) (s := 0) (i := id) wf0 hid)
  rw [look_no h] at HX
  have hN0 : Blk (w.alloc (.cells #[.int .i64 0, .int .i64 0, .int .i64 0, .int .i64 0, .int .i64 0, .int .i64 0, .int .i64 0] 30)) w.heap.size 30 #[.int .i64 0, .int .i64 0, .int .i64 0, .int .i64 0, .int .i64 0, .int .i64 0, .int .i64 0] := Blk.new _ _ _ _ rfl
  have hb0 : Below w.heap.size w (w.alloc (.cells #[.int .i64 0, .int .i64 0, .int .i64 0, .int .i64 0, .int .i64 0, .int .i64 0, .int .i64 0] 30)) := by (repeat (first | with_reducible exact Below.refl _ _ | (with_reducible assumption) | (with_reducible refine below_alloc ?_ _) | (with_reducible refine below_ext (w1 := ?_) ?_ ?_; rotate_left 2; (with_reducible assumption)) | (with_reducible refine Below.setCell ?_ ?_ _; rotate_left; ((try simp) <;> omega)) | (with_reducible refine Below.drew ?_) | (with_reducible refine below_drewN ?_ _) | fail))
  generalize hW0 : w.alloc (.cells #[.int .i64 0, .int .i64 0, .int .i64 0, .int .i64 0, .int .i64 0, .int .i64 0, .int .i64 0] 30) = w0 at hN0 hb0
  have HW0 := Lib.hid hW0
  clear hW0
  have d5 : w0.cell? ⟨b, 5, none⟩ = some (.pointer (some ⟨d.x, 0, none⟩)) := (hb0.cell (p := ⟨b, 5, none⟩) hbl).trans c5
  have hbl0 : b < w0.heap.size := Nat.lt_of_lt_of_le hbl hb0.size
  unfold Idx.key at HX
  simp only [Option.elim, Option.isSome] at HX
  go_enter Tryz.func67, Tryz.ntmps67
  go_wp2_with fail
  rw [HW0.out]
  refine wp_region_below_lit (by kernel_rfl) (by kernel_rfl) ?_
  repeat (first | go_big_quiet_skip | (go_big_quiet_want; go_big_quiet_op; go_big_quiet_on) | (refine q_load_fld (by rfl) _ _ (by rfl) (fun _ h => h) _ _ (by rfl) ?_ ?_ ?_ ?_ ?_ ?_; rotate_left; (next => (repeat (first | (with_reducible refine BlkAt.new _ _ _ _ ?_; ((try simp) <;> omega)) | (with_reducible assumption) | (with_reducible refine Blk.at (t := ?_) ?_; rotate_left; with_reducible assumption) | with_reducible refine BlkAt.alloc ?_ _ | with_reducible refine BlkAt.drew ?_ | (with_reducible refine BlkAt.setSame ?_ _ _) | (with_reducible refine BlkAt.setCell ?_ ?_ _; rotate_left; ((try simp) <;> omega)) | (with_reducible refine BlkAt.ext (w := ?_) ?_ ?_; rotate_left 2; (with_reducible assumption)) | fail))); rotate_left; (next => first | (simp only [go_sem]; rfl) | rfl); (next => kernel_rfl); (try simp only [Act.put, List.setIfInBounds_toArray, List.set_cons_zero, List.set_cons_succ])) | (refine q_rem (by rfl) _ _ _ _ (by rfl) _ _ (by rfl) (by rfl) (by kernel_rfl) (by kernel_rfl) ?_ ?_; (next => omega); (try simp only [Act.put, List.setIfInBounds_toArray, List.set_cons_zero, List.set_cons_succ])) | (refine q_step_ex (by rfl) ?_; apply Exists.intro; refine ⟨fun W hW => ?_, ?_⟩; (next => (have hWc := fun (b o : Nat) (h : b < _) => (Ext.out hW).cell (p := ⟨b, o, none⟩) h); (try have hLK := HLK.out W (Ext.out hW)); go_simp; first | rfl | (go_at_call 58; refine (key_any _ _).mono ?_; rintro e w'' ⟨rfl, hb2⟩; exact ⟨rfl, below_ext hW hb2⟩) | (go_at_call 57; refine (HX.out _ (below_ext hb0 hW)).mono ?_; rintro e w'' ⟨rfl, hb2⟩; exact ⟨rfl, below_ext hW hb2⟩) | fail); (try simp only [Act.put, List.setIfInBounds_toArray, List.set_cons_zero, List.set_cons_succ])) | fail)
  refine wpQuiet_nil ?_
  intro w1 hb1
  have hN1 := hN0.ext hb1
  have hb01 := below_ext hb0 hb1
  clear hN0 d5 HX c0 c1 c2 c3 c4 c5
  go_wp2_with (first | ((with_reducible show wpList _ _ _ (⟨_, .store 30 _ _, _, _, _, _⟩ :: _) _ _); refine wpList_store_blk (by rfl) 30 _ _ (by rfl) _ _ (by rfl) (by rfl) _ _ hN1 (by kernel_rfl) (by rfl) ?_ ?_; (next => first | (simp [Value.oneCell']; done) | (simp [Value.oneCell', Edt.cells]; done) | exact Are.ordArr_one _); intro w3 hN3 hU3) | ((with_reducible show wpList _ _ _ (⟨_, .load 30 _, _, _, _, _⟩ :: _) _ _); refine wpList_load_ho 30 _ (by rfl) (by rfl) ?_ (.pointer (some ⟨_, 0, none⟩)) (by rfl) ?_ _ Tryz.underlying30 rfl ?_ ?_; rotate_left; (next => (repeat (first | (with_reducible refine BlkAt.new _ _ _ _ ?_; ((try simp) <;> omega)) | (with_reducible assumption) | (with_reducible refine Blk.at (t := ?_) ?_; rotate_left; with_reducible assumption) | with_reducible refine BlkAt.alloc ?_ _ | with_reducible refine BlkAt.drew ?_ | (with_reducible refine BlkAt.setSame ?_ _ _) | (with_reducible refine BlkAt.setCell ?_ ?_ _; rotate_left; ((try simp) <;> omega)) | (with_reducible refine BlkAt.ext (w := ?_) ?_ ?_; rotate_left 2; (with_reducible assumption)) | fail))); (next => kernel_rfl)) | fail)
  have hN5 : Blk w3 w.heap.size 30 ord0.arr := hN3
  exact bodyPost_ret (results_ord3 rfl _ _ _ _ _ _ (by rfl) (by rfl) (by rfl) hN5 rfl) rfl ⟨rfl, below_upd hb01 (Nat.le_refl _) hU3⟩
/-- What is found of an ID. -/
def fndI (id : Int) (os : List Ord) : Option Ord := os.find? fun o => decide (o.id = id)
theorem fnd_cases (ss : List Sl) (id : Int) : (∃ x ∈ ss, x.2.id = id ∧ fndI id (osOf ss) = some x.2) ∨ ((∀ x ∈ ss, x.2.id ≠ id) ∧ fndI id (osOf ss) = none) := by
  unfold fndI osOf
  rw [List.find?_map]
  cases h : ss.find? ((fun o => decide (o.id = id)) ∘ fun x : Sl => x.2) with
  | some x =>
    have h1 := List.find?_some h
    simp only [Function.comp, decide_eq_true_eq] at h1
    exact .inl ⟨x, List.mem_of_find?_eq_some h, h1, rfl⟩
  | none =>
    refine .inr ⟨fun x hx e => ?_, rfl⟩
    have := List.find?_eq_none.1 h x hx
    simp [e] at this
theorem bget_any (B : Bs w c b N most k ss) {id : Int} (hid : Wf id) : Calls Tryz.prog 31 #[.pointer (some ⟨b, 0, none⟩), .int .i64 id] w fun e w' => e = .returned (.tuple #[.agg ((fndI id (osOf ss)).getD ord0).arr, .bool (fndI id (osOf ss)).isSome]) ∧ Below w.heap.size w w' := by
  have hN0 : Blk (w.alloc (.cells #[.int .i64 0, .int .i64 0, .int .i64 0, .int .i64 0, .int .i64 0, .int .i64 0, .int .i64 0] 30)) w.heap.size 30 #[.int .i64 0, .int .i64 0, .int .i64 0, .int .i64 0, .int .i64 0, .int .i64 0, .int .i64 0] := Blk.new _ _ _ _ rfl
  have hb0 : Below w.heap.size w (w.alloc (.cells #[.int .i64 0, .int .i64 0, .int .i64 0, .int .i64 0, .int .i64 0, .int .i64 0, .int .i64 0] 30)) := by (repeat (first | with_reducible exact Below.refl _ _ | (with_reducible assumption) | (with_reducible refine below_alloc ?_ _) | (with_reducible refine below_ext (w1 := ?_) ?_ ?_; rotate_left 2; (with_reducible assumption)) | (with_reducible refine Below.setCell ?_ ?_ _; rotate_left; ((try simp) <;> omega)) | (with_reducible refine Below.drew ?_) | (with_reducible refine below_drewN ?_ _) | fail))
  have HF : ∃ (o : Ord) (s : Int), o = (fndI id (osOf ss)).getD ord0 ∧ Calls Tryz.prog 67 #[.pointer (some ⟨b, 0, none⟩), .int .i64 id] (w.alloc (.cells #[.int .i64 0, .int .i64 0, .int .i64 0, .int .i64 0, .int .i64 0, .int .i64 0, .int .i64 0] 30)) fun e w' => e = .returned (.tuple #[.agg o.arr, .int .i64 s, .bool (fndI id (osOf ss)).isSome]) ∧ Below (w.alloc (.cells #[.int .i64 0, .int .i64 0, .int .i64 0, .int .i64 0, .int .i64 0, .int .i64 0, .int .i64 0] 30)).heap.size (w.alloc (.cells #[.int .i64 0, .int .i64 0, .int .i64 0, .int .i64 0, .int .i64 0, .int .i64 0, .int .i64 0] 30)) w' := by
    rcases fnd_cases ss id with ⟨x, hx, rfl, h2⟩ | ⟨h1, h2⟩
    · rw [h2]
      exact ⟨_, _, rfl, find_yes (B.ext hb0) hx⟩
    · rw [h2]
      exact ⟨_, _, rfl, find_no (B.ext hb0) hid h1⟩
  obtain ⟨o, s, ho, hF⟩ := HF
  have HF := Lib.hid hF
  rw [← ho]
  generalize (fndI id (osOf ss)).isSome = f at *
  clear hF ho B
  go_enter Tryz.func31, Tryz.ntmps31
  go_wp2_with (first | (go_at_call 67; refine HF.out.mono ?_; rintro e w1 ⟨rfl, hb1⟩; have hN1 := hN0.ext hb1; clear hN0; have hT1 := Blk.new w1 30 #[.int .i64 0, .int .i64 0, .int .i64 0, .int .i64 0, .int .i64 0, .int .i64 0, .int .i64 0] _ rfl) | (((with_reducible show wpList _ _ _ (⟨_, .store 30 _ _, _, _, _, _⟩ :: _) _ _); refine wpList_store_blk (by rfl) 30 _ _ (by rfl) _ _ (by rfl) (by rfl) _ _ hT1 (by kernel_rfl) (by rfl) ?_ ?_; (next => first | (simp [Value.oneCell']; done) | (simp [Value.oneCell', Edt.cells]; done) | exact Are.ordArr_one _); intro w3 hT3 hU3); have hN3 := (hN1.alloc (.cells #[.int .i64 0, .int .i64 0, .int .i64 0, .int .i64 0, .int .i64 0, .int .i64 0, .int .i64 0] 30)).upd (by have := hN1.lt; omega) hU3) | ((with_reducible show wpList _ _ _ (⟨_, .load 30 _, _, _, _, _⟩ :: _) _ _); refine wpList_load_ho 30 _ (by rfl) (by rfl) ?_ (.pointer (some ⟨_, 0, none⟩)) (by rfl) ?_ _ Tryz.underlying30 rfl ?_ ?_; rotate_left; (next => (repeat (first | (with_reducible refine BlkAt.new _ _ _ _ ?_; ((try simp) <;> omega)) | (with_reducible assumption) | (with_reducible refine Blk.at (t := ?_) ?_; rotate_left; with_reducible assumption) | with_reducible refine BlkAt.alloc ?_ _ | with_reducible refine BlkAt.drew ?_ | (with_reducible refine BlkAt.setSame ?_ _ _) | (with_reducible refine BlkAt.setCell ?_ ?_ _; rotate_left; ((try simp) <;> omega)) | (with_reducible refine BlkAt.ext (w := ?_) ?_ ?_; rotate_left 2; (with_reducible assumption)) | fail))); (next => kernel_rfl)) | ((with_reducible show wpList _ _ _ (⟨_, .store 30 _ _, _, _, _, _⟩ :: _) _ _); refine wpList_store_blk (by rfl) 30 _ _ (by rfl) _ _ (by rfl) (by rfl) _ _ hN3 (by kernel_rfl) (by rfl) ?_ ?_; (next => first | (simp [Value.oneCell']; done) | (simp [Value.oneCell', Edt.cells]; done) | exact Are.ordArr_one _); intro w4 hN4 hU4) | fail)
  have hb3 : Below w1.heap.size w1 w3 := below_upd (by (repeat (first | with_reducible exact Below.refl _ _ | (with_reducible assumption) | (with_reducible refine below_alloc ?_ _) | (with_reducible refine below_ext (w1 := ?_) ?_ ?_; rotate_left 2; (with_reducible assumption)) | (with_reducible refine Below.setCell ?_ ?_ _; rotate_left; ((try simp) <;> omega)) | (with_reducible refine Below.drew ?_) | (with_reducible refine below_drewN ?_ _) | fail))) (Nat.le_refl _) hU3
  have hN5 : Blk w4 w.heap.size 30 o.arr := hN4
  exact bodyPost_ret (results_ord2 rfl _ _ _ _ _ (by rfl) (by rfl) hN5 rfl) rfl ⟨rfl, below_upd (below_ext (below_ext hb0 hb1) hb3) (Nat.le_refl _) hU4⟩
/-! ### a side's front -/
def frontO (n : Int) (os : List Ord) : Option Ord := if n = 0 ∨ n = 1 then (srt n os).head? else none
/-! ### a side's best price -/
theorem best_off (p : Option Addr) (i : Int) (h : p = none ∨ (i ≠ 0 ∧ i ≠ 1)) (w : World) : Calls Tryz.prog 69 #[.pointer p, .int .i64 i] w fun e w' => e = .returned (.tuple #[.int .i64 0, .bool false]) ∧ Below w.heap.size w w' := by
  have HO := Lib.hid (fun W => of_no (w := W) i h)
  clear h
  go_enter Tryz.func69, Tryz.ntmps69
  go_wp2_with (first | (go_at_call 56; refine (HO.out _).mono ?_; rintro e w1 ⟨rfl, rfl⟩) | fail)
  go_ret2
  exact ⟨rfl, by (repeat (first | with_reducible exact Below.refl _ _ | (with_reducible assumption) | (with_reducible refine below_alloc ?_ _) | (with_reducible refine below_ext (w1 := ?_) ?_ ?_; rotate_left 2; (with_reducible assumption)) | (with_reducible refine Below.setCell ?_ ?_ _; rotate_left; ((try simp) <;> omega)) | (with_reducible refine Below.drew ?_) | (with_reducible refine below_drewN ?_ _) | fail))⟩
theorem lbest_any {d : Bd} (B : Bw w c b N most k d (Rr ss)) (I : Bi N most ss d) {n : Nat} (hn : n < 2) : ∃ l : Lvl, l.price = ((frontO (n : Int) (osOf ss)).getD ord0).price ∧ ∀ W, Below w.heap.size w W → Calls Tryz.prog 97 #[.pointer (some ⟨d.l n, 0, none⟩)] W fun e w' => e = .returned (.tuple #[.agg l.arr, .bool (frontO (n : Int) (osOf ss)).isSome]) ∧ Below W.heap.size W w' := by
  have S := I.si n hn
  have hLa := B.la n hn
  unfold frontO
  rw [if_pos (by omega)]
  cases hl : d.ls n with
  | nil =>
    rw [hl] at S hLa
    rw [ls_none hn S]
    exact ⟨⟨0, 0, 0, 0⟩, rfl, fun W hW => Lad.best_none (hLa.ext hW)⟩
  | cons l t =>
    obtain ⟨_, o, _, r, _, _, h1, _, h2⟩ := ls_front hn S hl
    rw [h2]
    rw [hl] at hLa
    exact ⟨l, h1.symm, fun W hW => Lad.best_some (hLa.ext hW)⟩
theorem best_any (B : Bs w c b N most k ss) (i : Int) : Calls Tryz.prog 69 #[.pointer (some ⟨b, 0, none⟩), .int .i64 i] w fun e w' => e = .returned (.tuple #[.int .i64 ((frontO i (osOf ss)).getD ord0).price, .bool (frontO i (osOf ss)).isSome]) ∧ Below w.heap.size w w' := by
  by_cases h : i = 0 ∨ i = 1
  · obtain ⟨n, rfl, hn⟩ : ∃ n : Nat, i = (n : Int) ∧ n < 2 := ⟨i.toNat, by omega, by omega⟩
    obtain ⟨d, B, I⟩ := B
    obtain ⟨c0, c1, c2, c3, c4, c5⟩ := B.cells
    have hbl := B.lt
    obtain ⟨l, hlp, hL⟩ := lbest_any B I hn
    have HB := Lib.hid hL
    have HO := Lib.hid (fun W => of_yes (w := W) (b := b) (m := n) (n : Int) rfl hn)
    rw [← hlp]
    have hn2 : n = 0 ∨ n = 1 := by omega
    generalize (frontO (n : Int) (osOf ss)).isSome = f at *
    clear B I hL hlp h
    rcases hn2 with rfl | rfl
    all_goals
      go_enter Tryz.func69, Tryz.ntmps69
      go_wp2_with (first | (go_at_call 56; refine (HO.out _).mono ?_; rintro e w1 ⟨rfl, rfl⟩) | (go_at_call 97; refine (HB.out _ (Below.refl _ _)).mono ?_; rintro e w1 ⟨rfl, hb1⟩; have hL1 := Blk.new w1 171 lvlZ _ rfl) | (((with_reducible show wpList _ _ _ (⟨_, .store 171 _ _, _, _, _, _⟩ :: _) _ _); refine wpList_store_blk (by rfl) 171 _ _ (by rfl) _ _ (by rfl) (by rfl) _ _ hL1 (by kernel_rfl) (by rfl) ?_ ?_; (next => simp [Value.oneCell', Lvl.arr, Lvl.cells, Lad.lvlZ]); intro w2 hL2 hU2); have hb12 : Below w1.heap.size w1 w2 := below_upd (by (repeat (first | with_reducible exact Below.refl _ _ | (with_reducible assumption) | (with_reducible refine below_alloc ?_ _) | (with_reducible refine below_ext (w1 := ?_) ?_ ?_; rotate_left 2; (with_reducible assumption)) | (with_reducible refine Below.setCell ?_ ?_ _; rotate_left; ((try simp) <;> omega)) | (with_reducible refine Below.drew ?_) | (with_reducible refine below_drewN ?_ _) | fail))) (Nat.le_refl _) hU2; have cl0 : w2.cell? ⟨w1.heap.size, 0, none⟩ = some (.int .i64 l.price) := hL2.cell 0; clear hL2) | fail)
      go_ret2
      exact ⟨rfl, below_ext hb1 hb12⟩
  · unfold frontO
    rw [if_neg h]
    exact best_off _ i (.inr (by omega)) w
/-! ### the quantity at a price -/
end
end Bk
end Go.Proofs.YtbnappiaomiciaaGreat
