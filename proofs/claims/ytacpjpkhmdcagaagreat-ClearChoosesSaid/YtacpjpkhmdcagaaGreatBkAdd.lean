/- This text proves the contract of a book's Add. It has no conditions but those that it states. -/
import Derived.Test.YtacpjpkhmdcagaaGreatBkAd
import Derived.Test.YtacpjpkhmdcagaaGreatFree
namespace Go.Proofs.YtacpjpkhmdcagaaGreat
set_option linter.unusedVariables false
open Go.RowKit
namespace Bk
set_option maxHeartbeats 1000000
set_option maxRecDepth 10000
open Are (St Ar ord0 ordArr_one takeS)
open Lad (La LStep Fresh)
open Fif (Fq up up_same up_ne)
open Idx (R3 Xq Wf)
theorem Xq.mono1 {w : World} {xb bs bm n : Nat} {L : List R3} (x : Xq w xb bs bm n L) (h : n < 1000) : Xq w xb bs bm (n + 1) L :=
  ⟨x.hd, x.os.imp fun D h1 => ⟨h1.1.mono (Nat.le_succ _), h1.2⟩, x.om.imp fun D h1 => ⟨h1.1.mono (Nat.le_succ _), h1.2⟩, x.ne, x.wf, x.uniq, by have := x.len; omega⟩
theorem Bs.mono1 {w : World} {c : Nat → Nat} {b N most k : Nat} {ss : List Sl} (B : Bs w c b N most k ss) (h : k < 1000) : Bs w c b N most (k + 1) ss := by
  obtain ⟨d, B, I⟩ := B
  exact ⟨d, ⟨B.hd, B.ar, B.la, B.fq, Xq.mono1 B.ix h, B.cb, B.ca, B.cl, B.cq, B.cx, B.cv, B.out⟩, I⟩
def sided (i : Int) : Bool := decide (i = 0 ∨ i = 1)
def inRng (o : Ord) : Bool := decide ((1 ≤ o.price ∧ o.price ≤ 1099511627776) ∧ 1 ≤ o.qty ∧ o.qty ≤ 4294967296)
/-- What Add answers. -/
def addF (N most : Nat) (os : List Ord) (o : Ord) : Int :=
  if sided o.side = false then 1 else if inRng o = false then 9 else if (fndI o.id os).isSome then 6 else if roomO N most o.side o.price os = false then 7 else 0
def addO (N most : Nat) (os : List Ord) (o : Ord) : List Ord := if addF N most os o = 0 then os ++ [o] else os
theorem add_bad (p : Option Addr) (o : Ord) (h : p = none ∨ (o.side ≠ 0 ∧ o.side ≠ 1)) (w : World) : Calls Tryz.prog 24 #[.pointer p, .agg o.arr] w fun e w' => e = .returned (.int .i64 1) ∧ Below w.heap.size w w' := by
  have HO := Lib.hid (fun W => of_no (w := W) o.side h)
  have hO : Blk (w.alloc (.cells o.arr 52)) w.heap.size 52 o.arr := Blk.new _ _ _ _ rfl
  have c2 : (w.alloc (.cells o.arr 52)).cell? ⟨w.heap.size, 2, none⟩ = some (.int .i64 o.side) := hO.cell 2
  clear hO h
  go_enter Tryz.func24, Tryz.ntmps24
  go_wp2_with (first | (go_at_call 45; refine (HO.out _).mono ?_; rintro e w1 ⟨rfl, rfl⟩) | fail)
  go_ret
  exact ⟨rfl, by (repeat (first | with_reducible exact Below.refl _ _ | (with_reducible assumption) | (with_reducible refine below_alloc ?_ _) | (with_reducible refine below_ext (w1 := ?_) ?_ ?_; rotate_left 2; (with_reducible assumption)) | (with_reducible refine Below.setCell ?_ ?_ _; rotate_left; ((try simp) <;> omega)) | (with_reducible refine Below.drew ?_) | (with_reducible refine below_drewN ?_ _) | fail))⟩
section
variable {w : World} {c : Nat → Nat} {b N most k : Nat} {ss : List Sl}
theorem add_rng {n : Nat} (hn : n < 2) (o : Ord) (hsd : o.side = (n : Int)) (hr : inRng o = false) : Calls Tryz.prog 24 #[.pointer (some ⟨b, 0, none⟩), .agg o.arr] w fun e w' => e = .returned (.int .i64 9) ∧ Below w.heap.size w w' := by
  have HO := Lib.hid (fun W => of_yes (w := W) (b := b) (m := n) o.side hsd hn)
  clear hsd
  have hO : Blk (w.alloc (.cells o.arr 52)) w.heap.size 52 o.arr := Blk.new _ _ _ _ rfl
  have c2 : (w.alloc (.cells o.arr 52)).cell? ⟨w.heap.size, 2, none⟩ = some (.int .i64 o.side) := hO.cell 2
  have c3 : (w.alloc (.cells o.arr 52)).cell? ⟨w.heap.size, 3, none⟩ = some (.int .i64 o.price) := hO.cell 3
  have c4 : (w.alloc (.cells o.arr 52)).cell? ⟨w.heap.size, 4, none⟩ = some (.int .i64 o.qty) := hO.cell 4
  unfold inRng at hr
  rw [decide_eq_false_iff_not] at hr
  clear hO
  by_cases p1 : o.price < 1
  · clear hr
    go_enter Tryz.func24, Tryz.ntmps24
    go_wp2_with (first | (go_at_call 45; refine (HO.out _).mono ?_; rintro e w1 ⟨rfl, rfl⟩) | fail)
    go_ret
    exact ⟨rfl, by (repeat (first | with_reducible exact Below.refl _ _ | (with_reducible assumption) | (with_reducible refine below_alloc ?_ _) | (with_reducible refine below_ext (w1 := ?_) ?_ ?_; rotate_left 2; (with_reducible assumption)) | (with_reducible refine Below.setCell ?_ ?_ _; rotate_left; ((try simp) <;> omega)) | (with_reducible refine Below.drew ?_) | (with_reducible refine below_drewN ?_ _) | fail))⟩
  by_cases p2 : 1099511627776 < o.price
  · clear hr
    go_enter Tryz.func24, Tryz.ntmps24
    go_wp2_with (first | (go_at_call 45; refine (HO.out _).mono ?_; rintro e w1 ⟨rfl, rfl⟩) | fail)
    go_ret
    exact ⟨rfl, by (repeat (first | with_reducible exact Below.refl _ _ | (with_reducible assumption) | (with_reducible refine below_alloc ?_ _) | (with_reducible refine below_ext (w1 := ?_) ?_ ?_; rotate_left 2; (with_reducible assumption)) | (with_reducible refine Below.setCell ?_ ?_ _; rotate_left; ((try simp) <;> omega)) | (with_reducible refine Below.drew ?_) | (with_reducible refine below_drewN ?_ _) | fail))⟩
  by_cases p3 : o.qty < 1
  · clear hr
    go_enter Tryz.func24, Tryz.ntmps24
    go_wp2_with (first | (go_at_call 45; refine (HO.out _).mono ?_; rintro e w1 ⟨rfl, rfl⟩) | fail)
    go_ret
    exact ⟨rfl, by (repeat (first | with_reducible exact Below.refl _ _ | (with_reducible assumption) | (with_reducible refine below_alloc ?_ _) | (with_reducible refine below_ext (w1 := ?_) ?_ ?_; rotate_left 2; (with_reducible assumption)) | (with_reducible refine Below.setCell ?_ ?_ _; rotate_left; ((try simp) <;> omega)) | (with_reducible refine Below.drew ?_) | (with_reducible refine below_drewN ?_ _) | fail))⟩
  · have p4 : 4294967296 < o.qty := by omega
    clear hr
    go_enter Tryz.func24, Tryz.ntmps24
    go_wp2_with (first | (go_at_call 45; refine (HO.out _).mono ?_; rintro e w1 ⟨rfl, rfl⟩) | fail)
    go_ret
    exact ⟨rfl, by (repeat (first | with_reducible exact Below.refl _ _ | (with_reducible assumption) | (with_reducible refine below_alloc ?_ _) | (with_reducible refine below_ext (w1 := ?_) ?_ ?_; rotate_left 2; (with_reducible assumption)) | (with_reducible refine Below.setCell ?_ ?_ _; rotate_left; ((try simp) <;> omega)) | (with_reducible refine Below.drew ?_) | (with_reducible refine below_drewN ?_ _) | fail))⟩
theorem add_twice (B : Bs w c b N most k ss) {n : Nat} (hn : n < 2) (o : Ord) (hsd : o.side = (n : Int)) (hr : inRng o = true) {x : Sl} (hx : x ∈ ss) (he : x.2.id = o.id) : Calls Tryz.prog 24 #[.pointer (some ⟨b, 0, none⟩), .agg o.arr] w fun e w' => e = .returned (.int .i64 6) ∧ Below w.heap.size w w' := by
  obtain ⟨d, B, I⟩ := B
  obtain ⟨_, _, _, _, _, c5⟩ := B.cells
  have hbl := B.lt
  have hok := (I.ok x hx).2.2.2
  have HX := Lib.hid (fun W (hW : Below w.heap.size w W) => Idx.get_any (B.ix.ext hW) (s := 0) (i := x.2.id) wf0 hok)
  rw [look_yes I.ids hx, he] at HX
  have HO := Lib.hid (fun W => of_yes (w := W) (b := b) (m := n) o.side hsd hn)
  clear hsd
  have hO : Blk (w.alloc (.cells o.arr 52)) w.heap.size 52 o.arr := Blk.new _ _ _ _ rfl
  have hb0 : Below w.heap.size w (w.alloc (.cells o.arr 52)) := by (repeat (first | with_reducible exact Below.refl _ _ | (with_reducible assumption) | (with_reducible refine below_alloc ?_ _) | (with_reducible refine below_ext (w1 := ?_) ?_ ?_; rotate_left 2; (with_reducible assumption)) | (with_reducible refine Below.setCell ?_ ?_ _; rotate_left; ((try simp) <;> omega)) | (with_reducible refine Below.drew ?_) | (with_reducible refine below_drewN ?_ _) | fail))
  generalize hW0 : w.alloc (.cells o.arr 52) = w0 at hO hb0
  have HW0 := Lib.hid hW0
  clear hW0 B I hok
  have k0 : w0.cell? ⟨w.heap.size, 0, none⟩ = some (.int .i64 o.id) := hO.cell 0
  have k2 : w0.cell? ⟨w.heap.size, 2, none⟩ = some (.int .i64 o.side) := hO.cell 2
  have k3 : w0.cell? ⟨w.heap.size, 3, none⟩ = some (.int .i64 o.price) := hO.cell 3
  have k4 : w0.cell? ⟨w.heap.size, 4, none⟩ = some (.int .i64 o.qty) := hO.cell 4
  have d5 : w0.cell? ⟨b, 5, none⟩ = some (.pointer (some ⟨d.x, 0, none⟩)) := (hb0.cell (p := ⟨b, 5, none⟩) hbl).trans c5
  have hbl0 : b < w0.heap.size := Nat.lt_of_lt_of_le hbl hb0.size
  have hwl0 := hO.lt
  unfold inRng at hr
  rw [decide_eq_true_eq] at hr
  have q1 : ¬ o.price < 1 := by omega
  have q2 : ¬ 1099511627776 < o.price := by omega
  have q3 : ¬ o.qty < 1 := by omega
  have q4 : ¬ 4294967296 < o.qty := by omega
  unfold Idx.key at HX
  simp only [Option.elim, Option.isSome] at HX
  clear hO hr c5
  go_enter Tryz.func24, Tryz.ntmps24
  go_wp2_with fail
  rw [HW0.out]
  go_wp2_with (first | (go_at_call 45; refine (HO.out _).mono ?_; rintro e w1 ⟨rfl, rfl⟩) | fail)
  refine wp_region_below_lit (by kernel_rfl) (by kernel_rfl) ?_
  repeat (first | go_big_quiet_skip | (go_big_quiet_want; go_big_quiet_op; go_big_quiet_on) | (refine q_load_fld (by rfl) _ _ (by rfl) (fun _ h => h) _ _ (by rfl) ?_ ?_ ?_ ?_ ?_ ?_; rotate_left; (next => (repeat (first | (with_reducible refine BlkAt.new _ _ _ _ ?_; ((try simp) <;> omega)) | (with_reducible assumption) | (with_reducible refine Blk.at (t := ?_) ?_; rotate_left; with_reducible assumption) | with_reducible refine BlkAt.alloc ?_ _ | with_reducible refine BlkAt.drew ?_ | (with_reducible refine BlkAt.setSame ?_ _ _) | (with_reducible refine BlkAt.setCell ?_ ?_ _; rotate_left; ((try simp) <;> omega)) | (with_reducible refine BlkAt.ext (w := ?_) ?_ ?_; rotate_left 2; (with_reducible assumption)) | fail))); rotate_left; (next => first | (simp only [go_sem]; rfl) | rfl); (next => kernel_rfl); (try simp only [Act.put, List.setIfInBounds_toArray, List.set_cons_zero, List.set_cons_succ])) | (refine q_rem (by rfl) _ _ _ _ (by rfl) _ _ (by rfl) (by rfl) (by kernel_rfl) (by kernel_rfl) ?_ ?_; (next => omega); (try simp only [Act.put, List.setIfInBounds_toArray, List.set_cons_zero, List.set_cons_succ])) | (refine q_step_ex (by rfl) ?_; apply Exists.intro; refine ⟨fun W hW => ?_, ?_⟩; (next => (have hWc := fun (b o : Nat) (h : b < _) => (Ext.out hW).cell (p := ⟨b, o, none⟩) h); (try have hLK := HLK.out W (Ext.out hW)); go_simp; first | rfl | (go_at_call 47; refine (key_any _ _).mono ?_; rintro e w'' ⟨rfl, hb2⟩; exact ⟨rfl, below_ext hW hb2⟩) | (go_at_call 46; refine (HX.out _ (below_ext hb0 hW)).mono ?_; rintro e w'' ⟨rfl, hb2⟩; exact ⟨rfl, below_ext hW hb2⟩) | fail); (try simp only [Act.put, List.setIfInBounds_toArray, List.set_cons_zero, List.set_cons_succ])) | fail)
  refine wpQuiet_nil ?_
  intro w1 hb1
  go_wp2_with fail
  go_ret
  exact ⟨rfl, below_ext hb0 hb1⟩
theorem add_full (B : Bs w c b N most k ss) {n : Nat} (hn : n < 2) (o : Ord) (hwf : Wf o.id) (hsd : o.side = (n : Int)) (hr : inRng o = true) (hx : ∀ x ∈ ss, x.2.id ≠ o.id) (hf : roomO N most o.side o.price (osOf ss) = false) : Calls Tryz.prog 24 #[.pointer (some ⟨b, 0, none⟩), .agg o.arr] w fun e w' => e = .returned (.int .i64 7) ∧ Below w.heap.size w w' := by
  unfold inRng at hr
  rw [decide_eq_true_eq] at hr
  have HR := Lib.hid (fun W (hW : Below w.heap.size w W) => room_any (B.ext hW) o.side o.price ⟨by omega, by omega⟩)
  rw [hf] at HR
  obtain ⟨d, B, I⟩ := B
  obtain ⟨_, _, _, _, _, c5⟩ := B.cells
  have hbl := B.lt
  have HX := Lib.hid (fun W (hW : Below w.heap.size w W) => Idx.get_any (B.ix.ext hW) (s := 0) (i := o.id) wf0 hwf)
  rw [look_no hx] at HX
  have HO := Lib.hid (fun W => of_yes (w := W) (b := b) (m := n) o.side hsd hn)
  clear hsd
  have hO : Blk (w.alloc (.cells o.arr 52)) w.heap.size 52 o.arr := Blk.new _ _ _ _ rfl
  have hb0 : Below w.heap.size w (w.alloc (.cells o.arr 52)) := by (repeat (first | with_reducible exact Below.refl _ _ | (with_reducible assumption) | (with_reducible refine below_alloc ?_ _) | (with_reducible refine below_ext (w1 := ?_) ?_ ?_; rotate_left 2; (with_reducible assumption)) | (with_reducible refine Below.setCell ?_ ?_ _; rotate_left; ((try simp) <;> omega)) | (with_reducible refine Below.drew ?_) | (with_reducible refine below_drewN ?_ _) | fail))
  generalize hW0 : w.alloc (.cells o.arr 52) = w0 at hO hb0
  have HW0 := Lib.hid hW0
  clear hW0 B I
  have k0 : w0.cell? ⟨w.heap.size, 0, none⟩ = some (.int .i64 o.id) := hO.cell 0
  have k2 : w0.cell? ⟨w.heap.size, 2, none⟩ = some (.int .i64 o.side) := hO.cell 2
  have k3 : w0.cell? ⟨w.heap.size, 3, none⟩ = some (.int .i64 o.price) := hO.cell 3
  have k4 : w0.cell? ⟨w.heap.size, 4, none⟩ = some (.int .i64 o.qty) := hO.cell 4
  have d5 : w0.cell? ⟨b, 5, none⟩ = some (.pointer (some ⟨d.x, 0, none⟩)) := (hb0.cell (p := ⟨b, 5, none⟩) hbl).trans c5
  have hbl0 : b < w0.heap.size := Nat.lt_of_lt_of_le hbl hb0.size
  have hwl0 := hO.lt
  have q1 : ¬ o.price < 1 := by omega
  have q2 : ¬ 1099511627776 < o.price := by omega
  have q3 : ¬ o.qty < 1 := by omega
  have q4 : ¬ 4294967296 < o.qty := by omega
  unfold Idx.key at HX
  simp only [Option.elim, Option.isSome] at HX
  clear hr c5
  have HB := Lib.hid hO
  clear hO
  go_enter Tryz.func24, Tryz.ntmps24
  go_wp2_with fail
  rw [HW0.out]
  go_wp2_with (first | (go_at_call 45; refine (HO.out _).mono ?_; rintro e w1 ⟨rfl, rfl⟩) | fail)
  refine wp_region_below_lit (by kernel_rfl) (by kernel_rfl) ?_
  repeat (first | go_big_quiet_skip | (go_big_quiet_want; go_big_quiet_op; go_big_quiet_on) | (refine q_load_fld (by rfl) _ _ (by rfl) (fun _ h => h) _ _ (by rfl) ?_ ?_ ?_ ?_ ?_ ?_; rotate_left; (next => (repeat (first | (with_reducible refine BlkAt.new _ _ _ _ ?_; ((try simp) <;> omega)) | (with_reducible assumption) | (with_reducible refine Blk.at (t := ?_) ?_; rotate_left; with_reducible assumption) | with_reducible refine BlkAt.alloc ?_ _ | with_reducible refine BlkAt.drew ?_ | (with_reducible refine BlkAt.setSame ?_ _ _) | (with_reducible refine BlkAt.setCell ?_ ?_ _; rotate_left; ((try simp) <;> omega)) | (with_reducible refine BlkAt.ext (w := ?_) ?_ ?_; rotate_left 2; (with_reducible assumption)) | fail))); rotate_left; (next => first | (simp only [go_sem]; rfl) | rfl); (next => kernel_rfl); (try simp only [Act.put, List.setIfInBounds_toArray, List.set_cons_zero, List.set_cons_succ])) | (refine q_rem (by rfl) _ _ _ _ (by rfl) _ _ (by rfl) (by rfl) (by kernel_rfl) (by kernel_rfl) ?_ ?_; (next => omega); (try simp only [Act.put, List.setIfInBounds_toArray, List.set_cons_zero, List.set_cons_succ])) | (refine q_step_ex (by rfl) ?_; apply Exists.intro; refine ⟨fun W hW => ?_, ?_⟩; (next => (have hWc := fun (b o : Nat) (h : b < _) => (Ext.out hW).cell (p := ⟨b, o, none⟩) h); (try have hLK := HLK.out W (Ext.out hW)); go_simp; first | rfl | (go_at_call 47; refine (key_any _ _).mono ?_; rintro e w'' ⟨rfl, hb2⟩; exact ⟨rfl, below_ext hW hb2⟩) | (go_at_call 46; refine (HX.out _ (below_ext hb0 hW)).mono ?_; rintro e w'' ⟨rfl, hb2⟩; exact ⟨rfl, below_ext hW hb2⟩) | fail); (try simp only [Act.put, List.setIfInBounds_toArray, List.set_cons_zero, List.set_cons_succ])) | fail)
  refine wpQuiet_nil ?_
  intro w1 hb1
  have j2 : w1.cell? ⟨w.heap.size, 2, none⟩ = some (.int .i64 o.side) := (HB.out.ext hb1).cell 2
  have j3 : w1.cell? ⟨w.heap.size, 3, none⟩ = some (.int .i64 o.price) := (HB.out.ext hb1).cell 3
  have hb01 := below_ext hb0 hb1
  clear k0 k2 k3 k4 d5
  go_wp2_with (first | (go_at_call 48; refine (HR.out _ hb01).mono ?_; rintro e w2 ⟨rfl, hb2⟩) | fail)
  go_ret
  exact ⟨rfl, below_ext hb01 hb2⟩
theorem add_ok (B : Bs w c b N most k ss) {n : Nat} (hn : n < 2) (o : Ord) (hwf : Wf o.id) (hsd : o.side = (n : Int)) (hr : inRng o = true) (hx : ∀ x ∈ ss, x.2.id ≠ o.id) (hf : roomO N most o.side o.price (osOf ss) = true) (hk : k < 1000) : Calls Tryz.prog 24 #[.pointer (some ⟨b, 0, none⟩), .agg o.arr] w fun e w' => e = .returned (.int .i64 0) ∧ ∃ c' kk, Bs w' c' b N most (k + 1) (ss ++ [(kk, o)]) ∧ Cs c c' w w' := by
  unfold inRng at hr
  rw [decide_eq_true_eq] at hr
  have HR := Lib.hid (fun W (hW : Below w.heap.size w W) => room_any (B.ext hW) o.side o.price ⟨by omega, by omega⟩)
  rw [hf] at HR
  obtain ⟨d, B, I⟩ := B
  rw [hsd] at hf
  obtain ⟨kk, qn, st, fl, ls, u, l, hT, hP, hQ, hX, hI⟩ := add_plan I hn (o := o) ⟨by omega, hr.1, hr.2, hwf⟩ hsd hx hf
  have HT := Lib.hid hT
  have HP := Lib.hid hP
  have HQ := Lib.hid hQ
  have HX := Lib.hid hX
  have HI := Lib.hid hI
  have HG := Lib.hid (fun W (hW : Below w.heap.size w W) => Idx.get_any (B.ix.ext hW) (s := 0) (i := o.id) wf0 hwf)
  rw [look_no hx] at HG
  clear hT hP hQ hX hI I hx hf
  have hbl := B.lt
  have h9 : c w.heap.size = 9 := B.out _ (Nat.le_refl _)
  have HO := Lib.hid (fun W => of_yes (w := W) (b := b) (m := n) o.side hsd hn)
  clear hsd
  have hO : Blk (w.alloc (.cells o.arr 52)) w.heap.size 52 o.arr := Blk.new _ _ _ _ rfl
  have hb0 : Below w.heap.size w (w.alloc (.cells o.arr 52)) := by (repeat (first | with_reducible exact Below.refl _ _ | (with_reducible assumption) | (with_reducible refine below_alloc ?_ _) | (with_reducible refine below_ext (w1 := ?_) ?_ ?_; rotate_left 2; (with_reducible assumption)) | (with_reducible refine Below.setCell ?_ ?_ _; rotate_left; ((try simp) <;> omega)) | (with_reducible refine Below.drew ?_) | (with_reducible refine below_drewN ?_ _) | fail))
  generalize hW0 : w.alloc (.cells o.arr 52) = w0 at hO hb0
  have HW0 := Lib.hid hW0
  have B0 := Lib.hid (B.ext hb0)
  obtain ⟨_, _, _, _, _, c5⟩ := B0.out.cells
  clear hW0 B
  have k0 : w0.cell? ⟨w.heap.size, 0, none⟩ = some (.int .i64 o.id) := hO.cell 0
  have k2 : w0.cell? ⟨w.heap.size, 2, none⟩ = some (.int .i64 o.side) := hO.cell 2
  have k3 : w0.cell? ⟨w.heap.size, 3, none⟩ = some (.int .i64 o.price) := hO.cell 3
  have k4 : w0.cell? ⟨w.heap.size, 4, none⟩ = some (.int .i64 o.qty) := hO.cell 4
  have hbl0 : b < w0.heap.size := Nat.lt_of_lt_of_le hbl hb0.size
  have hwl0 := hO.lt
  have q1 : ¬ o.price < 1 := by omega
  have q2 : ¬ 1099511627776 < o.price := by omega
  have q3 : ¬ o.qty < 1 := by omega
  have q4 : ¬ 4294967296 < o.qty := by omega
  unfold Idx.key at HG
  simp only [Option.elim, Option.isSome] at HG
  have HB := Lib.hid hO
  have HCS := Lib.hid (Cs.of_below (c := c) hb0)
  clear hr hO
  have hn2 : n = 0 ∨ n = 1 := by omega
  rcases hn2 with rfl | rfl
  · go_enter Tryz.func24, Tryz.ntmps24
    go_wp2_with fail
    rw [HW0.out]
    go_wp2_with (first | (go_at_call 45; refine (HO.out _).mono ?_; rintro e w1 ⟨rfl, rfl⟩) | fail)
    refine wp_region_below_lit (by kernel_rfl) (by kernel_rfl) ?_
    repeat (first | go_big_quiet_skip | (go_big_quiet_want; go_big_quiet_op; go_big_quiet_on) | (refine q_load_fld (by rfl) _ _ (by rfl) (fun _ h => h) _ _ (by rfl) ?_ ?_ ?_ ?_ ?_ ?_; rotate_left; (next => (repeat (first | (with_reducible refine BlkAt.new _ _ _ _ ?_; ((try simp) <;> omega)) | (with_reducible assumption) | (with_reducible refine Blk.at (t := ?_) ?_; rotate_left; with_reducible assumption) | with_reducible refine BlkAt.alloc ?_ _ | with_reducible refine BlkAt.drew ?_ | (with_reducible refine BlkAt.setSame ?_ _ _) | (with_reducible refine BlkAt.setCell ?_ ?_ _; rotate_left; ((try simp) <;> omega)) | (with_reducible refine BlkAt.ext (w := ?_) ?_ ?_; rotate_left 2; (with_reducible assumption)) | fail))); rotate_left; (next => first | (simp only [go_sem]; rfl) | rfl); (next => kernel_rfl); (try simp only [Act.put, List.setIfInBounds_toArray, List.set_cons_zero, List.set_cons_succ])) | (refine q_rem (by rfl) _ _ _ _ (by rfl) _ _ (by rfl) (by rfl) (by kernel_rfl) (by kernel_rfl) ?_ ?_; (next => omega); (try simp only [Act.put, List.setIfInBounds_toArray, List.set_cons_zero, List.set_cons_succ])) | (refine q_step_ex (by rfl) ?_; apply Exists.intro; refine ⟨fun W hW => ?_, ?_⟩; (next => (have hWc := fun (b o : Nat) (h : b < _) => (Ext.out hW).cell (p := ⟨b, o, none⟩) h); (try have hLK := HLK.out W (Ext.out hW)); go_simp; first | rfl | (go_at_call 47; refine (key_any _ _).mono ?_; rintro e w'' ⟨rfl, hb2⟩; exact ⟨rfl, below_ext hW hb2⟩) | (go_at_call 46; refine (HG.out _ (below_ext hb0 hW)).mono ?_; rintro e w'' ⟨rfl, hb2⟩; exact ⟨rfl, below_ext hW hb2⟩) | fail); (try simp only [Act.put, List.setIfInBounds_toArray, List.set_cons_zero, List.set_cons_succ])) | fail)
    refine wpQuiet_nil ?_
    intro w1 hb1
    have j2 : w1.cell? ⟨w.heap.size, 2, none⟩ = some (.int .i64 o.side) := (HB.out.ext hb1).cell 2
    have j3 : w1.cell? ⟨w.heap.size, 3, none⟩ = some (.int .i64 o.price) := (HB.out.ext hb1).cell 3
    have hb01 := below_ext hb0 hb1
    clear k0 k2 k3 k4 c5
    go_wp2_with (first | (go_at_call 48; refine (HR.out _ hb01).mono ?_; rintro e w2 ⟨rfl, hb2⟩) | fail)
    have hb12 := below_ext hb1 hb2
    have hO2 := HB.out.ext hb12
    have B2 := Lib.hid (B0.out.ext hb12)
    have d0 := B2.out.cells.1
    have hbl2 := B2.out.lt
    have hwl2 := hO2.lt
    clear j2 j3 HR HG
    refine wp_region_mid (C := fun W => Ext _ W) 5 _ (by kernel_rfl) (by kernel_rfl) rfl rfl (Below.refl _ _).drew ?_
    simp only [List.take_succ_cons, List.take_zero, List.drop_succ_cons, List.drop_zero]
    repeat (first | go_big_quiet_skip | (go_big_quiet_want; go_big_quiet_op; go_big_quiet_on) | (refine q_load_blk (by rfl) 52 _ (by rfl) ?_ (.pointer (some ⟨_, 0, none⟩)) (by rfl) ?_ _ (fun _ h => h) Tryz.underlying52 rfl ?_ ?_; rotate_left; (next => (repeat (first | (with_reducible refine BlkAt.new _ _ _ _ ?_; ((try simp) <;> omega)) | (with_reducible assumption) | (with_reducible refine Blk.at (t := ?_) ?_; rotate_left; with_reducible assumption) | with_reducible refine BlkAt.alloc ?_ _ | with_reducible refine BlkAt.drew ?_ | (with_reducible refine BlkAt.setSame ?_ _ _) | (with_reducible refine BlkAt.setCell ?_ ?_ _; rotate_left; ((try simp) <;> omega)) | (with_reducible refine BlkAt.ext (w := ?_) ?_ ?_; rotate_left 2; (with_reducible assumption)) | fail))); (next => kernel_rfl); (try simp only [Act.put, List.setIfInBounds_toArray, List.set_cons_zero, List.set_cons_succ])) | (refine q_load_fld (by rfl) _ _ (by rfl) (fun _ h => h) _ _ (by rfl) ?_ ?_ ?_ ?_ ?_ ?_; rotate_left; (next => (repeat (first | (with_reducible refine BlkAt.new _ _ _ _ ?_; ((try simp) <;> omega)) | (with_reducible assumption) | (with_reducible refine Blk.at (t := ?_) ?_; rotate_left; with_reducible assumption) | with_reducible refine BlkAt.alloc ?_ _ | with_reducible refine BlkAt.drew ?_ | (with_reducible refine BlkAt.setSame ?_ _ _) | (with_reducible refine BlkAt.setCell ?_ ?_ _; rotate_left; ((try simp) <;> omega)) | (with_reducible refine BlkAt.ext (w := ?_) ?_ ?_; rotate_left 2; (with_reducible assumption)) | fail))); rotate_left; (next => first | (simp only [go_sem]; rfl) | rfl); (next => kernel_rfl); (try simp only [Act.put, List.setIfInBounds_toArray, List.set_cons_zero, List.set_cons_succ])) | (refine q_rem (by rfl) _ _ _ _ (by rfl) _ _ (by rfl) (by rfl) (by kernel_rfl) (by kernel_rfl) ?_ ?_; (next => omega); (try simp only [Act.put, List.setIfInBounds_toArray, List.set_cons_zero, List.set_cons_succ])) | (refine q_step_ex (by rfl) ?_; apply Exists.intro; refine ⟨fun W hW => ?_, ?_⟩; (next => (have hWc := fun (b o : Nat) (h : b < _) => (Ext.out hW).cell (p := ⟨b, o, none⟩) h); (try have hLK := HLK.out W (Ext.out hW)); go_simp; first | rfl | fail | fail); (try simp only [Act.put, List.setIfInBounds_toArray, List.set_cons_zero, List.set_cons_succ])) | fail)
    refine wpQuiet_nil ?_
    intro w3 hb3
    refine wp_enter (F := 49) (args := #[.pointer (some ⟨d.a, 0, none⟩), .agg o.arr]) (v := .tuple #[.int .i64 kk, .int .i64 0]) ?_ ?_
    (next => first | (go_simp; done) | (go_simp; rfl))
    refine (HT.out _ _ _ _ _ (B2.out.ext hb3)).mono ?_
    rintro e w4 ⟨rfl, B4, cs4⟩
    refine ⟨rfl, ?_⟩
    simp only [Act.put, List.setIfInBounds_toArray, List.set_cons_zero, List.set_cons_succ]
    skip
    repeat (first | go_big_quiet_skip | (go_big_quiet_want; go_big_quiet_op; go_big_quiet_on) | (refine q_load_fld (by rfl) _ _ (by rfl) (fun _ h => h) _ _ (by rfl) ?_ ?_ ?_ ?_ ?_ ?_; rotate_left; (next => (repeat (first | (with_reducible refine BlkAt.new _ _ _ _ ?_; ((try simp) <;> omega)) | (with_reducible assumption) | (with_reducible refine Blk.at (t := ?_) ?_; rotate_left; with_reducible assumption) | with_reducible refine BlkAt.alloc ?_ _ | with_reducible refine BlkAt.drew ?_ | (with_reducible refine BlkAt.setSame ?_ _ _) | (with_reducible refine BlkAt.setCell ?_ ?_ _; rotate_left; ((try simp) <;> omega)) | (with_reducible refine BlkAt.ext (w := ?_) ?_ ?_; rotate_left 2; (with_reducible assumption)) | fail))); rotate_left; (next => first | (simp only [go_sem]; rfl) | rfl); (next => kernel_rfl); (try simp only [Act.put, List.setIfInBounds_toArray, List.set_cons_zero, List.set_cons_succ])) | (refine q_rem (by rfl) _ _ _ _ (by rfl) _ _ (by rfl) (by rfl) (by kernel_rfl) (by kernel_rfl) ?_ ?_; (next => omega); (try simp only [Act.put, List.setIfInBounds_toArray, List.set_cons_zero, List.set_cons_succ])) | (refine q_step_ex (by rfl) ?_; apply Exists.intro; refine ⟨fun W hW => ?_, ?_⟩; (next => (have hWc := fun (b o : Nat) (h : b < _) => (Ext.out hW).cell (p := ⟨b, o, none⟩) h); (try have hLK := HLK.out W (Ext.out hW)); go_simp; first | rfl | fail | fail); (try simp only [Act.put, List.setIfInBounds_toArray, List.set_cons_zero, List.set_cons_succ])) | fail)
    refine wpQuiet_nil ?_
    intro w5 hb5
    have r5 : Cs c c w0 w5 := ((Cs.of_below hb12).trans (Cs.of_below hb3)).trans (cs4.trans (Cs.of_below hb5))
    have B5 := Lib.hid (B4.ext hb5)
    have hO5 := Lib.hid (r5.blk HB.out h9)
    have e1 : w5.cell? ⟨b, 1, none⟩ = some (.pointer (some ⟨d.l 0, 0, none⟩)) := B5.out.cells.2.1
    have e3 : w5.cell? ⟨w.heap.size, 3, none⟩ = some (.int .i64 o.price) := hO5.out.cell 3
    have e4 : w5.cell? ⟨w.heap.size, 4, none⟩ = some (.int .i64 o.qty) := hO5.out.cell 4
    have hbl5 := B5.out.lt
    have hwl5 := hO5.out.lt
    clear B4 cs4 hb3 hb5 d0 hO2 hbl2 hwl2 HT B2 B0
    go_wp2_with fail
    refine wp_region_mid (C := fun W => Ext _ W) 8 _ (by kernel_rfl) (by kernel_rfl) rfl rfl (Below.refl _ _).drew ?_
    simp only [List.take_succ_cons, List.take_zero, List.drop_succ_cons, List.drop_zero]
    repeat (first | go_big_quiet_skip | (go_big_quiet_want; go_big_quiet_op; go_big_quiet_on) | (refine q_load_fld (by rfl) _ _ (by rfl) (fun _ h => h) _ _ (by rfl) ?_ ?_ ?_ ?_ ?_ ?_; rotate_left; (next => (repeat (first | (with_reducible refine BlkAt.new _ _ _ _ ?_; ((try simp) <;> omega)) | (with_reducible assumption) | (with_reducible refine Blk.at (t := ?_) ?_; rotate_left; with_reducible assumption) | with_reducible refine BlkAt.alloc ?_ _ | with_reducible refine BlkAt.drew ?_ | (with_reducible refine BlkAt.setSame ?_ _ _) | (with_reducible refine BlkAt.setCell ?_ ?_ _; rotate_left; ((try simp) <;> omega)) | (with_reducible refine BlkAt.ext (w := ?_) ?_ ?_; rotate_left 2; (with_reducible assumption)) | fail))); rotate_left; (next => first | (simp only [go_sem]; rfl) | rfl); (next => kernel_rfl); (try simp only [Act.put, List.setIfInBounds_toArray, List.set_cons_zero, List.set_cons_succ])) | (refine q_rem (by rfl) _ _ _ _ (by rfl) _ _ (by rfl) (by rfl) (by kernel_rfl) (by kernel_rfl) ?_ ?_; (next => omega); (try simp only [Act.put, List.setIfInBounds_toArray, List.set_cons_zero, List.set_cons_succ])) | (refine q_step_ex (by rfl) ?_; apply Exists.intro; refine ⟨fun W hW => ?_, ?_⟩; (next => (have hWc := fun (b o : Nat) (h : b < _) => (Ext.out hW).cell (p := ⟨b, o, none⟩) h); (try have hLK := HLK.out W (Ext.out hW)); go_simp; first | rfl | fail | fail); (try simp only [Act.put, List.setIfInBounds_toArray, List.set_cons_zero, List.set_cons_succ])) | fail)
    refine wpQuiet_nil ?_
    intro w6 hb6
    refine wp_enter (F := 50) (args := #[.pointer (some ⟨d.l 0, 0, none⟩), .int .i64 o.price, .int .i64 o.qty]) (v := .tuple #[.int .i64 qn, .int .i64 0]) ?_ ?_
    (next => first | (go_simp; done) | (go_simp; rfl))
    refine (HP.out _ _ _ _ _ (B5.out.ext hb6)).mono ?_
    rintro e w7 ⟨rfl, v, c7, B7, cs7⟩
    refine ⟨rfl, ?_⟩
    simp only [Act.put, List.setIfInBounds_toArray, List.set_cons_zero, List.set_cons_succ]
    skip
    repeat (first | go_big_quiet_skip | (go_big_quiet_want; go_big_quiet_op; go_big_quiet_on) | (refine q_load_fld (by rfl) _ _ (by rfl) (fun _ h => h) _ _ (by rfl) ?_ ?_ ?_ ?_ ?_ ?_; rotate_left; (next => (repeat (first | (with_reducible refine BlkAt.new _ _ _ _ ?_; ((try simp) <;> omega)) | (with_reducible assumption) | (with_reducible refine Blk.at (t := ?_) ?_; rotate_left; with_reducible assumption) | with_reducible refine BlkAt.alloc ?_ _ | with_reducible refine BlkAt.drew ?_ | (with_reducible refine BlkAt.setSame ?_ _ _) | (with_reducible refine BlkAt.setCell ?_ ?_ _; rotate_left; ((try simp) <;> omega)) | (with_reducible refine BlkAt.ext (w := ?_) ?_ ?_; rotate_left 2; (with_reducible assumption)) | fail))); rotate_left; (next => first | (simp only [go_sem]; rfl) | rfl); (next => kernel_rfl); (try simp only [Act.put, List.setIfInBounds_toArray, List.set_cons_zero, List.set_cons_succ])) | (refine q_rem (by rfl) _ _ _ _ (by rfl) _ _ (by rfl) (by rfl) (by kernel_rfl) (by kernel_rfl) ?_ ?_; (next => omega); (try simp only [Act.put, List.setIfInBounds_toArray, List.set_cons_zero, List.set_cons_succ])) | (refine q_step_ex (by rfl) ?_; apply Exists.intro; refine ⟨fun W hW => ?_, ?_⟩; (next => (have hWc := fun (b o : Nat) (h : b < _) => (Ext.out hW).cell (p := ⟨b, o, none⟩) h); (try have hLK := HLK.out W (Ext.out hW)); go_simp; first | rfl | fail | fail); (try simp only [Act.put, List.setIfInBounds_toArray, List.set_cons_zero, List.set_cons_succ])) | fail)
    refine wpQuiet_nil ?_
    intro w8 hb8
    have r8 : Cs c c7 w0 w8 := (r5.trans (Cs.of_below hb6)).trans (cs7.trans (Cs.of_below hb8))
    have B8 := Lib.hid (B7.ext hb8)
    have e2 : w8.cell? ⟨b, 2, none⟩ = some (.pointer (some ⟨d.q 0, 0, none⟩)) := B8.out.cells.2.2.1
    clear e1 e3 e4 hO5 hbl5 hwl5 B5 B7 cs7 hb6 hb8 HP r5
    go_wp2_with (first | (go_at_call 51; refine (HQ.out _ _ _ _ _ _ B8.out).mono ?_; rintro e w9 ⟨rfl, B9, cs9⟩) | fail)
    have r9 := r8.trans cs9
    have hO9 := Lib.hid (r9.blk HB.out h9)
    have B9' := Lib.hid B9
    have g5 : w9.cell? ⟨b, 5, none⟩ = some (.pointer (some ⟨d.x, 0, none⟩)) := B9.cells.2.2.2.2.2
    have g0 : w9.cell? ⟨w.heap.size, 0, none⟩ = some (.int .i64 o.id) := hO9.out.cell 0
    have hbl9 := B9.lt
    have hwl9 := hO9.out.lt
    clear e2 B9 cs9 r8 B8 HQ
    refine wp_region_below_tail 8 (by kernel_rfl) (by kernel_rfl) ?_
    simp only [List.take_succ_cons, List.take_zero, List.drop_succ_cons, List.drop_zero]
    repeat (first | go_big_quiet_skip | (go_big_quiet_want; go_big_quiet_op; go_big_quiet_on) | (refine q_load_fld (by rfl) _ _ (by rfl) (fun _ h => h) _ _ (by rfl) ?_ ?_ ?_ ?_ ?_ ?_; rotate_left; (next => (repeat (first | (with_reducible refine BlkAt.new _ _ _ _ ?_; ((try simp) <;> omega)) | (with_reducible assumption) | (with_reducible refine Blk.at (t := ?_) ?_; rotate_left; with_reducible assumption) | with_reducible refine BlkAt.alloc ?_ _ | with_reducible refine BlkAt.drew ?_ | (with_reducible refine BlkAt.setSame ?_ _ _) | (with_reducible refine BlkAt.setCell ?_ ?_ _; rotate_left; ((try simp) <;> omega)) | (with_reducible refine BlkAt.ext (w := ?_) ?_ ?_; rotate_left 2; (with_reducible assumption)) | fail))); rotate_left; (next => first | (simp only [go_sem]; rfl) | rfl); (next => kernel_rfl); (try simp only [Act.put, List.setIfInBounds_toArray, List.set_cons_zero, List.set_cons_succ])) | (refine q_rem (by rfl) _ _ _ _ (by rfl) _ _ (by rfl) (by rfl) (by kernel_rfl) (by kernel_rfl) ?_ ?_; (next => omega); (try simp only [Act.put, List.setIfInBounds_toArray, List.set_cons_zero, List.set_cons_succ])) | (refine q_step_ex (by rfl) ?_; apply Exists.intro; refine ⟨fun W hW => ?_, ?_⟩; (next => (have hWc := fun (b o : Nat) (h : b < _) => (Ext.out hW).cell (p := ⟨b, o, none⟩) h); (try have hLK := HLK.out W (Ext.out hW)); go_simp; first | rfl | (go_at_call 47; refine (key_any _ _).mono ?_; rintro e w'' ⟨rfl, hb2⟩; exact ⟨rfl, below_ext hW hb2⟩) | fail); (try simp only [Act.put, List.setIfInBounds_toArray, List.set_cons_zero, List.set_cons_succ])) | fail)
    refine wpQuiet_nil ?_
    intro w10 hb10
    go_wp2_with (first | (go_at_call 52; refine (HX.out _ _ _ _ v hk (B9'.out.ext hb10)).mono ?_; rintro e w11 ⟨rfl, B11, cs11⟩) | fail)
    go_ret
    exact ⟨rfl, c7, kk, ⟨_, B11, HI.out v⟩, HCS.out.trans (r9.trans ((Cs.of_below hb10).trans cs11))⟩
  · go_enter Tryz.func24, Tryz.ntmps24
    go_wp2_with fail
    rw [HW0.out]
    go_wp2_with (first | (go_at_call 45; refine (HO.out _).mono ?_; rintro e w1 ⟨rfl, rfl⟩) | fail)
    refine wp_region_below_lit (by kernel_rfl) (by kernel_rfl) ?_
    repeat (first | go_big_quiet_skip | (go_big_quiet_want; go_big_quiet_op; go_big_quiet_on) | (refine q_load_fld (by rfl) _ _ (by rfl) (fun _ h => h) _ _ (by rfl) ?_ ?_ ?_ ?_ ?_ ?_; rotate_left; (next => (repeat (first | (with_reducible refine BlkAt.new _ _ _ _ ?_; ((try simp) <;> omega)) | (with_reducible assumption) | (with_reducible refine Blk.at (t := ?_) ?_; rotate_left; with_reducible assumption) | with_reducible refine BlkAt.alloc ?_ _ | with_reducible refine BlkAt.drew ?_ | (with_reducible refine BlkAt.setSame ?_ _ _) | (with_reducible refine BlkAt.setCell ?_ ?_ _; rotate_left; ((try simp) <;> omega)) | (with_reducible refine BlkAt.ext (w := ?_) ?_ ?_; rotate_left 2; (with_reducible assumption)) | fail))); rotate_left; (next => first | (simp only [go_sem]; rfl) | rfl); (next => kernel_rfl); (try simp only [Act.put, List.setIfInBounds_toArray, List.set_cons_zero, List.set_cons_succ])) | (refine q_rem (by rfl) _ _ _ _ (by rfl) _ _ (by rfl) (by rfl) (by kernel_rfl) (by kernel_rfl) ?_ ?_; (next => omega); (try simp only [Act.put, List.setIfInBounds_toArray, List.set_cons_zero, List.set_cons_succ])) | (refine q_step_ex (by rfl) ?_; apply Exists.intro; refine ⟨fun W hW => ?_, ?_⟩; (next => (have hWc := fun (b o : Nat) (h : b < _) => (Ext.out hW).cell (p := ⟨b, o, none⟩) h); (try have hLK := HLK.out W (Ext.out hW)); go_simp; first | rfl | (go_at_call 47; refine (key_any _ _).mono ?_; rintro e w'' ⟨rfl, hb2⟩; exact ⟨rfl, below_ext hW hb2⟩) | (go_at_call 46; refine (HG.out _ (below_ext hb0 hW)).mono ?_; rintro e w'' ⟨rfl, hb2⟩; exact ⟨rfl, below_ext hW hb2⟩) | fail); (try simp only [Act.put, List.setIfInBounds_toArray, List.set_cons_zero, List.set_cons_succ])) | fail)
    refine wpQuiet_nil ?_
    intro w1 hb1
    have j2 : w1.cell? ⟨w.heap.size, 2, none⟩ = some (.int .i64 o.side) := (HB.out.ext hb1).cell 2
    have j3 : w1.cell? ⟨w.heap.size, 3, none⟩ = some (.int .i64 o.price) := (HB.out.ext hb1).cell 3
    have hb01 := below_ext hb0 hb1
    clear k0 k2 k3 k4 c5
    go_wp2_with (first | (go_at_call 48; refine (HR.out _ hb01).mono ?_; rintro e w2 ⟨rfl, hb2⟩) | fail)
    have hb12 := below_ext hb1 hb2
    have hO2 := HB.out.ext hb12
    have B2 := Lib.hid (B0.out.ext hb12)
    have d0 := B2.out.cells.1
    have hbl2 := B2.out.lt
    have hwl2 := hO2.lt
    clear j2 j3 HR HG
    refine wp_region_mid (C := fun W => Ext _ W) 5 _ (by kernel_rfl) (by kernel_rfl) rfl rfl (Below.refl _ _).drew ?_
    simp only [List.take_succ_cons, List.take_zero, List.drop_succ_cons, List.drop_zero]
    repeat (first | go_big_quiet_skip | (go_big_quiet_want; go_big_quiet_op; go_big_quiet_on) | (refine q_load_blk (by rfl) 52 _ (by rfl) ?_ (.pointer (some ⟨_, 0, none⟩)) (by rfl) ?_ _ (fun _ h => h) Tryz.underlying52 rfl ?_ ?_; rotate_left; (next => (repeat (first | (with_reducible refine BlkAt.new _ _ _ _ ?_; ((try simp) <;> omega)) | (with_reducible assumption) | (with_reducible refine Blk.at (t := ?_) ?_; rotate_left; with_reducible assumption) | with_reducible refine BlkAt.alloc ?_ _ | with_reducible refine BlkAt.drew ?_ | (with_reducible refine BlkAt.setSame ?_ _ _) | (with_reducible refine BlkAt.setCell ?_ ?_ _; rotate_left; ((try simp) <;> omega)) | (with_reducible refine BlkAt.ext (w := ?_) ?_ ?_; rotate_left 2; (with_reducible assumption)) | fail))); (next => kernel_rfl); (try simp only [Act.put, List.setIfInBounds_toArray, List.set_cons_zero, List.set_cons_succ])) | (refine q_load_fld (by rfl) _ _ (by rfl) (fun _ h => h) _ _ (by rfl) ?_ ?_ ?_ ?_ ?_ ?_; rotate_left; (next => (repeat (first | (with_reducible refine BlkAt.new _ _ _ _ ?_; ((try simp) <;> omega)) | (with_reducible assumption) | (with_reducible refine Blk.at (t := ?_) ?_; rotate_left; with_reducible assumption) | with_reducible refine BlkAt.alloc ?_ _ | with_reducible refine BlkAt.drew ?_ | (with_reducible refine BlkAt.setSame ?_ _ _) | (with_reducible refine BlkAt.setCell ?_ ?_ _; rotate_left; ((try simp) <;> omega)) | (with_reducible refine BlkAt.ext (w := ?_) ?_ ?_; rotate_left 2; (with_reducible assumption)) | fail))); rotate_left; (next => first | (simp only [go_sem]; rfl) | rfl); (next => kernel_rfl); (try simp only [Act.put, List.setIfInBounds_toArray, List.set_cons_zero, List.set_cons_succ])) | (refine q_rem (by rfl) _ _ _ _ (by rfl) _ _ (by rfl) (by rfl) (by kernel_rfl) (by kernel_rfl) ?_ ?_; (next => omega); (try simp only [Act.put, List.setIfInBounds_toArray, List.set_cons_zero, List.set_cons_succ])) | (refine q_step_ex (by rfl) ?_; apply Exists.intro; refine ⟨fun W hW => ?_, ?_⟩; (next => (have hWc := fun (b o : Nat) (h : b < _) => (Ext.out hW).cell (p := ⟨b, o, none⟩) h); (try have hLK := HLK.out W (Ext.out hW)); go_simp; first | rfl | fail | fail); (try simp only [Act.put, List.setIfInBounds_toArray, List.set_cons_zero, List.set_cons_succ])) | fail)
    refine wpQuiet_nil ?_
    intro w3 hb3
    refine wp_enter (F := 49) (args := #[.pointer (some ⟨d.a, 0, none⟩), .agg o.arr]) (v := .tuple #[.int .i64 kk, .int .i64 0]) ?_ ?_
    (next => first | (go_simp; done) | (go_simp; rfl))
    refine (HT.out _ _ _ _ _ (B2.out.ext hb3)).mono ?_
    rintro e w4 ⟨rfl, B4, cs4⟩
    refine ⟨rfl, ?_⟩
    simp only [Act.put, List.setIfInBounds_toArray, List.set_cons_zero, List.set_cons_succ]
    skip
    repeat (first | go_big_quiet_skip | (go_big_quiet_want; go_big_quiet_op; go_big_quiet_on) | (refine q_load_fld (by rfl) _ _ (by rfl) (fun _ h => h) _ _ (by rfl) ?_ ?_ ?_ ?_ ?_ ?_; rotate_left; (next => (repeat (first | (with_reducible refine BlkAt.new _ _ _ _ ?_; ((try simp) <;> omega)) | (with_reducible assumption) | (with_reducible refine Blk.at (t := ?_) ?_; rotate_left; with_reducible assumption) | with_reducible refine BlkAt.alloc ?_ _ | with_reducible refine BlkAt.drew ?_ | (with_reducible refine BlkAt.setSame ?_ _ _) | (with_reducible refine BlkAt.setCell ?_ ?_ _; rotate_left; ((try simp) <;> omega)) | (with_reducible refine BlkAt.ext (w := ?_) ?_ ?_; rotate_left 2; (with_reducible assumption)) | fail))); rotate_left; (next => first | (simp only [go_sem]; rfl) | rfl); (next => kernel_rfl); (try simp only [Act.put, List.setIfInBounds_toArray, List.set_cons_zero, List.set_cons_succ])) | (refine q_rem (by rfl) _ _ _ _ (by rfl) _ _ (by rfl) (by rfl) (by kernel_rfl) (by kernel_rfl) ?_ ?_; (next => omega); (try simp only [Act.put, List.setIfInBounds_toArray, List.set_cons_zero, List.set_cons_succ])) | (refine q_step_ex (by rfl) ?_; apply Exists.intro; refine ⟨fun W hW => ?_, ?_⟩; (next => (have hWc := fun (b o : Nat) (h : b < _) => (Ext.out hW).cell (p := ⟨b, o, none⟩) h); (try have hLK := HLK.out W (Ext.out hW)); go_simp; first | rfl | fail | fail); (try simp only [Act.put, List.setIfInBounds_toArray, List.set_cons_zero, List.set_cons_succ])) | fail)
    refine wpQuiet_nil ?_
    intro w5 hb5
    have r5 : Cs c c w0 w5 := ((Cs.of_below hb12).trans (Cs.of_below hb3)).trans (cs4.trans (Cs.of_below hb5))
    have B5 := Lib.hid (B4.ext hb5)
    have hO5 := Lib.hid (r5.blk HB.out h9)
    have e1 : w5.cell? ⟨b, 3, none⟩ = some (.pointer (some ⟨d.l 1, 0, none⟩)) := B5.out.cells.2.2.2.1
    have e3 : w5.cell? ⟨w.heap.size, 3, none⟩ = some (.int .i64 o.price) := hO5.out.cell 3
    have e4 : w5.cell? ⟨w.heap.size, 4, none⟩ = some (.int .i64 o.qty) := hO5.out.cell 4
    have hbl5 := B5.out.lt
    have hwl5 := hO5.out.lt
    clear B4 cs4 hb3 hb5 d0 hO2 hbl2 hwl2 HT B2 B0
    go_wp2_with fail
    refine wp_region_mid (C := fun W => Ext _ W) 8 _ (by kernel_rfl) (by kernel_rfl) rfl rfl (Below.refl _ _).drew ?_
    simp only [List.take_succ_cons, List.take_zero, List.drop_succ_cons, List.drop_zero]
    repeat (first | go_big_quiet_skip | (go_big_quiet_want; go_big_quiet_op; go_big_quiet_on) | (refine q_load_fld (by rfl) _ _ (by rfl) (fun _ h => h) _ _ (by rfl) ?_ ?_ ?_ ?_ ?_ ?_; rotate_left; (next => (repeat (first | (with_reducible refine BlkAt.new _ _ _ _ ?_; ((try simp) <;> omega)) | (with_reducible assumption) | (with_reducible refine Blk.at (t := ?_) ?_; rotate_left; with_reducible assumption) | with_reducible refine BlkAt.alloc ?_ _ | with_reducible refine BlkAt.drew ?_ | (with_reducible refine BlkAt.setSame ?_ _ _) | (with_reducible refine BlkAt.setCell ?_ ?_ _; rotate_left; ((try simp) <;> omega)) | (with_reducible refine BlkAt.ext (w := ?_) ?_ ?_; rotate_left 2; (with_reducible assumption)) | fail))); rotate_left; (next => first | (simp only [go_sem]; rfl) | rfl); (next => kernel_rfl); (try simp only [Act.put, List.setIfInBounds_toArray, List.set_cons_zero, List.set_cons_succ])) | (refine q_rem (by rfl) _ _ _ _ (by rfl) _ _ (by rfl) (by rfl) (by kernel_rfl) (by kernel_rfl) ?_ ?_; (next => omega); (try simp only [Act.put, List.setIfInBounds_toArray, List.set_cons_zero, List.set_cons_succ])) | (refine q_step_ex (by rfl) ?_; apply Exists.intro; refine ⟨fun W hW => ?_, ?_⟩; (next => (have hWc := fun (b o : Nat) (h : b < _) => (Ext.out hW).cell (p := ⟨b, o, none⟩) h); (try have hLK := HLK.out W (Ext.out hW)); go_simp; first | rfl | fail | fail); (try simp only [Act.put, List.setIfInBounds_toArray, List.set_cons_zero, List.set_cons_succ])) | fail)
    refine wpQuiet_nil ?_
    intro w6 hb6
    refine wp_enter (F := 50) (args := #[.pointer (some ⟨d.l 1, 0, none⟩), .int .i64 o.price, .int .i64 o.qty]) (v := .tuple #[.int .i64 qn, .int .i64 0]) ?_ ?_
    (next => first | (go_simp; done) | (go_simp; rfl))
    refine (HP.out _ _ _ _ _ (B5.out.ext hb6)).mono ?_
    rintro e w7 ⟨rfl, v, c7, B7, cs7⟩
    refine ⟨rfl, ?_⟩
    simp only [Act.put, List.setIfInBounds_toArray, List.set_cons_zero, List.set_cons_succ]
    skip
    repeat (first | go_big_quiet_skip | (go_big_quiet_want; go_big_quiet_op; go_big_quiet_on) | (refine q_load_fld (by rfl) _ _ (by rfl) (fun _ h => h) _ _ (by rfl) ?_ ?_ ?_ ?_ ?_ ?_; rotate_left; (next => (repeat (first | (with_reducible refine BlkAt.new _ _ _ _ ?_; ((try simp) <;> omega)) | (with_reducible assumption) | (with_reducible refine Blk.at (t := ?_) ?_; rotate_left; with_reducible assumption) | with_reducible refine BlkAt.alloc ?_ _ | with_reducible refine BlkAt.drew ?_ | (with_reducible refine BlkAt.setSame ?_ _ _) | (with_reducible refine BlkAt.setCell ?_ ?_ _; rotate_left; ((try simp) <;> omega)) | (with_reducible refine BlkAt.ext (w := ?_) ?_ ?_; rotate_left 2; (with_reducible assumption)) | fail))); rotate_left; (next => first | (simp only [go_sem]; rfl) | rfl); (next => kernel_rfl); (try simp only [Act.put, List.setIfInBounds_toArray, List.set_cons_zero, List.set_cons_succ])) | (refine q_rem (by rfl) _ _ _ _ (by rfl) _ _ (by rfl) (by rfl) (by kernel_rfl) (by kernel_rfl) ?_ ?_; (next => omega); (try simp only [Act.put, List.setIfInBounds_toArray, List.set_cons_zero, List.set_cons_succ])) | (refine q_step_ex (by rfl) ?_; apply Exists.intro; refine ⟨fun W hW => ?_, ?_⟩; (next => (have hWc := fun (b o : Nat) (h : b < _) => (Ext.out hW).cell (p := ⟨b, o, none⟩) h); (try have hLK := HLK.out W (Ext.out hW)); go_simp; first | rfl | fail | fail); (try simp only [Act.put, List.setIfInBounds_toArray, List.set_cons_zero, List.set_cons_succ])) | fail)
    refine wpQuiet_nil ?_
    intro w8 hb8
    have r8 : Cs c c7 w0 w8 := (r5.trans (Cs.of_below hb6)).trans (cs7.trans (Cs.of_below hb8))
    have B8 := Lib.hid (B7.ext hb8)
    have e2 : w8.cell? ⟨b, 4, none⟩ = some (.pointer (some ⟨d.q 1, 0, none⟩)) := B8.out.cells.2.2.2.2.1
    clear e1 e3 e4 hO5 hbl5 hwl5 B5 B7 cs7 hb6 hb8 HP r5
    go_wp2_with (first | (go_at_call 51; refine (HQ.out _ _ _ _ _ _ B8.out).mono ?_; rintro e w9 ⟨rfl, B9, cs9⟩) | fail)
    have r9 := r8.trans cs9
    have hO9 := Lib.hid (r9.blk HB.out h9)
    have B9' := Lib.hid B9
    have g5 : w9.cell? ⟨b, 5, none⟩ = some (.pointer (some ⟨d.x, 0, none⟩)) := B9.cells.2.2.2.2.2
    have g0 : w9.cell? ⟨w.heap.size, 0, none⟩ = some (.int .i64 o.id) := hO9.out.cell 0
    have hbl9 := B9.lt
    have hwl9 := hO9.out.lt
    clear e2 B9 cs9 r8 B8 HQ
    refine wp_region_below_tail 8 (by kernel_rfl) (by kernel_rfl) ?_
    simp only [List.take_succ_cons, List.take_zero, List.drop_succ_cons, List.drop_zero]
    repeat (first | go_big_quiet_skip | (go_big_quiet_want; go_big_quiet_op; go_big_quiet_on) | (refine q_load_fld (by rfl) _ _ (by rfl) (fun _ h => h) _ _ (by rfl) ?_ ?_ ?_ ?_ ?_ ?_; rotate_left; (next => (repeat (first | (with_reducible refine BlkAt.new _ _ _ _ ?_; ((try simp) <;> omega)) | (with_reducible assumption) | (with_reducible refine Blk.at (t := ?_) ?_; rotate_left; with_reducible assumption) | with_reducible refine BlkAt.alloc ?_ _ | with_reducible refine BlkAt.drew ?_ | (with_reducible refine BlkAt.setSame ?_ _ _) | (with_reducible refine BlkAt.setCell ?_ ?_ _; rotate_left; ((try simp) <;> omega)) | (with_reducible refine BlkAt.ext (w := ?_) ?_ ?_; rotate_left 2; (with_reducible assumption)) | fail))); rotate_left; (next => first | (simp only [go_sem]; rfl) | rfl); (next => kernel_rfl); (try simp only [Act.put, List.setIfInBounds_toArray, List.set_cons_zero, List.set_cons_succ])) | (refine q_rem (by rfl) _ _ _ _ (by rfl) _ _ (by rfl) (by rfl) (by kernel_rfl) (by kernel_rfl) ?_ ?_; (next => omega); (try simp only [Act.put, List.setIfInBounds_toArray, List.set_cons_zero, List.set_cons_succ])) | (refine q_step_ex (by rfl) ?_; apply Exists.intro; refine ⟨fun W hW => ?_, ?_⟩; (next => (have hWc := fun (b o : Nat) (h : b < _) => (Ext.out hW).cell (p := ⟨b, o, none⟩) h); (try have hLK := HLK.out W (Ext.out hW)); go_simp; first | rfl | (go_at_call 47; refine (key_any _ _).mono ?_; rintro e w'' ⟨rfl, hb2⟩; exact ⟨rfl, below_ext hW hb2⟩) | fail); (try simp only [Act.put, List.setIfInBounds_toArray, List.set_cons_zero, List.set_cons_succ])) | fail)
    refine wpQuiet_nil ?_
    intro w10 hb10
    go_wp2_with (first | (go_at_call 52; refine (HX.out _ _ _ _ v hk (B9'.out.ext hb10)).mono ?_; rintro e w11 ⟨rfl, B11, cs11⟩) | fail)
    go_ret
    exact ⟨rfl, c7, kk, ⟨_, B11, HI.out v⟩, HCS.out.trans (r9.trans ((Cs.of_below hb10).trans cs11))⟩
theorem add_any (B : Bs w c b N most k ss) (o : Ord) (hwf : Wf o.id) (hk : k < 1000) : Calls Tryz.prog 24 #[.pointer (some ⟨b, 0, none⟩), .agg o.arr] w fun e w' => e = .returned (.int .i64 (addF N most (osOf ss) o)) ∧ ∃ c' ss', Bs w' c' b N most (k + 1) ss' ∧ osOf ss' = addO N most (osOf ss) o ∧ Cs c c' w w' := by
  have stay : ∀ z : Int, z ≠ 0 → addF N most (osOf ss) o = z → Calls Tryz.prog 24 #[.pointer (some ⟨b, 0, none⟩), .agg o.arr] w (fun e w' => e = .returned (.int .i64 z) ∧ Below w.heap.size w w') →
      Calls Tryz.prog 24 #[.pointer (some ⟨b, 0, none⟩), .agg o.arr] w fun e w' => e = .returned (.int .i64 (addF N most (osOf ss) o)) ∧ ∃ c' ss', Bs w' c' b N most (k + 1) ss' ∧ osOf ss' = addO N most (osOf ss) o ∧ Cs c c' w w' := fun z hz he h => by
    refine h.mono ?_
    rintro e w' ⟨rfl, hb⟩
    refine ⟨by rw [he], c, ss, (B.ext hb).mono1 hk, ?_, Cs.of_below hb⟩
    unfold addO
    rw [he, if_neg hz]
  by_cases h1 : o.side = 0 ∨ o.side = 1
  · obtain ⟨n, hsd, hn⟩ : ∃ n : Nat, o.side = (n : Int) ∧ n < 2 := ⟨o.side.toNat, by omega, by omega⟩
    have e1 : sided o.side = true := decide_eq_true h1
    cases h2 : inRng o with
    | false => exact stay 9 (by decide) (by unfold addF; rw [e1, h2]; rfl) (add_rng hn o hsd h2)
    | true =>
      rcases fnd_cases ss o.id with ⟨x, hx, he, h3⟩ | ⟨hx, h3⟩
      · exact stay 6 (by decide) (by unfold addF; rw [e1, h2, h3]; rfl) (add_twice B hn o hsd h2 hx he)
      · cases h4 : roomO N most o.side o.price (osOf ss) with
        | false => exact stay 7 (by decide) (by unfold addF; rw [e1, h2, h3, h4]; rfl) (add_full B hn o hwf hsd h2 hx h4)
        | true =>
          have he : addF N most (osOf ss) o = 0 := by unfold addF; rw [e1, h2, h3, h4]; rfl
          refine (add_ok B hn o hwf hsd h2 hx h4 hk).mono ?_
          rintro e w' ⟨rfl, c', kk, h5, h6⟩
          refine ⟨by rw [he], c', _, h5, ?_, h6⟩
          unfold addO
          rw [he, if_pos rfl]
          simp [osOf]
  · have e1 : sided o.side = false := decide_eq_false h1
    exact stay 1 (by decide) (by unfold addF; rw [e1]; rfl) (add_bad _ o (.inr (by omega)) w)
end
end Bk
end Go.Proofs.YtacpjpkhmdcagaaGreat
