/- This text proves what the ladder's Worth answers where all levels count, and of a nil ladder. It has no conditions but those that it states. -/
import Derived.Test.YtdhbioaoholcbaaLadE
import Derived.Test.YtdhbioaoholcbaaRangeH
import Derived.Test.YtdhbioaoholcbaaRound
import Derived.Deep.CutRange
import Derived.Scope
namespace Go.Proofs.Ytdhbioaoholcbaa
set_option linter.unusedVariables false
open Go.RowKit
namespace Lad
set_option maxHeartbeats 2000000
set_option maxRecDepth 10000
attribute [local go_sem] Oper.semAt_some
section
variable {w : World} {g : Nat} {side most : Int} {v : Value} {ls : List Lvl} {u : Nat → Nat}
def sumQ {ls : List Lvl} : List (Of ls) → Int
  | [] => 0
  | x :: l => x.1.qty + sumQ l
theorem sumQ_app (a b : List (Of ls)) : sumQ (a ++ b) = sumQ a + sumQ b := by
  induction a with
  | nil => simp [sumQ]
  | cons x l ih => simp [sumQ, ih]; omega
theorem sumQ_nonneg (hq : ∀ l ∈ ls, 0 ≤ l.qty) (a : List (Of ls)) : 0 ≤ sumQ a := by
  induction a with
  | nil => simp [sumQ]
  | cons x l ih => have := hq x.1 x.2; simp [sumQ]; omega
theorem sumQ_le (hq : ∀ l ∈ ls, 0 ≤ l.qty) {a b : List (Of ls)} (h : a <+: b) : sumQ a ≤ sumQ b := by
  obtain ⟨c, rfl⟩ := h
  have := sumQ_nonneg hq c
  rw [sumQ_app]
  omega
theorem sumQ_mem (hq : ∀ l ∈ ls, 0 ≤ l.qty) {x : Of ls} : ∀ (a : List (Of ls)), x ∈ a → x.1.qty ≤ sumQ a
  | [], h => absurd h (by simp)
  | y :: l, h => by
    have h1 := sumQ_nonneg hq l
    have h2 := hq y.1 y.2
    rcases List.mem_cons.1 h with rfl | h
    · simp [sumQ]; omega
    · have := sumQ_mem hq l h
      simp [sumQ]; omega
theorem worth_nil (p : Int) (w : World) : Calls Try.prog 55 #[.pointer none, .int .i64 p] w fun e w' => e = .returned (.int .i64 0) ∧ Below w.heap.size w w' := by
  refine calls_of_wp_marks Try.func55 rfl ?_
  simp only [Try.ntmps55, List.size_toArray, List.length_cons, List.length_nil, Nat.reduceAdd, Nat.reduceSub, Array.replicate_succ, Array.replicate_zero, List.push_toArray, List.append_toArray, List.nil_append, List.cons_append]
  have hP : Blk (((w.alloc (.cells #[.pointer none] 64)).alloc (.cells #[.int .i64 p] 2)).alloc (.cells #[.int .i64 0] 2)) w.heap.size 64 #[.pointer none] := ((Blk.new w _ _ _ rfl).alloc _).alloc _
  have hX : Blk (((w.alloc (.cells #[.pointer none] 64)).alloc (.cells #[.int .i64 p] 2)).alloc (.cells #[.int .i64 0] 2)) (w.heap.size + 1) 2 #[.int .i64 p] := (Blk.new _ _ _ _ (by simp only [sz_alloc])).alloc _
  have hT : Blk (((w.alloc (.cells #[.pointer none] 64)).alloc (.cells #[.int .i64 p] 2)).alloc (.cells #[.int .i64 0] 2)) (w.heap.size + 1 + 1) 2 #[.int .i64 0] := Blk.new _ _ _ _ (by simp only [sz_alloc])
  have hb0 : Below w.heap.size w (((w.alloc (.cells #[.pointer none] 64)).alloc (.cells #[.int .i64 p] 2)).alloc (.cells #[.int .i64 0] 2)) := by (repeat (first | with_reducible exact Below.refl _ _ | (with_reducible assumption) | (with_reducible refine below_alloc ?_ _) | (with_reducible refine below_ext (w1 := ?_) ?_ ?_; rotate_left 2; (with_reducible assumption)) | (with_reducible refine Below.setCell ?_ ?_ _; rotate_left; ((try simp) <;> omega)) | (with_reducible refine Below.drew ?_) | (with_reducible refine below_drewN ?_ _) | fail))
  have hz0 : (((w.alloc (.cells #[.pointer none] 64)).alloc (.cells #[.int .i64 p] 2)).alloc (.cells #[.int .i64 0] 2)).heap.size = w.heap.size + 1 + 1 + 1 := by simp only [sz_alloc]
  generalize hw0 : ((w.alloc (.cells #[.pointer none] 64)).alloc (.cells #[.int .i64 p] 2)).alloc (.cells #[.int .i64 0] 2) = w0 at hP hX hT hb0 hz0
  have hcP : w0.cell? ⟨w.heap.size, 0, none⟩ = some (.pointer none) := hP.cell 0
  have HW0 := Lib.hid hw0
  have HZ0 := Lib.hid hz0
  clear hw0 hz0
  go_wp2_with fail
  rw [HW0.out]
  refine wp_scope_straight (wp_seq (wp_label ?_))
  go_wp2_with fail
  refine (each_any none _).mono ?_
  rintro e w1 ⟨rfl, hB1, hb1⟩
  go_wp2_with fail
  refine wp_rangeFunc_nil (gf := 74) (by rfl) (enters_of Try.func74 (by kernel_rfl) rfl) (each_nil _ _ hB1) ?_
  intro D W hD hb3 hK
  have hTW := (hT.ext hb1).ext hb3
  have hbW : Below w.heap.size w W := (hb0.trans (hb1.mono hb0.size)).trans (hb3.mono (below_ext hb0 hb1).size)
  have hDl : w.heap.size + 1 + 1 < D := by
    have h2 := hb1.size
    have h3 := hb3.size
    have h4 := HZ0.out
    omega
  have cT : W.cell? ⟨w.heap.size + 1 + 1, 0, none⟩ = some (.int .i64 0) := hTW.cell 0
  go_wp2_with (first | ((with_reducible show wpList _ _ _ (⟨_, .store _ _ _, _, _, _, _⟩ :: _) _ _); refine wpList_store_fld (by rfl) _ _ _ (by rfl) _ _ (by rfl) _ (by rfl) _ _ hTW ?_ ?_ (by rfl) (by rfl) ?_; (next => first | omega | ((try simp) <;> omega)); (next => kernel_rfl); intro w9 hT9 hU9) | fail)
  have hK9 : w9.heap[D]? = some (.deferred (some [])) := (hU9.block D (by omega)).trans hK
  have hb9 : Below w.heap.size w w9 := below_upd hbW (by omega) hU9
  have hT10 : Blk w9 (w.heap.size + 1 + 1) 2 #[.int .i64 0] := hT9
  have hcc : (w9.putObj D (.deferred none)).cell? ⟨w.heap.size + 1 + 1, 0, none⟩ = some (.int .i64 0) := (cell_mark (by omega)).trans (hT10.cell 0)
  have hDs := (Array.getElem?_eq_some_iff.1 hK).1
  show bodyPostM Fence.wide 9 _ _ _ Exit.ret _ _
  exact bodyPostM_ret (v := .int .i64 0) rfl hK9 (by simp [results, Try.results55, go_sem, hcc]) ⟨rfl, below_mark hb9 (by omega) hK9⟩
theorem worth_all (L : La w g side most v ls u) (p : Int) (hp : I64 p) (hk : ∀ l ∈ ls, keyF side l.price ≤ keyF side p) (hq : ∀ l ∈ ls, 0 ≤ l.qty) (hs : sumQ ls.attach ≤ 4611686018427387903) :
    Calls Try.prog 55 #[.pointer (some ⟨g, 0, none⟩), .int .i64 p] w fun e w' => e = .returned (.int .i64 (sumQ ls.attach)) ∧ Below w.heap.size w w' := by
  refine calls_of_wp_marks Try.func55 rfl ?_
  simp only [Try.ntmps55, List.size_toArray, List.length_cons, List.length_nil, Nat.reduceAdd, Nat.reduceSub, Array.replicate_succ, Array.replicate_zero, List.push_toArray, List.append_toArray, List.nil_append, List.cons_append]
  have hP : Blk (((w.alloc (.cells #[.pointer (some ⟨g, 0, none⟩)] 64)).alloc (.cells #[.int .i64 p] 2)).alloc (.cells #[.int .i64 0] 2)) w.heap.size 64 #[.pointer (some ⟨g, 0, none⟩)] := ((Blk.new w _ _ _ rfl).alloc _).alloc _
  have hX : Blk (((w.alloc (.cells #[.pointer (some ⟨g, 0, none⟩)] 64)).alloc (.cells #[.int .i64 p] 2)).alloc (.cells #[.int .i64 0] 2)) (w.heap.size + 1) 2 #[.int .i64 p] := (Blk.new _ _ _ _ (by simp only [sz_alloc])).alloc _
  have hT : Blk (((w.alloc (.cells #[.pointer (some ⟨g, 0, none⟩)] 64)).alloc (.cells #[.int .i64 p] 2)).alloc (.cells #[.int .i64 0] 2)) (w.heap.size + 1 + 1) 2 #[.int .i64 0] := Blk.new _ _ _ _ (by simp only [sz_alloc])
  have hb0 : Below w.heap.size w (((w.alloc (.cells #[.pointer (some ⟨g, 0, none⟩)] 64)).alloc (.cells #[.int .i64 p] 2)).alloc (.cells #[.int .i64 0] 2)) := by (repeat (first | with_reducible exact Below.refl _ _ | (with_reducible assumption) | (with_reducible refine below_alloc ?_ _) | (with_reducible refine below_ext (w1 := ?_) ?_ ?_; rotate_left 2; (with_reducible assumption)) | (with_reducible refine Below.setCell ?_ ?_ _; rotate_left; ((try simp) <;> omega)) | (with_reducible refine Below.drew ?_) | (with_reducible refine below_drewN ?_ _) | fail))
  have hz0 : (((w.alloc (.cells #[.pointer (some ⟨g, 0, none⟩)] 64)).alloc (.cells #[.int .i64 p] 2)).alloc (.cells #[.int .i64 0] 2)).heap.size = w.heap.size + 1 + 1 + 1 := by simp only [sz_alloc]
  generalize hw0 : ((w.alloc (.cells #[.pointer (some ⟨g, 0, none⟩)] 64)).alloc (.cells #[.int .i64 p] 2)).alloc (.cells #[.int .i64 0] 2) = w0 at hP hX hT hb0 hz0
  have hgl := L.hd.lt
  have hvl := L.own_lt
  have L0 := Lib.hid (L.ext hb0)
  have hcP : w0.cell? ⟨w.heap.size, 0, none⟩ = some (.pointer (some ⟨g, 0, none⟩)) := hP.cell 0
  have HW0 := Lib.hid hw0
  have HZ0 := Lib.hid hz0
  clear hw0 hz0 L
  go_wp2_with fail
  rw [HW0.out]
  refine wp_scope_straight (wp_seq (wp_label ?_))
  go_wp2_with fail
  refine (each_any (some ⟨g, 0, none⟩) _).mono ?_
  rintro e w1 ⟨rfl, hB1, hb1⟩
  go_wp2_with fail
  have hz0 := HZ0.out
  have hz1 := hb1.size
  have hP1 := hP.ext hb1
  have hX1 := hX.ext hb1
  have hT1 := hT.ext hb1
  have L1 := Lib.hid (L0.out.ext hb1)
  have hb01 := hb0.trans (hb1.mono hb0.size)
  have hseq := Lib.hid (leach_stops L1.out w0.heap.size hB1 [w.heap.size + 1 + 1] ⟨by simp; omega, by simp; omega, fun r hr => by have := hvl r hr; simp; omega⟩)
  clear L0 hP hX hT hb0 hb1 hB1 HW0 HZ0 hcP
  refine' wp_rangeFuncHF (α := Of ls) [w.heap.size + 1 + 1] (gf := 74) (by rfl) (enters_of Try.func74 (by kernel_rfl) rfl) hseq.out (fun _ => rfl)
    (fun pre W => ButL [w.heap.size + 1 + 1] w1.heap.size w1 W ∧ ∃ t, Blk W (w.heap.size + 1 + 1) 2 #[.int .i64 t] ∧ 0 ≤ t ∧ t ≤ 4611686018427387904 ∧ (pre <+: ls.attach → t = sumQ pre))
    (fun c pre W => c = .ret ∧ ¬ pre <+: ls.attach)
    ?I ?Ix ?h0 _ (fun x bx W => w.heap.size + 1 + 1 + 1 ≤ bx ∧ Blk W bx 88 x.1.arr) ?hBx ?assign ?body ?done ?stop
  case I =>
    rintro pre W W' row ⟨h1, t, h2, h3⟩ hg hr
    have hbl : Below w1.heap.size W W' := grown_below hg h1.size (fun g e => (hr g e).1)
    exact ⟨h1.trans (ButL.of_below hbl), t, h2.own hg hr, h3⟩
  case Ix =>
    rintro c pre W W' row h2 hg hr
    exact h2
  case h0 => exact ⟨ButL.refl _ _ _, 0, hT1, by omega, by omega, fun _ => rfl⟩
  case hBx =>
    rintro x bx _ W W' row ⟨h2, h3⟩ hg hr
    exact ⟨h2, h3.own hg hr⟩
  case assign =>
    intro l pre x W K hI hK
    obtain ⟨h1, t, h2, h3⟩ := hI
    have hsz := h1.size
    have hX0 : Blk (W.alloc (.cells lvlZ 88)) W.heap.size 88 lvlZ := Blk.new _ _ _ _ rfl
    unfold encL
    refine round_region_lit (by kernel_rfl) (fun ⟨_, _, h⟩ => h) ?_
    go_wp2_with (first | ((with_reducible show wpList _ _ _ (⟨_, .store 88 _ _, _, _, _, _⟩ :: _) _ _); refine wpList_store_blk (by rfl) 88 _ _ (by rfl) _ _ (by rfl) (by rfl) _ _ hX0 (by kernel_rfl) (by rfl) ?_ ?_; (next => simp [Value.oneCell', Lvl.arr, Lvl.cells]); intro W5 hX5 hU5) | fail)
    have hW5 : Below W.heap.size W W5 := below_upd (by (repeat (first | with_reducible exact Below.refl _ _ | (with_reducible assumption) | (with_reducible refine below_alloc ?_ _) | (with_reducible refine below_ext (w1 := ?_) ?_ ?_; rotate_left 2; (with_reducible assumption)) | (with_reducible refine Below.setCell ?_ ?_ _; rotate_left; ((try simp) <;> omega)) | (with_reducible refine Below.drew ?_) | (with_reducible refine below_drewN ?_ _) | fail))) (Nat.le_refl _) hU5
    simp only [Act.put]
    obtain ⟨bx, hbe⟩ : ∃ b, b = W.heap.size := ⟨_, rfl⟩
    rw [← hbe] at hX5 ⊢
    exact hK bx W5 (keepsFrom_below hW5) (ButL.of_below (hW5.mono hsz)) ⟨h1.trans (ButL.of_below (hW5.mono hsz)), t, h2.ext hW5, h3⟩ ⟨by omega, hX5⟩
  case body =>
    rintro l pre x bx W ⟨h1, t, h2, h3, h4, h5⟩ ⟨hbx, hX⟩ hlt2
    have LW : Hid (∀ W', Below W.heap.size W W' → W'.cell? ⟨g, 0, none⟩ = some (.int .i64 side)) := Lib.hid (fun W' hW' => ((L1.out.hd.butL h1 (by simp; omega)).ext hW').cell 0)
    have hrng := L1.out.rng x.1 x.2
    have hqx := hq x.1 x.2
    have hkx := hk x.1 x.2
    have hqm := sumQ_mem hq ls.attach (List.mem_attach ls x)
    have hpx : I64 x.1.price := ⟨by omega, by omega⟩
    have HK1 : Hid (∀ W', Below W.heap.size W W' → Calls Try.prog 77 #[.pointer (some ⟨g, 0, none⟩), .int .i64 x.1.price] W' fun e w' => e = .returned (.int .i64 (keyF side x.1.price)) ∧ W' = w') := Lib.hid (fun W' hW' => key_at (LW.out W' hW') _ hpx)
    have HK2 : Hid (∀ W', Below W.heap.size W W' → Calls Try.prog 77 #[.pointer (some ⟨g, 0, none⟩), .int .i64 p] W' fun e w' => e = .returned (.int .i64 (keyF side p)) ∧ W' = w') := Lib.hid (fun W' hW' => key_at (LW.out W' hW') _ hp)
    have hgt : ¬ (keyF side p < keyF side x.1.price) := by omega
    have cP : W.cell? ⟨w.heap.size, 0, none⟩ = some (.pointer (some ⟨g, 0, none⟩)) := (hP1.butL h1 (by simp; omega)).cell 0
    have cX : W.cell? ⟨w.heap.size + 1, 0, none⟩ = some (.int .i64 p) := (hX1.butL h1 (by simp)).cell 0
    have cB : W.cell? ⟨bx, 0, none⟩ = some (.int .i64 x.1.price) := hX.cell 0
    have lX := hX.lt
    have lT := h2.lt
    have lP : w.heap.size < W.heap.size := by omega
    have lQ : w.heap.size + 1 < W.heap.size := by omega
    clear hseq L1 LW
    generalize keyF side p = kp at *
    generalize keyF side x.1.price = kx at *
    gi_wp2_with fail
    refine round_region_below_lit (by kernel_rfl) (by kernel_rfl) (fun ⟨_, _, h⟩ => h) (by kernel_rfl) ?_
    repeat (first | go_big_quiet_skip | (go_big_quiet_want; go_big_quiet_op; go_big_quiet_on) | (refine q_load_fld (by rfl) _ _ (by rfl) (fun _ h => h) _ _ (by rfl) ?_ ?_ ?_ ?_ ?_ ?_; rotate_left; (next => (repeat (first | (with_reducible refine BlkAt.new _ _ _ _ ?_; ((try simp) <;> omega)) | (with_reducible assumption) | (with_reducible refine Blk.at (t := ?_) ?_; rotate_left; with_reducible assumption) | with_reducible refine BlkAt.alloc ?_ _ | with_reducible refine BlkAt.drew ?_ | (with_reducible refine BlkAt.setSame ?_ _ _) | (with_reducible refine BlkAt.setCell ?_ ?_ _; rotate_left; ((try simp) <;> omega)) | (with_reducible refine BlkAt.ext (w := ?_) ?_ ?_; rotate_left 2; (with_reducible assumption)) | fail))); rotate_left; (next => first | (simp only [go_sem]; rfl) | rfl); (next => kernel_rfl); (try simp only [Act.put, List.setIfInBounds_toArray, List.set_cons_zero, List.set_cons_succ])) | (refine q_rem (by rfl) _ _ _ _ (by rfl) _ _ (by rfl) (by rfl) (by kernel_rfl) (by kernel_rfl) ?_ ?_; (next => omega); (try simp only [Act.put, List.setIfInBounds_toArray, List.set_cons_zero, List.set_cons_succ])) | (refine q_step_ex (by rfl) ?_; apply Exists.intro; refine ⟨fun W hW => ?_, ?_⟩; (next => (have hWc := fun (b o : Nat) (h : b < _) => (Ext.out hW).cell (p := ⟨b, o, none⟩) h); (try have hLK := HLK.out W (Ext.out hW)); go_simp; first | rfl | (go_at_call 77; (first | with_reducible refine (HK1.out _ hW.out).mono ?_ | with_reducible refine (HK2.out _ hW.out).mono ?_); rintro e w'' ⟨rfl, rfl⟩; exact ⟨rfl, hW⟩) | fail); (try simp only [Act.put, List.setIfInBounds_toArray, List.set_cons_zero, List.set_cons_succ])) | fail)
    refine wpQuiet_nil ?_
    intro w7 hb7
    have h27 := h2.ext hb7
    have cT : w7.cell? ⟨w.heap.size + 1 + 1, 0, none⟩ = some (.int .i64 t) := h27.cell 0
    have cQ : w7.cell? ⟨bx, 1, none⟩ = some (.int .i64 x.1.qty) := (hX.ext hb7).cell 1
    have HA := Lib.hid (Fix.add_any t x.1.qty w7 ⟨by omega, by omega⟩ ⟨by omega, by omega⟩ ⟨by omega, by omega⟩)
    have hnt : w7.frozen? ⟨w.heap.size + 1 + 1, 0, none⟩ = false := h27.frozen 0
    gi_wp2_with fail
    refine ⟨trivial, CallsIn.inRound l (callsIn_wide.2 ?_)⟩
    refine HA.out.mono ?_
    rintro e w' ⟨rfl, rfl⟩
    have hsz := h1.size
    by_cases hov : t + x.1.qty ≤ 4611686018427387904
    · have hov2 : ¬ (4611686018427387904 < t + x.1.qty) := by omega
      gi_wp2_with fail
      have hU8 := Upd.setCell w7 ⟨w.heap.size + 1 + 1, 0, none⟩ (.int .i64 (t + x.1.qty))
      have h28 := h27.setCell 0 (.int .i64 (t + x.1.qty))
      refine ⟨(keepsFrom_below hb7).trans ((KeepsOthers.setCell _ _ _).from _), (ButL.of_below (hb7.mono hsz)).upd (by simp) hU8, h1.trans ((ButL.of_below (hb7.mono hsz)).upd (by simp) hU8), t + x.1.qty, h28, by omega, hov, fun hpre => ?_⟩
      rw [sumQ_app, h5 ((List.prefix_append _ _).trans hpre)]
      simp [sumQ]
    · have hov2 : 4611686018427387904 < t + x.1.qty := by omega
      gi_wp2_with fail
      refine ⟨(keepsFrom_below hb7).trans ((KeepsOthers.setCell _ _ _).from _), rfl, fun hpre => ?_⟩
      have k1 := h5 ((List.prefix_append _ _).trans hpre)
      have k2 := sumQ_le hq hpre
      rw [sumQ_app] at k2
      simp only [sumQ] at k2
      omega
  case done =>
    rintro D ys W hD rfl ⟨h1, t, h2, h3, h4, h5⟩ hK
    obtain rfl := h5 (List.prefix_refl _)
    have hDl : D < W.heap.size := (Array.getElem?_eq_some_iff.1 hK).1
    have cT : W.cell? ⟨w.heap.size + 1 + 1, 0, none⟩ = some (.int .i64 (sumQ ls.attach)) := h2.cell 0
    have hbW : Below w.heap.size w W := hb01.trans ⟨h1.os, h1.tape, h1.output, h1.size, fun k hk => h1.block k (by omega) (by simp; omega)⟩
    clear h5 hseq
    go_wp2_with (first | ((with_reducible show wpList _ _ _ (⟨_, .store _ _ _, _, _, _, _⟩ :: _) _ _); refine wpList_store_fld (by rfl) _ _ _ (by rfl) _ _ (by rfl) _ (by rfl) _ _ h2 ?_ ?_ (by rfl) (by rfl) ?_; (next => first | omega | ((try simp) <;> omega)); (next => kernel_rfl); intro w9 hT9 hU9) | fail)
    have hK9 : w9.heap[D]? = some (.deferred (some [])) := (hU9.block D (by omega)).trans hK
    have hb9 : Below w.heap.size w w9 := below_upd hbW (by omega) hU9
    have hT10 : Blk w9 (w.heap.size + 1 + 1) 2 #[.int .i64 (sumQ ls.attach)] := hT9
    have hcc : (w9.putObj D (.deferred none)).cell? ⟨w.heap.size + 1 + 1, 0, none⟩ = some (.int .i64 (sumQ ls.attach)) := (cell_mark (by omega)).trans (hT10.cell 0)
    show bodyPostM Fence.wide 9 _ _ _ Exit.ret _ _
    exact bodyPostM_ret (v := .int .i64 (sumQ ls.attach)) rfl hK9 (by simp [results, Try.results55, go_sem, hcc]) ⟨rfl, below_mark hb9 (by omega) hK9⟩
  case stop =>
    rintro D c pre W hD hSp ⟨rfl, hx⟩ _
    exact absurd hSp hx
end
end Lad
end Go.Proofs.Ytdhbioaoholcbaa
