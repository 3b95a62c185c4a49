/- This text proves ArenaEach: whatever the input, the law returns true. It has no conditions. -/
import Derived.Test.YtodgeakkecaliaaArenaEach
import Derived.Test.YtodgeakkecaliaaRangeH
import Derived.Test.YtodgeakkecaliaaRound
import Derived.Deep.CutRange
namespace Go.Proofs.Ytodgeakkecaliaa
set_option linter.unusedVariables false
open Go.RowKit
namespace Are
set_option maxHeartbeats 2000000
set_option maxRecDepth 10000
attribute [local go_sem] Oper.semAt_some in
theorem aeach_any (n : Int) (xs : List Act) (stop : Int) (A : Option Addr) (cap : Nat) (w : World) (hr : Rd w 9 A (xs.map Act.cells)) (hml : xs.length ≤ maxLen) :
    Calls Try.prog 5 #[.int .i64 n, .slice A xs.length cap, .int .i64 stop] w fun e w' => e = .returned (.bool true) ∧ Below w.heap.size w w' := by
  unfold maxLen at hml
  have HR := Lib.hid hr
  clear hr
  refine calls_of_wp_marks Try.func5 rfl ?_
  simp only [Try.ntmps5, List.size_toArray, List.length_cons, List.length_nil, Nat.reduceAdd, Nat.reduceSub, Array.replicate_succ, Array.replicate_zero, List.push_toArray, List.append_toArray, List.nil_append, List.cons_append]
  have hS : Blk ((w.alloc (.cells #[.int .i64 stop] 3)).alloc (.cells #[.bool false] 4)) w.heap.size 3 #[.int .i64 stop] := (Blk.new w _ _ _ rfl).alloc _
  have hT : Blk ((w.alloc (.cells #[.int .i64 stop] 3)).alloc (.cells #[.bool false] 4)) (w.heap.size + 1) 4 #[.bool false] := Blk.new _ _ _ _ (sz_alloc _ _)
  have hb0 : Below w.heap.size w ((w.alloc (.cells #[.int .i64 stop] 3)).alloc (.cells #[.bool false] 4)) := by (repeat (first | with_reducible exact Below.refl _ _ | (with_reducible assumption) | (with_reducible refine below_alloc ?_ _) | (with_reducible refine below_ext (w1 := ?_) ?_ ?_; rotate_left 2; (with_reducible assumption)) | (with_reducible refine Below.setCell ?_ ?_ _; rotate_left; ((try simp) <;> omega)) | (with_reducible refine Below.drew ?_) | (with_reducible refine below_drewN ?_ _) | fail))
  generalize hw0 : (w.alloc (.cells #[.int .i64 stop] 3)).alloc (.cells #[.bool false] 4) = w0 at hS hT hb0
  have hz0 : w0.heap.size = w.heap.size + 1 + 1 := by rw [← hw0, sz_alloc, sz_alloc]
  have HW0 := Lib.hid hw0
  have HZ0 := Lib.hid hz0
  clear hw0 hz0
  go_wp2_with fail
  rw [HW0.out]
  refine (alive_any _).mono ?_
  rintro e w1 ⟨rfl, hb1⟩
  have hT1 := hT.ext hb1
  have hS1 := hS.ext hb1
  have hB1 := hb0.trans (hb1.mono hb0.size)
  have hz1 : w.heap.size + 2 ≤ w1.heap.size := by have h1 := HZ0.out; have h2 := hb1.size; omega
  clear hT hS hb0 HW0 HZ0 hb1
  by_cases hn : (n < 1 ∨ 500 < n) ∨ 200 < xs.length
  · have e0 : (decide (n < 1) || decide (500 < n) || decide (200 < (xs.length : Int))) = true := by
      rcases hn with (h | h) | h <;> simp <;> omega
    go_wp2_with (first | (refine wpList_store_fld (by rfl) _ _ _ (by rfl) _ _ (by rfl) _ (by rfl) _ _ hT1 ?_ ?_ (by rfl) (by rfl) ?_; (next => first | omega | ((try simp) <;> omega)); (next => kernel_rfl); intro w4 hT4 hU4) | fail)
    all_goals (
      have hcc : w4.cell? ⟨w.heap.size + 1, 0, none⟩ = some (.bool true) := hT4.cell 0
      exact bodyPostM_none (v := .bool true) rfl (by simp [results, Try.results5, go_sem, hcc]) ⟨rfl, below_upd hB1 (by omega) hU4⟩)
  have hn1 : 1 ≤ n := by omega
  have hn2 : n ≤ 500 := by omega
  have hn3 : (xs.length : Int) ≤ 200 := by omega
  have hn4 : xs.length ≤ 200 := by omega
  clear hn
  obtain ⟨n, rfl⟩ : ∃ m : Nat, n = m := ⟨n.toNat, by omega⟩
  go_wp2_with fail
  refine (new_any n _ (by omega) (by omega)).mono ?_
  rintro e w2 ⟨g, rfl, hg, hA2, hb2⟩
  have hgl := hA2.lt
  go_wp2_with fail
  refine (rnew_any n _ (by omega) (by omega)).mono ?_
  rintro e w3 ⟨h, bo, bt, co, ct, rfl, hhs, f3, hb3⟩
  have hz2 := hb2.size
  have B3 : Both w3 g h bo bt n (new0 n) (rs0 n) none 0 co ct := ⟨hA2.ext hb3, f3, sim0 n (by omega), rfl, fun x e => (by cases e), by omega⟩
  have hlo : w.heap.size + 2 ≤ g ∧ w.heap.size + 2 ≤ h ∧ w.heap.size + 2 ≤ bo ∧ w.heap.size + 2 ≤ bt := by omega
  have hT3 := (hT1.ext hb2).ext hb3
  have hS3 := (hS1.ext hb2).ext hb3
  have hB3 := below_ext (below_ext hB1 hb2) hb3
  clear f3 hA2 hT1 hS1 hB1 hb2 hb3 hhs hg hgl hz1 hz2
  have hP0 : Blk (w3.alloc (.cells #[.pointer none] 37)) w3.heap.size 37 #[.pointer none] := Blk.new _ _ _ _ rfl
  go_wp2_with (first | (refine wpList_store_fld (by rfl) _ _ _ (by rfl) _ _ (by rfl) _ (by rfl) _ _ hP0 ?_ ?_ (by rfl) (by rfl) ?_; (next => first | omega | ((try simp) <;> omega)); (next => kernel_rfl); intro w4 hP4 hU4) | fail)
  obtain ⟨bb, hbb⟩ : ∃ b, b = w3.heap.size := ⟨_, rfl⟩
  have hlt3 := B3.lt
  have hz3 : w.heap.size + 2 ≤ w3.heap.size := by omega
  have hb34 : Below w3.heap.size w3 w4 := below_upd (below_alloc (Below.refl _ _) _) (Nat.le_refl _) hU4
  have B4 := B3.ext hb34
  have hT4 := hT3.ext hb34
  have hS4 := hS3.ext hb34
  have hB4 := below_ext hB3 hb34
  have hbx : bb ≠ g ∧ bb ≠ h ∧ bb ≠ bo ∧ bb ≠ bt ∧ w.heap.size + 2 ≤ bb := by omega
  have hP5 : Blk w4 bb 37 #[.pointer (some ⟨h, 0, none⟩)] := by rw [hbb]; exact hP4
  rw [← hbb]
  clear hP4 hP0 hU4 hb34 B3 hT3 hS3 hB3 hlt3 hz3 hbb
  go_loopw [11] (fun iv wr => ∃ k : Nat, iv = .int .i64 k ∧ k ≤ xs.length ∧ (∃ s r A cap co ct, Both wr g h bo bt n s r A cap co ct ∧ r.d.length ≤ k) ∧ Below w.heap.size w wr ∧ Blk wr w.heap.size 3 #[.int .i64 stop] ∧ Blk wr (w.heap.size + 1) 4 #[.bool false] ∧ Blk wr bb 37 #[.pointer (some ⟨h, 0, none⟩)]) (fun iv _ => xs.length - (intOf iv).toNat)
  case atStart => exact ⟨0, rfl, Nat.zero_le _, ⟨_, _, _, _, _, _, B4, Nat.le_refl _⟩, hB4, hS4, hT4, hP5⟩
  case round =>
    obtain ⟨k, rfl, hk, ⟨s, r, A', cap', co', ct', BB, hd⟩, hb, hS, hT, hP⟩ := hrel
    clear B4 hB4 hS4 hT4 hP5
    by_cases hlt : k < xs.length
    · obtain ⟨rb, ro, rfl, hrg⟩ := rd_range HR.out hlt
      have HA : Hid (∀ W, Below wr.heap.size wr W → Calls Try.prog 16 #[.pointer (some ⟨g, 0, none⟩), .pointer (some ⟨h, 0, none⟩), .agg xs[k].arr] W (ActPost W g h bo bt n (k + 1))) := Lib.hid (fun W hW => act_any xs[k] (BB.ext hW) k hd (by omega))
      have hmid : wr.rangeAt rb (ro + k * 9) xs[k].cells := fun j v hv => (hb.cell (cell_lt (hrg j v hv))).trans (hrg j v hv)
      have cP : wr.cell? ⟨bb, 0, none⟩ = some (.pointer (some ⟨h, 0, none⟩)) := hP.cell 0
      have hPl := hP.lt
      generalize xs[k] = x at HA hmid hrg
      clear BB hrg
      go_wp2_with fail
      refine wp_region_mid (C := fun W => Ext _ W) 6 _ (by kernel_rfl) (by kernel_rfl) rfl rfl (Below.refl _ _).drew ?_
      simp only [List.take_succ_cons, List.take_zero, List.drop_succ_cons, List.drop_zero]
      repeat (first | go_big_quiet_skip | (go_big_quiet_want; go_big_quiet_op; go_big_quiet_on) | (refine q_load_mid (by rfl) _ _ (by rfl) (fun _ h => h) _ _ (by rfl) _ _ hmid Try.underlying42 rfl (by kernel_rfl) ?_; (try simp only [Act.put, List.setIfInBounds_toArray, List.set_cons_zero, List.set_cons_succ])) | (refine q_load_fld (by rfl) _ _ (by rfl) (fun _ h => h) _ _ (by rfl) ?_ ?_ ?_ ?_ ?_ ?_; rotate_left; (next => (repeat (first | (with_reducible refine BlkAt.new _ _ _ _ ?_; ((try simp) <;> omega)) | (with_reducible assumption) | (with_reducible refine Blk.at (t := ?_) ?_; rotate_left; with_reducible assumption) | with_reducible refine BlkAt.alloc ?_ _ | with_reducible refine BlkAt.drew ?_ | (with_reducible refine BlkAt.setSame ?_ _ _) | (with_reducible refine BlkAt.setCell ?_ ?_ _; rotate_left; ((try simp) <;> omega)) | (with_reducible refine BlkAt.ext (w := ?_) ?_ ?_; rotate_left 2; (with_reducible assumption)) | fail))); rotate_left; (next => first | (simp only [go_sem]; rfl) | rfl); (next => kernel_rfl); (try simp only [Act.put, List.setIfInBounds_toArray, List.set_cons_zero, List.set_cons_succ])) | (refine q_rem (by rfl) _ _ _ _ (by rfl) _ _ (by rfl) (by rfl) (by kernel_rfl) (by kernel_rfl) ?_ ?_; (next => omega); (try simp only [Act.put, List.setIfInBounds_toArray, List.set_cons_zero, List.set_cons_succ])) | (refine q_step_ex (by rfl) ?_; apply Exists.intro; refine ⟨fun W hW => ?_, ?_⟩; (next => (have hWc := fun (b o : Nat) (h : b < _) => (Ext.out hW).cell (p := ⟨b, o, none⟩) h); go_simp; first | rfl | fail | fail); (try simp only [Act.put, List.setIfInBounds_toArray, List.set_cons_zero, List.set_cons_succ])) | fail)
      refine wpQuiet_nil ?_
      intro w4 hb4
      refine wp_enter (F := 16) (args := #[.pointer (some ⟨g, 0, none⟩), .pointer (some ⟨h, 0, none⟩), .agg x.arr]) (v := .bool true) ?_ ?_
      (next => first | (go_simp; done) | (go_simp; rfl))
      refine (HA.out _ hb4).mono ?_
      rintro e w5 ⟨rfl, ⟨s5, r5, A5, cap5, co5, ct5, B5, hd5⟩, hu5⟩
      refine ⟨rfl, ?_⟩
      simp only [Act.put, List.setIfInBounds_toArray, List.set_cons_zero, List.set_cons_succ]
      have hb4' := below_ext hb hb4
      have hb5 : Below w.heap.size w w5 := hb4'.trans (hu5.below (by simp; omega) hb4'.size)
      have hS5 := (hS.ext hb4).butL hu5 (by simp; omega)
      have hT5 := (hT.ext hb4).butL hu5 (by simp; omega)
      have hP5 := (hP.ext hb4).butL hu5 (by simp; omega)
      clear hmid HA hb4' hu5 hb4 hS hT hP cP hPl
      skip
      repeat (first | go_big_quiet_skip | (go_big_quiet_want; go_big_quiet_op; go_big_quiet_on) | (refine q_load_fld (by rfl) _ _ (by rfl) (fun _ h => h) _ _ (by rfl) ?_ ?_ ?_ ?_ ?_ ?_; rotate_left; (next => (repeat (first | (with_reducible refine BlkAt.new _ _ _ _ ?_; ((try simp) <;> omega)) | (with_reducible assumption) | (with_reducible refine Blk.at (t := ?_) ?_; rotate_left; with_reducible assumption) | with_reducible refine BlkAt.alloc ?_ _ | with_reducible refine BlkAt.drew ?_ | (with_reducible refine BlkAt.setSame ?_ _ _) | (with_reducible refine BlkAt.setCell ?_ ?_ _; rotate_left; ((try simp) <;> omega)) | (with_reducible refine BlkAt.ext (w := ?_) ?_ ?_; rotate_left 2; (with_reducible assumption)) | fail))); rotate_left; (next => first | (simp only [go_sem]; rfl) | rfl); (next => kernel_rfl); (try simp only [Act.put, List.setIfInBounds_toArray, List.set_cons_zero, List.set_cons_succ])) | (refine q_rem (by rfl) _ _ _ _ (by rfl) _ _ (by rfl) (by rfl) (by kernel_rfl) (by kernel_rfl) ?_ ?_; (next => omega); (try simp only [Act.put, List.setIfInBounds_toArray, List.set_cons_zero, List.set_cons_succ])) | (refine q_step_ex (by rfl) ?_; apply Exists.intro; refine ⟨fun W hW => ?_, ?_⟩; (next => (have hWc := fun (b o : Nat) (h : b < _) => (Ext.out hW).cell (p := ⟨b, o, none⟩) h); go_simp; first | rfl | fail | fail); (try simp only [Act.put, List.setIfInBounds_toArray, List.set_cons_zero, List.set_cons_succ])) | fail)
      refine wpQuiet_nil ?_
      intro w6 hb6
      go_wp2_with fail
      go_roundw
      case rel => exact ⟨k + 1, by go_num, by omega, ⟨_, _, _, _, _, _, B5.ext hb6, hd5⟩, below_ext hb5 hb6, hS5.ext hb6, hT5.ext hb6, hP5.ext hb6⟩
      case measure => simp [intOf]; omega
    · have hlt5 := BB.lt
      have hN0 : Blk ((wr.alloc (.cells #[.int .i64 0] 3)).alloc (.cells #[.int .i64 0] 3)) wr.heap.size 3 #[.int .i64 0] := (Blk.new _ _ _ _ rfl).alloc _
      have hL0 : Blk ((wr.alloc (.cells #[.int .i64 0] 3)).alloc (.cells #[.int .i64 0] 3)) (wr.heap.size + 1) 3 #[.int .i64 0] := Blk.new _ _ _ _ (sz_alloc _ _)
      go_wp2_with (first | ((refine wpList_store_fld (by rfl) _ _ _ (by rfl) _ _ (by rfl) _ (by rfl) _ _ hN0 ?_ ?_ (by rfl) (by rfl) ?_; (next => first | omega | ((try simp) <;> omega)); (next => kernel_rfl); intro w4 hN4 hU4); have hL4 := hL0.upd (by omega) hU4) | (refine wpList_store_fld (by rfl) _ _ _ (by rfl) _ _ (by rfl) _ (by rfl) _ _ hL4 ?_ ?_ (by rfl) (by rfl) ?_; (next => first | omega | ((try simp) <;> omega)); (next => kernel_rfl); intro w5 hL5 hU5) | fail)
      have hb5 : Below wr.heap.size wr w5 := below_upd (below_upd (by (repeat (first | with_reducible exact Below.refl _ _ | (with_reducible assumption) | (with_reducible refine below_alloc ?_ _) | (with_reducible refine below_ext (w1 := ?_) ?_ ?_; rotate_left 2; (with_reducible assumption)) | (with_reducible refine Below.setCell ?_ ?_ _; rotate_left; ((try simp) <;> omega)) | (with_reducible refine Below.drew ?_) | (with_reducible refine below_drewN ?_ _) | fail))) (Nat.le_refl _) hU4) (by omega) hU5
      have hN5 := hN4.upd (by omega) hU5
      refine (each_any (some ⟨g, 0, none⟩) _).mono ?_
      rintro e w6 ⟨rfl, hQ6, hb6⟩
      go_wp2_with fail
      have hz5 : wr.heap.size + 2 ≤ w5.heap.size := by have := hL5.lt; omega
      have hz6 := hb6.size
      have hw6 : Below wr.heap.size wr w6 := below_ext hb5 hb6
      have hN6 := hN5.ext hb6
      have hL6 := hL5.ext hb6
      have B6 := BB.ext hw6
      have hS6 := hS.ext hw6
      have hT6 := hT.ext hw6
      have hP6 := hP.ext hw6
      have hbw := below_ext hb hw6
      have hPl := hP.lt
      have hTl := hT.lt
      have hs5 : s.size ≤ 500 := by have h1 := BB.sim.size; have h2 := BB.rf.n; omega
      have hseq := Lib.hid (each_stops B6.ar hs5 _ hQ6 [wr.heap.size, wr.heap.size + 1] (by simp; omega))
      have hwl := hw6.size
      clear hQ6 hL5 hN5 hb5 hU4 hU5 hN4 hL4 hN0 hL0 hb6 B6 hS6 hT6 hP6
      refine' wp_rangeFuncHF (α := Nat × Ord) [wr.heap.size, wr.heap.size + 1] (gf := 41) (by rfl) (enters_of Try.func41 (by kernel_rfl) rfl) hseq.out (fun _ => rfl)
        (fun pre W => Below wr.heap.size w6 W ∧ Blk W wr.heap.size 3 #[.int .i64 pre.length] ∧ Blk W (wr.heap.size + 1) 3 #[.int .i64 (lastO pre)] ∧ ∀ m : Nat, 1 ≤ m → m ≤ pre.length → (m : Int) ≠ stop)
        (fun c pre W => (c = .ret ∧ ¬ pre <+: upto s s.size) ∨ (c = .exit 2 ∧ Below wr.heap.size w6 W ∧ Blk W wr.heap.size 3 #[.int .i64 pre.length] ∧ (pre.length : Int) = stop ∧ 1 ≤ pre.length))
        ?I ?Ix ?h0 _ (fun x bx W => wr.heap.size + 2 ≤ bx ∧ Blk W bx 32 x.2.arr) ?hBx ?assign ?body ?done ?stop
      case I =>
        rintro pre W W' row ⟨h1, h2, h3, h4⟩ hg hr
        have hsz := h1.size
        have hbl : Below w6.heap.size W W' := grown_below hg h1.size (fun g e => (hr g e).1)
        exact ⟨h1.trans (hbl.mono hwl), h2.own hg hr, h3.own hg hr, h4⟩
      case Ix =>
        rintro c pre W W' row h2 hg hr
        rcases h2 with h2 | ⟨h2, h1, h3, h5⟩
        · exact .inl h2
        · have hbl : Below w6.heap.size W W' := grown_below hg h1.size (fun g e => (hr g e).1)
          exact .inr ⟨h2, h1.trans (hbl.mono hwl), h3.own hg hr, h5⟩
      case h0 => exact ⟨Below.refl _ _, hN6, hL6, fun m h1 h2 => by simp at h2; omega⟩
      case hBx =>
        rintro x bx _ W W' row ⟨h2, h3⟩ hg hr
        exact ⟨h2, h3.own hg hr⟩
      case assign =>
        intro l pre x W K hI hK
        obtain ⟨h1, h2, h3, h4⟩ := hI
        have hsz := h1.size
        have hX0 : Blk (W.alloc (.cells ord0.arr 32)) W.heap.size 32 ord0.arr := Blk.new _ _ _ _ rfl
        unfold encO
        refine wpIn_seq ?_
        refine round_region_lit (by kernel_rfl) (fun ⟨_, _, h⟩ => h) ?_
        go_wp2_with fail
        refine round_region_lit (by kernel_rfl) (fun ⟨_, _, h⟩ => h) ?_
        go_wp2_with (first | (refine wpList_store_blk (by rfl) 32 _ _ (by rfl) _ _ (by rfl) (by rfl) _ _ hX0 (by kernel_rfl) (by rfl) ?_ ?_; (next => first | (simp [Value.oneCell']; done) | exact Are.ordArr_one _); intro W5 hX5 hU5) | fail)
        have hW5 : Below W.heap.size W W5 := below_upd (by (repeat (first | with_reducible exact Below.refl _ _ | (with_reducible assumption) | (with_reducible refine below_alloc ?_ _) | (with_reducible refine below_ext (w1 := ?_) ?_ ?_; rotate_left 2; (with_reducible assumption)) | (with_reducible refine Below.setCell ?_ ?_ _; rotate_left; ((try simp) <;> omega)) | (with_reducible refine Below.drew ?_) | (with_reducible refine below_drewN ?_ _) | fail))) (Nat.le_refl _) hU5
        simp only [Act.put]
        obtain ⟨bx, hbe⟩ : ∃ b, b = W.heap.size := ⟨_, rfl⟩
        rw [← hbe] at hX5 ⊢
        exact hK bx W5 (keepsFrom_below hW5) (ButL.of_below (hW5.mono hsz)) ⟨h1.trans (hW5.mono (by omega)), h2.ext hW5, h3.ext hW5, h4⟩ ⟨by omega, hX5⟩
      case body =>
        rintro l pre ⟨kx, ox⟩ bx W ⟨h1, h2, h3, h4⟩ ⟨hb1, hX⟩ hlt2
        have hwW := hw6.trans h1
        have BW := BB.ext hwW
        have f := BW.rf
        obtain ⟨c0, c1, _, _⟩ := f.c
        have cP : W.cell? ⟨bb, 0, none⟩ = some (.pointer (some ⟨h, 0, none⟩)) := (hP.ext hwW).cell 0
        have cL : W.cell? ⟨wr.heap.size + 1, 0, none⟩ = some (.int .i64 (lastO pre)) := h3.cell 0
        have cN : W.cell? ⟨wr.heap.size, 0, none⟩ = some (.int .i64 pre.length) := h2.cell 0
        have cS : W.cell? ⟨w.heap.size, 0, none⟩ = some (.int .i64 stop) := (hS.ext hwW).cell 0
        have hTW := hT.ext hwW
        have lP := hP.lt
        have lW := hwW.size
        have lN := h2.lt
        have lL := h3.lt
        have lX := hX.lt
        have lB : bb < W.heap.size := by omega
        have lh : h < W.heap.size := f.hd.lt
        have lo : bo < W.heap.size := f.fbo.lt
        have hmem : ∀ x : Nat × Ord, (pre ++ [x]) <+: upto s s.size → r.has (x.1 : Int) = true ∧ x.2 = r.o x.1 := by
          intro x hx
          obtain ⟨k1, k2, k3⟩ := upto_mem (hx.subset (by simp : x ∈ pre ++ [x]))
          have k4 : x.1 < r.n := by have := BW.sim.size; omega
          have k5 := (BW.sim.tk x.1 k4).1 k2
          exact ⟨by rw [has_in k4]; exact k5, by rw [k3]; exact BW.sim.o x.1 k4 k5⟩
        have HM := Lib.hid hmem
        clear hmem hseq HR
        by_cases hle : (kx : Int) ≤ lastO pre
        · gi_wp2_with fail
          refine round_region_below_lit (by kernel_rfl) (by kernel_rfl) (fun ⟨_, _, h⟩ => h) (by kernel_rfl) ?_
          repeat (first | go_big_quiet_skip | (go_big_quiet_want; go_big_quiet_op; go_big_quiet_on) | (refine q_load_mid (by rfl) _ _ (by rfl) (fun _ h => h) _ _ (by rfl) _ _ hmid Try.underlying32 rfl (by kernel_rfl) ?_; (try simp only [Act.put, List.setIfInBounds_toArray, List.set_cons_zero, List.set_cons_succ])) | (refine q_load_blk (by rfl) 32 _ (by rfl) ?_ (.pointer (some ⟨_, 0, none⟩)) (by rfl) ?_ _ (fun _ h => h) Try.underlying32 rfl ?_ ?_; rotate_left; (next => (repeat (first | (with_reducible refine BlkAt.new _ _ _ _ ?_; ((try simp) <;> omega)) | (with_reducible assumption) | (with_reducible refine Blk.at (t := ?_) ?_; rotate_left; with_reducible assumption) | with_reducible refine BlkAt.alloc ?_ _ | with_reducible refine BlkAt.drew ?_ | (with_reducible refine BlkAt.setSame ?_ _ _) | (with_reducible refine BlkAt.setCell ?_ ?_ _; rotate_left; ((try simp) <;> omega)) | (with_reducible refine BlkAt.ext (w := ?_) ?_ ?_; rotate_left 2; (with_reducible assumption)) | fail))); (next => kernel_rfl); (try simp only [Act.put, List.setIfInBounds_toArray, List.set_cons_zero, List.set_cons_succ])) | (refine q_ne_ord (by rfl) _ _ _ (by rfl) _ _ (by rfl) (by rfl) ?_; (try simp only [Act.put, List.setIfInBounds_toArray, List.set_cons_zero, List.set_cons_succ])) | (refine q_load_fld (by rfl) _ _ (by rfl) (fun _ h => h) _ _ (by rfl) ?_ ?_ ?_ ?_ ?_ ?_; rotate_left; (next => (repeat (first | (with_reducible refine BlkAt.new _ _ _ _ ?_; ((try simp) <;> omega)) | (with_reducible assumption) | (with_reducible refine Blk.at (t := ?_) ?_; rotate_left; with_reducible assumption) | with_reducible refine BlkAt.alloc ?_ _ | with_reducible refine BlkAt.drew ?_ | (with_reducible refine BlkAt.setSame ?_ _ _) | (with_reducible refine BlkAt.setCell ?_ ?_ _; rotate_left; ((try simp) <;> omega)) | (with_reducible refine BlkAt.ext (w := ?_) ?_ ?_; rotate_left 2; (with_reducible assumption)) | fail))); rotate_left; (next => first | (simp only [go_sem]; rfl) | rfl); (next => kernel_rfl); (try simp only [Act.put, List.setIfInBounds_toArray, List.set_cons_zero, List.set_cons_succ])) | (refine q_rem (by rfl) _ _ _ _ (by rfl) _ _ (by rfl) (by rfl) (by kernel_rfl) (by kernel_rfl) ?_ ?_; (next => omega); (try simp only [Act.put, List.setIfInBounds_toArray, List.set_cons_zero, List.set_cons_succ])) | (refine q_step_ex (by rfl) ?_; apply Exists.intro; refine ⟨fun W hW => ?_, ?_⟩; (next => (have hWc := fun (b o : Nat) (h : b < _) => (Ext.out hW).cell (p := ⟨b, o, none⟩) h); go_simp; first | rfl | fail | fail); (try simp only [Act.put, List.setIfInBounds_toArray, List.set_cons_zero, List.set_cons_succ])) | fail)
          refine wpQuiet_nil ?_
          intro w7 hb7
          have rT : w7.cell? ⟨w.heap.size + 1, 0, none⟩ = some (.bool false) := (hTW.ext hb7).cell 0
          have rF : w7.frozen? ⟨w.heap.size + 1, 0, none⟩ = false := (hTW.ext hb7).frozen 0
          gi_wp2_with fail
          refine ⟨(keepsFrom_below hb7).trans ((KeepsOthers.setCell _ _ _).from _), .inl ⟨rfl, fun hpre => ?_⟩⟩
          have := upto_up s.size hpre
          simp only at this
          omega
        have hle2 : decide ((kx : Int) ≤ lastO pre) = false := decide_eq_false hle
        cases hhas : r.has (kx : Int) with
        | false =>
          have HF : Hid (∀ W', Below W.heap.size W W' → Calls Try.prog 21 #[.pointer (some ⟨h, 0, none⟩), .int .i64 kx] W' fun e w' => e = .returned (.bool false) ∧ W' = w') := Lib.hid (fun W' hW => by
            have := rhas_any h bo bt r A' cap' co' ct' kx W' (f.ext hW)
            rwa [hhas] at this)
          gi_wp2_with fail
          refine round_region_below_lit (by kernel_rfl) (by kernel_rfl) (fun ⟨_, _, h⟩ => h) (by kernel_rfl) ?_
          repeat (first | go_big_quiet_skip | (go_big_quiet_want; go_big_quiet_op; go_big_quiet_on) | (refine q_load_mid (by rfl) _ _ (by rfl) (fun _ h => h) _ _ (by rfl) _ _ hmid Try.underlying32 rfl (by kernel_rfl) ?_; (try simp only [Act.put, List.setIfInBounds_toArray, List.set_cons_zero, List.set_cons_succ])) | (refine q_load_blk (by rfl) 32 _ (by rfl) ?_ (.pointer (some ⟨_, 0, none⟩)) (by rfl) ?_ _ (fun _ h => h) Try.underlying32 rfl ?_ ?_; rotate_left; (next => (repeat (first | (with_reducible refine BlkAt.new _ _ _ _ ?_; ((try simp) <;> omega)) | (with_reducible assumption) | (with_reducible refine Blk.at (t := ?_) ?_; rotate_left; with_reducible assumption) | with_reducible refine BlkAt.alloc ?_ _ | with_reducible refine BlkAt.drew ?_ | (with_reducible refine BlkAt.setSame ?_ _ _) | (with_reducible refine BlkAt.setCell ?_ ?_ _; rotate_left; ((try simp) <;> omega)) | (with_reducible refine BlkAt.ext (w := ?_) ?_ ?_; rotate_left 2; (with_reducible assumption)) | fail))); (next => kernel_rfl); (try simp only [Act.put, List.setIfInBounds_toArray, List.set_cons_zero, List.set_cons_succ])) | (refine q_ne_ord (by rfl) _ _ _ (by rfl) _ _ (by rfl) (by rfl) ?_; (try simp only [Act.put, List.setIfInBounds_toArray, List.set_cons_zero, List.set_cons_succ])) | (refine q_load_fld (by rfl) _ _ (by rfl) (fun _ h => h) _ _ (by rfl) ?_ ?_ ?_ ?_ ?_ ?_; rotate_left; (next => (repeat (first | (with_reducible refine BlkAt.new _ _ _ _ ?_; ((try simp) <;> omega)) | (with_reducible assumption) | (with_reducible refine Blk.at (t := ?_) ?_; rotate_left; with_reducible assumption) | with_reducible refine BlkAt.alloc ?_ _ | with_reducible refine BlkAt.drew ?_ | (with_reducible refine BlkAt.setSame ?_ _ _) | (with_reducible refine BlkAt.setCell ?_ ?_ _; rotate_left; ((try simp) <;> omega)) | (with_reducible refine BlkAt.ext (w := ?_) ?_ ?_; rotate_left 2; (with_reducible assumption)) | fail))); rotate_left; (next => first | (simp only [go_sem]; rfl) | rfl); (next => kernel_rfl); (try simp only [Act.put, List.setIfInBounds_toArray, List.set_cons_zero, List.set_cons_succ])) | (refine q_rem (by rfl) _ _ _ _ (by rfl) _ _ (by rfl) (by rfl) (by kernel_rfl) (by kernel_rfl) ?_ ?_; (next => omega); (try simp only [Act.put, List.setIfInBounds_toArray, List.set_cons_zero, List.set_cons_succ])) | (refine q_step_ex (by rfl) ?_; apply Exists.intro; refine ⟨fun W hW => ?_, ?_⟩; (next => (have hWc := fun (b o : Nat) (h : b < _) => (Ext.out hW).cell (p := ⟨b, o, none⟩) h); go_simp; first | rfl | (go_at_call 21; refine (HF.out _ hW.out).mono ?_; rintro e w'' ⟨rfl, rfl⟩; exact ⟨rfl, hW⟩) | fail); (try simp only [Act.put, List.setIfInBounds_toArray, List.set_cons_zero, List.set_cons_succ])) | fail)
          refine wpQuiet_nil ?_
          intro w7 hb7
          have rT : w7.cell? ⟨w.heap.size + 1, 0, none⟩ = some (.bool false) := (hTW.ext hb7).cell 0
          have rF : w7.frozen? ⟨w.heap.size + 1, 0, none⟩ = false := (hTW.ext hb7).frozen 0
          gi_wp2_with fail
          refine ⟨(keepsFrom_below hb7).trans ((KeepsOthers.setCell _ _ _).from _), .inl ⟨rfl, fun hpre => ?_⟩⟩
          have := (HM.out _ hpre).1
          simp only [hhas] at this
          cases this
        | true =>
          have HF : Hid (∀ W', Below W.heap.size W W' → Calls Try.prog 21 #[.pointer (some ⟨h, 0, none⟩), .int .i64 kx] W' fun e w' => e = .returned (.bool true) ∧ W' = w') := Lib.hid (fun W' hW => by
            have := rhas_any h bo bt r A' cap' co' ct' kx W' (f.ext hW)
            rwa [hhas] at this)
          obtain ⟨_, hke, hkn, hkt⟩ := has_yes hhas
          obtain rfl := Int.ofNat.inj hke
          have hmid := f.range hkn
          have e1 : (kx : Int) < (r.n : Int) := by omega
          have e2 : (0 : Int) ≤ (kx : Int) := by omega
          by_cases hoe : ox = r.o kx
          · subst hoe
            have he := ordEq_refl (r.o kx)
            gi_wp2_with fail
            refine round_region_below_lit (by kernel_rfl) (by kernel_rfl) (fun ⟨_, _, h⟩ => h) (by kernel_rfl) ?_
            repeat (first | go_big_quiet_skip | (go_big_quiet_want; go_big_quiet_op; go_big_quiet_on) | (refine q_load_mid (by rfl) _ _ (by rfl) (fun _ h => h) _ _ (by rfl) _ _ hmid Try.underlying32 rfl (by kernel_rfl) ?_; (try simp only [Act.put, List.setIfInBounds_toArray, List.set_cons_zero, List.set_cons_succ])) | (refine q_load_blk (by rfl) 32 _ (by rfl) ?_ (.pointer (some ⟨_, 0, none⟩)) (by rfl) ?_ _ (fun _ h => h) Try.underlying32 rfl ?_ ?_; rotate_left; (next => (repeat (first | (with_reducible refine BlkAt.new _ _ _ _ ?_; ((try simp) <;> omega)) | (with_reducible assumption) | (with_reducible refine Blk.at (t := ?_) ?_; rotate_left; with_reducible assumption) | with_reducible refine BlkAt.alloc ?_ _ | with_reducible refine BlkAt.drew ?_ | (with_reducible refine BlkAt.setSame ?_ _ _) | (with_reducible refine BlkAt.setCell ?_ ?_ _; rotate_left; ((try simp) <;> omega)) | (with_reducible refine BlkAt.ext (w := ?_) ?_ ?_; rotate_left 2; (with_reducible assumption)) | fail))); (next => kernel_rfl); (try simp only [Act.put, List.setIfInBounds_toArray, List.set_cons_zero, List.set_cons_succ])) | (refine q_ne_ord (by rfl) _ _ _ (by rfl) _ _ (by rfl) (by rfl) ?_; (try simp only [Act.put, List.setIfInBounds_toArray, List.set_cons_zero, List.set_cons_succ])) | (refine q_load_fld (by rfl) _ _ (by rfl) (fun _ h => h) _ _ (by rfl) ?_ ?_ ?_ ?_ ?_ ?_; rotate_left; (next => (repeat (first | (with_reducible refine BlkAt.new _ _ _ _ ?_; ((try simp) <;> omega)) | (with_reducible assumption) | (with_reducible refine Blk.at (t := ?_) ?_; rotate_left; with_reducible assumption) | with_reducible refine BlkAt.alloc ?_ _ | with_reducible refine BlkAt.drew ?_ | (with_reducible refine BlkAt.setSame ?_ _ _) | (with_reducible refine BlkAt.setCell ?_ ?_ _; rotate_left; ((try simp) <;> omega)) | (with_reducible refine BlkAt.ext (w := ?_) ?_ ?_; rotate_left 2; (with_reducible assumption)) | fail))); rotate_left; (next => first | (simp only [go_sem]; rfl) | rfl); (next => kernel_rfl); (try simp only [Act.put, List.setIfInBounds_toArray, List.set_cons_zero, List.set_cons_succ])) | (refine q_rem (by rfl) _ _ _ _ (by rfl) _ _ (by rfl) (by rfl) (by kernel_rfl) (by kernel_rfl) ?_ ?_; (next => omega); (try simp only [Act.put, List.setIfInBounds_toArray, List.set_cons_zero, List.set_cons_succ])) | (refine q_step_ex (by rfl) ?_; apply Exists.intro; refine ⟨fun W hW => ?_, ?_⟩; (next => (have hWc := fun (b o : Nat) (h : b < _) => (Ext.out hW).cell (p := ⟨b, o, none⟩) h); go_simp; first | rfl | (go_at_call 21; refine (HF.out _ hW.out).mono ?_; rintro e w'' ⟨rfl, rfl⟩; exact ⟨rfl, hW⟩) | fail); (try simp only [Act.put, List.setIfInBounds_toArray, List.set_cons_zero, List.set_cons_succ])) | fail)
            refine wpQuiet_nil ?_
            intro w7 hb7
            have hs6 := h1.size
            have n7 := h2.ext hb7
            have l7 := h3.ext hb7
            have n7c : w7.cell? ⟨wr.heap.size, 0, none⟩ = some (.int .i64 pre.length) := n7.cell 0
            have n7f : w7.frozen? ⟨wr.heap.size, 0, none⟩ = false := n7.frozen 0
            have l7c : w7.cell? ⟨wr.heap.size + 1, 0, none⟩ = some (.int .i64 (lastO pre)) := l7.cell 0
            have l7f : w7.frozen? ⟨wr.heap.size + 1, 0, none⟩ = false := l7.frozen 0
            have s7c : w7.cell? ⟨w.heap.size, 0, none⟩ = some (.int .i64 stop) := ((hS.ext hwW).ext hb7).cell 0
            have hl7 : (pre.length : Int) < 500 := by
              have k1 := upto_cnt BW.sim r.n (Nat.le_refl _)
              have k2 := cnt_le r.t r.n
              rw [← BW.sim.size] at k1 k2
              have k3 := BW.sim.size
              omega
            have ne1 : w.heap.size ≠ wr.heap.size := by omega
            have ne2 : w.heap.size ≠ wr.heap.size + 1 := by omega
            have hle3 : (((pre ++ [(kx, r.o kx)]).length : Nat) : Int) = (pre.length : Int) + 1 := by simp
            have hkf : ∀ u v, KeepsFrom w6.heap.size W ((w7.setCell ⟨wr.heap.size + 1, 0, none⟩ u).setCell ⟨wr.heap.size, 0, none⟩ v) := fun u v => (keepsFrom_below hb7).trans (((KeepsOthers.setCell _ _ _).trans (KeepsOthers.setCell _ _ _)).from _)
            have hbl : ∀ u v, Below wr.heap.size w6 ((w7.setCell ⟨wr.heap.size + 1, 0, none⟩ u).setCell ⟨wr.heap.size, 0, none⟩ v) := fun u v =>
              below_upd (below_upd (h1.trans (hb7.mono (by omega))) (show wr.heap.size ≤ wr.heap.size + 1 by omega) (Upd.setCell w7 ⟨wr.heap.size + 1, 0, none⟩ u)) (Nat.le_refl _) (Upd.setCell _ ⟨wr.heap.size, 0, none⟩ v)
            have hnb : ∀ u v, Blk ((w7.setCell ⟨wr.heap.size + 1, 0, none⟩ u).setCell ⟨wr.heap.size, 0, none⟩ v) wr.heap.size 3 #[v] := fun u v =>
              (n7.upd (show wr.heap.size ≠ wr.heap.size + 1 by omega) (Upd.setCell w7 ⟨wr.heap.size + 1, 0, none⟩ u)).setCell 0 v
            have hlb : ∀ u v, Blk ((w7.setCell ⟨wr.heap.size + 1, 0, none⟩ u).setCell ⟨wr.heap.size, 0, none⟩ v) (wr.heap.size + 1) 3 #[u] := fun u v =>
              (l7.setCell 0 u).upd (show wr.heap.size + 1 ≠ wr.heap.size by omega) (Upd.setCell _ ⟨wr.heap.size, 0, none⟩ v)
            gi_wp2_with fail
            · rename_i hs
              have hs2 := eq_of_beq hs
              exact ⟨hkf _ _, .inr ⟨rfl, hbl _ _, by rw [hle3]; exact hnb _ _, by rw [hle3]; exact hs2, by simp⟩⟩
            · rename_i hs
              have hs2 : (pre.length : Int) + 1 ≠ stop := by simpa using hs
              refine ⟨hkf _ _, ((ButL.of_below (hb7.mono (by omega))).upd (by simp) (Upd.setCell w7 ⟨wr.heap.size + 1, 0, none⟩ _)).upd (by simp) (Upd.setCell _ ⟨wr.heap.size, 0, none⟩ _), hbl _ _, by rw [hle3]; exact hnb _ _, by rw [lastO_snoc]; exact hlb _ _, ?_⟩
              intro m hm1 hm2
              by_cases hm3 : m ≤ pre.length
              · exact h4 m hm1 hm3
              · simp at hm2
                omega
          · have he : ordEq (r.o kx) ox = false := by
              cases e : ordEq (r.o kx) ox with
              | false => rfl
              | true => exact absurd ((ordEq_iff _ _).1 e).symm hoe
            gi_wp2_with fail
            refine round_region_below_lit (by kernel_rfl) (by kernel_rfl) (fun ⟨_, _, h⟩ => h) (by kernel_rfl) ?_
            repeat (first | go_big_quiet_skip | (go_big_quiet_want; go_big_quiet_op; go_big_quiet_on) | (refine q_load_mid (by rfl) _ _ (by rfl) (fun _ h => h) _ _ (by rfl) _ _ hmid Try.underlying32 rfl (by kernel_rfl) ?_; (try simp only [Act.put, List.setIfInBounds_toArray, List.set_cons_zero, List.set_cons_succ])) | (refine q_load_blk (by rfl) 32 _ (by rfl) ?_ (.pointer (some ⟨_, 0, none⟩)) (by rfl) ?_ _ (fun _ h => h) Try.underlying32 rfl ?_ ?_; rotate_left; (next => (repeat (first | (with_reducible refine BlkAt.new _ _ _ _ ?_; ((try simp) <;> omega)) | (with_reducible assumption) | (with_reducible refine Blk.at (t := ?_) ?_; rotate_left; with_reducible assumption) | with_reducible refine BlkAt.alloc ?_ _ | with_reducible refine BlkAt.drew ?_ | (with_reducible refine BlkAt.setSame ?_ _ _) | (with_reducible refine BlkAt.setCell ?_ ?_ _; rotate_left; ((try simp) <;> omega)) | (with_reducible refine BlkAt.ext (w := ?_) ?_ ?_; rotate_left 2; (with_reducible assumption)) | fail))); (next => kernel_rfl); (try simp only [Act.put, List.setIfInBounds_toArray, List.set_cons_zero, List.set_cons_succ])) | (refine q_ne_ord (by rfl) _ _ _ (by rfl) _ _ (by rfl) (by rfl) ?_; (try simp only [Act.put, List.setIfInBounds_toArray, List.set_cons_zero, List.set_cons_succ])) | (refine q_load_fld (by rfl) _ _ (by rfl) (fun _ h => h) _ _ (by rfl) ?_ ?_ ?_ ?_ ?_ ?_; rotate_left; (next => (repeat (first | (with_reducible refine BlkAt.new _ _ _ _ ?_; ((try simp) <;> omega)) | (with_reducible assumption) | (with_reducible refine Blk.at (t := ?_) ?_; rotate_left; with_reducible assumption) | with_reducible refine BlkAt.alloc ?_ _ | with_reducible refine BlkAt.drew ?_ | (with_reducible refine BlkAt.setSame ?_ _ _) | (with_reducible refine BlkAt.setCell ?_ ?_ _; rotate_left; ((try simp) <;> omega)) | (with_reducible refine BlkAt.ext (w := ?_) ?_ ?_; rotate_left 2; (with_reducible assumption)) | fail))); rotate_left; (next => first | (simp only [go_sem]; rfl) | rfl); (next => kernel_rfl); (try simp only [Act.put, List.setIfInBounds_toArray, List.set_cons_zero, List.set_cons_succ])) | (refine q_rem (by rfl) _ _ _ _ (by rfl) _ _ (by rfl) (by rfl) (by kernel_rfl) (by kernel_rfl) ?_ ?_; (next => omega); (try simp only [Act.put, List.setIfInBounds_toArray, List.set_cons_zero, List.set_cons_succ])) | (refine q_step_ex (by rfl) ?_; apply Exists.intro; refine ⟨fun W hW => ?_, ?_⟩; (next => (have hWc := fun (b o : Nat) (h : b < _) => (Ext.out hW).cell (p := ⟨b, o, none⟩) h); go_simp; first | rfl | (go_at_call 21; refine (HF.out _ hW.out).mono ?_; rintro e w'' ⟨rfl, rfl⟩; exact ⟨rfl, hW⟩) | fail); (try simp only [Act.put, List.setIfInBounds_toArray, List.set_cons_zero, List.set_cons_succ])) | fail)
            refine wpQuiet_nil ?_
            intro w7 hb7
            have rT : w7.cell? ⟨w.heap.size + 1, 0, none⟩ = some (.bool false) := (hTW.ext hb7).cell 0
            have rF : w7.frozen? ⟨w.heap.size + 1, 0, none⟩ = false := (hTW.ext hb7).frozen 0
            gi_wp2_with fail
            refine ⟨(keepsFrom_below hb7).trans ((KeepsOthers.setCell _ _ _).from _), .inl ⟨rfl, fun hpre => ?_⟩⟩
            exact hoe (HM.out _ hpre).2
      case done =>
          rintro D ys W hD rfl ⟨h1, h2, h3, h4⟩ hK
          have cN : W.cell? ⟨wr.heap.size, 0, none⟩ = some (.int .i64 (upto s s.size).length) := h2.cell 0
          have hwW := hw6.trans h1
          have BW := BB.ext hwW
          have hTW := hT.ext hwW
          have lP := hP.lt
          have lW := hwW.size
          have cP : W.cell? ⟨bb, 0, none⟩ = some (.pointer (some ⟨h, 0, none⟩)) := (hP.ext hwW).cell 0
          have cS : W.cell? ⟨w.heap.size, 0, none⟩ = some (.int .i64 stop) := (hS.ext hwW).cell 0
          have hcn : cnt r.t r.n = (upto s s.size).length := by rw [BW.sim.size]; exact (upto_cnt BW.sim r.n (Nat.le_refl _)).symm
          have HU := Lib.hid (rused_any h bo bt r A' cap' co' ct' W BW.rf)
          rw [hcn] at HU
          have hln : (upto s s.size).length ≤ 500 := by rw [← hcn]; exact Nat.le_trans (cnt_le _ _) BW.rf.n
          clear hcn
          generalize (upto s s.size).length = m at *
          by_cases hs : 0 < stop ∧ stop < m
          · exact absurd (show ((stop.toNat : Nat) : Int) = stop by omega) (h4 stop.toNat (by omega) (by omega))
          · go_wp2_with (first | (go_at_call 18; refine HU.out.mono ?_; rintro e w'' ⟨rfl, rfl⟩) | (refine wpList_store_fld (by rfl) _ _ _ (by rfl) _ _ (by rfl) _ (by rfl) _ _ hTW ?_ ?_ (by rfl) (by rfl) ?_; (next => first | omega | ((try simp) <;> omega)); (next => kernel_rfl); intro w9 hT9 hU9) | fail)
            all_goals (
              have hT10 : Blk w9 (w.heap.size + 1) 4 #[.bool true] := by
                simpa [go_sem] using hT9
              have hKl : D < W.heap.size := (Array.getElem?_eq_some_iff.1 hK).1
              have hK9 : w9.heap[D]? = some (.deferred (some [])) := (hU9.block D (by omega)).trans hK
              have hb9 : Below w.heap.size w w9 := below_upd (hbw.trans (h1.mono (by omega))) (by omega) hU9
              have hcc : (w9.putObj D (.deferred none)).cell? ⟨w.heap.size + 1, 0, none⟩ = some (.bool true) := (cell_mark (by omega)).trans (hT10.cell 0)
              exact bodyPostM_ret (v := .bool true) rfl hK9 (by simp [results, Try.results5, go_sem, hcc]) ⟨rfl, below_mark hb9 (by omega) hK9⟩)
      case stop =>
          rintro D c pre W hD hp h2 hK
          rcases h2 with ⟨_, h2⟩ | ⟨rfl, h1, h2, h4, h5⟩
          · exact absurd hp h2
          have cN : W.cell? ⟨wr.heap.size, 0, none⟩ = some (.int .i64 pre.length) := h2.cell 0
          have hwW := hw6.trans h1
          have BW := BB.ext hwW
          have hTW := hT.ext hwW
          have lP := hP.lt
          have lW := hwW.size
          have cP : W.cell? ⟨bb, 0, none⟩ = some (.pointer (some ⟨h, 0, none⟩)) := (hP.ext hwW).cell 0
          have cS : W.cell? ⟨w.heap.size, 0, none⟩ = some (.int .i64 stop) := (hS.ext hwW).cell 0
          have hcn : cnt r.t r.n = (upto s s.size).length := by rw [BW.sim.size]; exact (upto_cnt BW.sim r.n (Nat.le_refl _)).symm
          have HU := Lib.hid (rused_any h bo bt r A' cap' co' ct' W BW.rf)
          rw [hcn] at HU
          have hln : (upto s s.size).length ≤ 500 := by rw [← hcn]; exact Nat.le_trans (cnt_le _ _) BW.rf.n
          have hpl := hp.length_le
          subst h4
          clear hcn
          obtain ⟨m, hm1, hm2⟩ : ∃ m : Nat, (upto s s.size).length = m ∧ (m = pre.length ∨ (pre.length : Int) < (m : Int)) := ⟨_, rfl, by omega⟩
          rw [hm1] at HU
          rcases hm2 with rfl | hlt4
          all_goals (
            go_wp2_with (first | (go_at_call 18; refine HU.out.mono ?_; rintro e w'' ⟨rfl, rfl⟩) | (refine wpList_store_fld (by rfl) _ _ _ (by rfl) _ _ (by rfl) _ (by rfl) _ _ hTW ?_ ?_ (by rfl) (by rfl) ?_; (next => first | omega | ((try simp) <;> omega)); (next => kernel_rfl); intro w9 hT9 hU9) | fail)
            all_goals (
              have hT10 : Blk w9 (w.heap.size + 1) 4 #[.bool true] := by
                simpa [go_sem] using hT9
              have hKl : D < W.heap.size := (Array.getElem?_eq_some_iff.1 hK).1
              have hK9 : w9.heap[D]? = some (.deferred (some [])) := (hU9.block D (by omega)).trans hK
              have hb9 : Below w.heap.size w w9 := below_upd (hbw.trans (h1.mono (by omega))) (by omega) hU9
              have hcc : (w9.putObj D (.deferred none)).cell? ⟨w.heap.size + 1, 0, none⟩ = some (.bool true) := (cell_mark (by omega)).trans (hT10.cell 0)
              exact bodyPostM_ret (v := .bool true) rfl hK9 (by simp [results, Try.results5, go_sem, hcc]) ⟨rfl, below_mark hb9 (by omega) hK9⟩))
open Go.ChangeShapes Go.WideShapes Go.ChangeAt Go.Deep
set_option maxRecDepth 100000 in
theorem argsArenaEach (H : Type) (enc : TypeId × Value → H) (W : World) (args : Array Value) (hargs : Args Try.checked H enc [3, 36, 3] W args) :
    Calls Try.prog 5 args W fun e W' => e = .returned (.bool true) ∧ Below W.heap.size W W' := by
  obtain ⟨base, ds, p, hval, hA⟩ := hargs
  obtain ⟨v0, vs0, d0, ds0, p0, q0, hargs, rfl, rfl, h0, r0⟩ := trodAll_cons hA
  obtain ⟨v1, vs1, d1, ds1, p1, q1, rfl, rfl, rfl, h1, r1⟩ := trodAll_cons r0
  obtain ⟨v2, vs2, d2, ds2, p2, q2, rfl, rfl, rfl, h2, r2⟩ := trodAll_cons r1
  obtain ⟨rfl, rfl, rfl⟩ := trodAll_nil r2
  obtain rfl : args = #[v0, v1, v2] := by cases args; simp_all
  obtain ⟨n, rfl, _⟩ := open_int Try.underlying3 (hval 0 _ v0 rfl rfl) h0
  obtain ⟨A, la, ca, rows, rfl, hla, hlc, hca, hfa, ha⟩ := open_rows (ks := List.replicate 9 K) 6 Try.underlying36 (by kernel_rfl) (by kernel_rfl) (by decide) (hval 1 _ v1 rfl rfl) h1
  obtain ⟨xs, rfl, _⟩ := rowsOf (fun vs h => fitAct h) rows hfa
  obtain ⟨stop, rfl, _⟩ := open_int Try.underlying3 (hval 2 _ v2 rfl rfl) h2
  rw [List.length_map] at hla
  subst hla
  exact aeach_any n xs stop A ca W ha (by omega)
theorem ownArenaEach : ownKnob Try.prog.godebug = none := by kernel_rfl
theorem laidArenaEach : laidOutB Try.prog = true := by kernel_rfl
set_option maxRecDepth 100000 in
theorem liftedArenaEach (os : Os) (started : os.Started) (H : Type) (enc : TypeId × Value → H) :
    ReturnsInHanded {} Try.checked os 5 .any (Rows.arenaEachSpec.pre6 enc Try.prog Try.f5 Rows.arenaEachRow.domain false) (Rows.arenaEachSpec.post enc Try.prog Try.f5 false true false false) :=
  law_lifted (C := Try.checked) (ts := [3, 36, 3]) (tb := 4) ownArenaEach laidArenaEach started (by kernel_rfl) Try.func5 (by kernel_rfl)
    (ChangeSpec.witness6 (enc := enc) (C := Try.checked) false ⟨#[], #[.int .i64 0, .slice none 0 0, .int .i64 0], []⟩ 8 (by kernel_rfl) (by kernel_rfl) (by kernel_rfl) (by kernel_rfl))
    rfl (by kernel_rfl) Try.underlying4 (by kernel_rfl)
    (fun ds h => by
      match ds, h with
      | [d0, d1, d2], _ => rfl)
    (fun W args h => argsArenaEach H enc W args h)
theorem provedArenaEach : Rows.ArenaEachSaid :=
  OpenClaim.holds_of_wide 5 Try.f5 rfl rfl rfl rfl rfl rfl rfl ⟨rfl, rfl, rfl, rfl, rfl⟩ rfl rfl rfl rfl rfl (by kernel_rfl) Try.func5 (by kernel_rfl)
    (of_decide_eq_true (by kernel_rfl)) (by unfold Func.isWrapper; first | (rw [if_pos (by decide +kernel)]; kernel_rfl) | (rw [if_neg (by decide +kernel)]; exact ⟨rfl, rfl⟩))
    (fun os started H enc _ => liftedArenaEach os started H enc)
#print axioms provedArenaEach
end Are
end Go.Proofs.Ytodgeakkecaliaa
