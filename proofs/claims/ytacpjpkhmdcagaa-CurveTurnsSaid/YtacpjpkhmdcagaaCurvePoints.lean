/- This text proves CurvePoints: whatever the input, the law returns true. It has no conditions. -/
import Derived.Test.YtacpjpkhmdcagaaCuI
import Derived.Test.YtacpjpkhmdcagaaCuN
import Derived.Test.YtacpjpkhmdcagaaRound
import Derived.Deep.CutRange
namespace Go.Proofs.Ytacpjpkhmdcagaa
set_option linter.unusedVariables false
open Go.RowKit
namespace Cu
set_option maxHeartbeats 4000000
set_option maxRecDepth 10000
open Bk (bkO osOf)
theorem In.all {os : List Ord} {l : List Int} (h : In 0 4611686018427387904 os l) (hok : ∀ o ∈ os, Bk.okO o) : All os l := by
  refine ⟨h.up, fun p => (h.mem p).trans ⟨fun ⟨o, h1, h2, _⟩ => ⟨o, h1, h2⟩, fun ⟨o, h1, h2⟩ => ⟨o, h1, h2, ?_⟩⟩⟩
  have := (hok o h1).2.1
  omega
theorem All.uniq {os : List Ord} {l m : List Int} (h : All os l) (h2 : All os m) : l = m := up_eq h.up h2.up (fun x => (h.mem x).trans (h2.mem x).symm)
theorem rd_far {w : World} {A : Option Addr} {ps : List Pt} {zb : Nat} {v : Value} (hr : Rd w 3 A (ps.map Pt.cells)) (hz : Blk w zb 3 #[v]) (h0 : 0 < ps.length) : ∀ a, A = some a → a.block ∉ [zb] := by
  intro a ha
  obtain ⟨ab, ao, e, hm⟩ := Bk.rd_rngB hr h0
  rw [e] at ha
  cases ha
  intro h
  have h2 : ab = zb := List.mem_singleton.1 h
  have h3 := hm 1 _ rfl
  rw [h2] at h3
  have h4 := hz.cell (ao + 0 * 3 + 1)
  rw [h3] at h4
  simp at h4
attribute [local go_sem] Oper.semAt_some in
theorem points_law (l : List Ord) (stop : Int) (hwf : ∀ o ∈ l, Idx.Wf o.id) (A : Option Addr) (cap : Nat) (w : World) (hr : Rd w 7 A (l.map Ord.cells)) (hml : l.length ≤ maxLen) :
    Calls Try.prog 4 #[.slice A l.length cap, .int .i64 stop] w fun e w' => e = .returned (.bool true) ∧ Below w.heap.size w w' := by
  unfold maxLen at hml
  have HR := Lib.hid hr
  clear hr
  have hS0 : Blk (w.alloc (.cells #[.int .i64 stop] 3)) w.heap.size 3 #[.int .i64 stop] := Blk.new _ _ _ _ rfl
  have hS1 : Blk ((w.alloc (.cells #[.int .i64 stop] 3)).alloc (.cells #[.bool false] 4)) w.heap.size 3 #[.int .i64 stop] := hS0.alloc _
  have hT1 : Blk ((w.alloc (.cells #[.int .i64 stop] 3)).alloc (.cells #[.bool false] 4)) (w.heap.size + 1) 4 #[.bool false] := Blk.new _ _ _ _ (sz_alloc _ _)
  have hb1 : Below w.heap.size w ((w.alloc (.cells #[.int .i64 stop] 3)).alloc (.cells #[.bool false] 4)) := by (repeat (first | with_reducible exact Below.refl _ _ | (with_reducible assumption) | (with_reducible refine below_alloc ?_ _) | (with_reducible refine below_ext (w1 := ?_) ?_ ?_; rotate_left 2; (with_reducible assumption)) | (with_reducible refine Below.setCell ?_ ?_ _; rotate_left; ((try simp) <;> omega)) | (with_reducible refine Below.drew ?_) | (with_reducible refine below_drewN ?_ _) | fail))
  refine calls_of_wp_marks Try.func4 rfl ?_
  simp only [Try.ntmps4, List.size_toArray, List.length_cons, List.length_nil, Nat.reduceAdd, Nat.reduceSub, Array.replicate_succ, Array.replicate_zero, List.push_toArray, List.append_toArray, List.nil_append, List.cons_append]
  clear hS0
  generalize hw1 : (w.alloc (.cells #[.int .i64 stop] 3)).alloc (.cells #[.bool false] 4) = w1 at *
  have HW1 := Lib.hid hw1
  clear hw1
  go_wp2_with fail
  rw [HW1.out]
  refine (alive_any _).mono ?_
  rintro e w2 ⟨rfl, hb2⟩
  have hS2 := hS1.ext hb2
  have hT2 := hT1.ext hb2
  have hB2 := below_ext hb1 hb2
  clear hS1 hT1 hb1 hb2 HW1
  by_cases h60 : 60 < l.length
  · have e1 : (60 : Int) < (l.length : Int) := by omega
    go_wp2_with (first | ((with_reducible show wpList _ _ _ (⟨_, .store _ _ _, _, _, _, _⟩ :: _) _ _); refine wpList_store_fld (by rfl) _ _ _ (by rfl) _ _ (by rfl) _ (by rfl) _ _ hT2 ?_ ?_ (by rfl) (by rfl) ?_; (next => first | omega | ((try simp) <;> omega)); (next => kernel_rfl); intro w4 hT4 hU4) | fail)
    have hcc : w4.cell? ⟨w.heap.size + 1, 0, none⟩ = some (.bool true) := hT4.cell 0
    exact bodyPostM_none (v := .bool true) rfl (by simp [results, Try.results4, go_sem, hcc]) ⟨rfl, below_upd hB2 (by omega) hU4⟩
  have HB := Lib.hid (Bk.books_any l hwf A cap w2 (HR.out.below hB2) (by omega))
  have h61 : ¬ (60 : Int) < l.length := by omega
  have hl60 : l.length ≤ 60 := by omega
  clear HR hwf h60
  go_wp2_with fail
  refine HB.out.mono ?_
  rintro e w3 ⟨b, rb, c, ss, A1, cap1, rfl, W3⟩
  have hT3 := hT2.ext W3.below
  have hS3 := hS2.ext W3.below
  have hB3 := below_ext hB2 W3.below
  have hTl := hT2.lt
  have hz3 := W3.below.size
  have hX0 : Blk (w3.alloc (.cells #[.pointer none] 32)) w3.heap.size 32 #[.pointer none] := Blk.new _ _ _ _ rfl
  have HW3 := Lib.hid W3
  clear HB hT2 hS2 hB2 W3
  go_wp2_with (first | (((with_reducible show wpList _ _ _ (⟨_, .store _ _ _, _, _, _, _⟩ :: _) _ _); refine wpList_store_fld (by rfl) _ _ _ (by rfl) _ _ (by rfl) _ (by rfl) _ _ hX0 ?_ ?_ (by rfl) (by rfl) ?_; (next => first | omega | ((try simp) <;> omega)); (next => kernel_rfl); intro w4 hX4 hU4); have cX4 : w4.cell? ⟨w3.heap.size, 0, none⟩ = some (.pointer (some ⟨rb, 0, none⟩)) := hX4.cell 0) | fail)
  have hb34 : Below w3.heap.size w3 w4 := below_upd (by (repeat (first | with_reducible exact Below.refl _ _ | (with_reducible assumption) | (with_reducible refine below_alloc ?_ _) | (with_reducible refine below_ext (w1 := ?_) ?_ ?_; rotate_left 2; (with_reducible assumption)) | (with_reducible refine Below.setCell ?_ ?_ _; rotate_left; ((try simp) <;> omega)) | (with_reducible refine Below.drew ?_) | (with_reducible refine below_drewN ?_ _) | fail))) (Nat.le_refl _) hU4
  have HPR := Lib.hid (rprices_any (HW3.out.two.rf.ext hb34) 0 4611686018427387904)
  have hxl := hX4.lt
  have hz4 := hb34.size
  obtain ⟨xr, hxr⟩ : ∃ b, b = w3.heap.size := ⟨_, rfl⟩
  rw [← hxr] at hX4 hxl hz4 hz3 ⊢
  have HXR := Lib.hid hxr
  clear hU4 hX0 hxr cX4
  refine HPR.out.mono ?_
  rintro e w5 ⟨⟨v, m, rfl, hown, hin, hml5⟩, hb5⟩
  obtain ⟨A5, cap5, rfl, hrd5, _, _, hfar5⟩ := owns_i hown
  have hY0 : Blk (w5.alloc (.cells #[.slice none 0 0] 35)) w5.heap.size 35 #[.slice none 0 0] := Blk.new _ _ _ _ rfl
  have hz5 := hb5.size
  clear hown HPR
  go_wp2_with (first | ((with_reducible show wpList _ _ _ (⟨_, .store _ _ _, _, _, _, _⟩ :: _) _ _); refine wpList_store_fld (by rfl) _ _ _ (by rfl) _ _ (by rfl) _ (by rfl) _ _ hY0 ?_ ?_ (by rfl) (by rfl) ?_; (next => first | omega | ((try simp) <;> omega)); (next => kernel_rfl); intro w6 hY6 hU6) | fail)
  have hb56 : Below w5.heap.size w5 w6 := below_upd (by (repeat (first | with_reducible exact Below.refl _ _ | (with_reducible assumption) | (with_reducible refine below_alloc ?_ _) | (with_reducible refine below_ext (w1 := ?_) ?_ ?_; rotate_left 2; (with_reducible assumption)) | (with_reducible refine Below.setCell ?_ ?_ _; rotate_left; ((try simp) <;> omega)) | (with_reducible refine Below.drew ?_) | (with_reducible refine below_drewN ?_ _) | fail))) (Nat.le_refl _) hU6
  have hN0 : Blk (w6.alloc (.cells #[.int .i64 0] 3)) w6.heap.size 3 #[.int .i64 0] := Blk.new _ _ _ _ rfl
  have hyl := hY6.lt
  have hz6 := hb56.size
  obtain ⟨xw, hxw⟩ : ∃ b, b = w5.heap.size := ⟨_, rfl⟩
  rw [← hxw] at hY6 hyl hz5 hz6 ⊢
  have HXW := Lib.hid hxw
  clear hU6 hY0 hxw
  have hb67' : Below w6.heap.size w6 (w6.alloc (.cells #[.int .i64 0] 3)) := by (repeat (first | with_reducible exact Below.refl _ _ | (with_reducible assumption) | (with_reducible refine below_alloc ?_ _) | (with_reducible refine below_ext (w1 := ?_) ?_ ?_; rotate_left 2; (with_reducible assumption)) | (with_reducible refine Below.setCell ?_ ?_ _; rotate_left; ((try simp) <;> omega)) | (with_reducible refine Below.drew ?_) | (with_reducible refine below_drewN ?_ _) | fail))
  generalize hw7 : w6.alloc (.cells #[.int .i64 0] 3) = w7 at hN0 hb67'
  have HW7 := Lib.hid hw7
  have hN7 := hN0
  have hb67 := hb67'
  clear hw7
  have hz7 := hb67.size
  have hzl := hN7.lt
  obtain ⟨zb, hzb⟩ : ∃ b, b = w6.heap.size := ⟨_, rfl⟩
  rw [← hzb] at hN7 hzl hz7 hyl hz6 ⊢
  clear hb67' HW7
  have HZB := Lib.hid hzb
  have hb37 := below_ext hb34 (below_ext hb5 (below_ext hb56 hb67))
  have HOF := Lib.hid (of_any (HW3.out.two.bs.ext hb37))
  clear hN0 hzb
  refine HOF.out.mono ?_
  rintro e w8 ⟨cb, lp, A8, cap8, rfl, C8, AL8, hcb, hb8⟩
  have HPT := Lib.hid (points_any C8)
  clear HOF
  go_wp2_with fail
  refine HPT.out.mono ?_
  rintro e w9 ⟨rfl, hQ9, hb9⟩
  go_wp2_with fail
  have hz8 := hb8.size
  have hz9 := hb9.size
  have hql := hQ9.lt
  have hb79 := below_ext hb8 hb9
  have hb39 := below_ext hb37 hb79
  -- the document's prices are the curve's
  have hosb := Sw.Bs.okk HW3.out.two.bs
  have hmp : m = lp := (In.all hin hosb).uniq AL8
  subst hmp
  have hpl : (pts (osOf ss) m).length = m.length := List.length_map _
  have hN8 : Blk w8 zb 3 #[.int .i64 0] := hN7.ext hb8
  have hseq := Lib.hid (vals_stops w8.heap.size hQ9 (C8.ext hb9).rd C8.len [zb] ⟨by simp; omega, fun h0 => rd_far C8.rd hN8 h0⟩)
  have hN9 : Blk w9 zb 3 #[.int .i64 0] := hN8.ext hb9
  have hY9 : Blk w9 xw 35 #[.slice A5 m.length cap5] := (hY6.ext hb67).ext hb79
  have hX9 : Blk w9 xr 32 #[.pointer (some ⟨rb, 0, none⟩)] := (((hX4.ext hb5).ext hb56).ext hb67).ext hb79
  have hT9 := hT3.ext hb39
  have hS9 := hS3.ext hb39
  have hrd9 : Rd w9 1 A5 (m.map ic) := ((hrd5.below hb56).below hb67).below hb79
  have HRF := Lib.hid (HW3.out.two.rf.ext hb39)
  have HRF3 := Lib.hid HW3.out.two.rf
  have hB9 := below_ext hB3 hb39
  have hfar : w.heap.size + 2 ≤ xr ∧ xr < xw ∧ xw < zb ∧ zb < w9.heap.size := by omega
  have hw3x : w3.heap.size ≤ zb := by have := HXR.out; omega
  have hfA : ∀ a, A5 = some a → a.block < xw := fun a e => by have h1 := (hfar5 a e).2; have h2 := HXW.out; omega
  have HMP : Hid (∀ i (h : i < m.length), (pts (osOf ss) m)[i]'(by omega) = ⟨m[i], dem (osOf ss) m[i], sup (osOf ss) m[i]⟩) := Lib.hid (fun i h => pts_at (by omega) h)
  have hm1000 : m.length ≤ 1000 := by have := C8.len; omega
  have HOK : Hid (∀ o ∈ osOf ss, 0 ≤ o.qty ∧ o.qty ≤ 4294967296) := Lib.hid (fun o ho => by have := (hosb o ho).2.2.1; omega)
  have HB39 := Lib.hid hb39
  clear hQ9 C8 AL8 HPT hb8 hb9 hcb hin hN8 hN7 hY6 hX4 hT3 hS3 hrd5 hb5 hb56 hb67 hb37 hb79 hb34 hb39 hB3 hfar5 HXR HXW HZB HW3 hml5 hosb hz3 hz4 hz5 hz6 hz7 hz8 hz9 hxl hyl hzl hql
  refine' wp_rangeFuncHF (α := Pt) [zb] (gf := 53) (by rfl) (enters_of Try.func53 (by kernel_rfl) rfl) hseq.out (fun _ => rfl)
    (fun pre W => Below zb w9 W ∧ Blk W zb 3 #[.int .i64 pre.length] ∧ ∀ k : Nat, 1 ≤ k → k ≤ pre.length → (k : Int) ≠ stop)
    (fun cd pre W => (cd = .ret ∧ ¬ pre <+: pts (osOf ss) m) ∨ (cd = .exit 0 ∧ Below zb w9 W ∧ Blk W zb 3 #[.int .i64 pre.length] ∧ (pre.length : Int) = stop ∧ 1 ≤ pre.length))
    ?I ?Ix ?h0 _ (fun x bx W => zb + 1 ≤ bx ∧ Blk W bx 26 x.arr) ?hBx ?assign ?body ?done ?stop
  case I =>
    rintro pre W W' row ⟨h1, h2, h4⟩ hg hr
    have hbl : Below w9.heap.size W W' := grown_below hg h1.size (fun g e => (hr g e).1)
    exact ⟨h1.trans (hbl.mono (by omega)), h2.own hg hr, h4⟩
  case Ix =>
    rintro cd pre W W' row h2 hg hr
    rcases h2 with h2 | ⟨h2, h1, h3, h5⟩
    · exact .inl h2
    · have hbl : Below w9.heap.size W W' := grown_below hg h1.size (fun g e => (hr g e).1)
      exact .inr ⟨h2, h1.trans (hbl.mono (by omega)), h3.own hg hr, h5⟩
  case h0 => exact ⟨Below.refl _ _, hN9, fun k h1 h2 => by simp at h2; omega⟩
  case hBx =>
    rintro x bx _ W W' row ⟨h2, h3⟩ hg hr
    exact ⟨h2, h3.own hg hr⟩
  case assign =>
    intro l pre x W K hI hK
    obtain ⟨h1, h2, h4⟩ := hI
    have hsz := h1.size
    have hX0 : Blk (W.alloc (.cells #[.int .i64 0, .int .i64 0, .int .i64 0] 26)) W.heap.size 26 #[.int .i64 0, .int .i64 0, .int .i64 0] := Blk.new _ _ _ _ rfl
    unfold encP
    refine round_region_lit (by kernel_rfl) (fun ⟨_, _, h⟩ => h) ?_
    go_wp2_with (first | ((with_reducible show wpList _ _ _ (⟨_, .store 26 _ _, _, _, _, _⟩ :: _) _ _); refine wpList_store_blk (by rfl) 26 _ _ (by rfl) _ _ (by rfl) (by rfl) _ _ hX0 (by kernel_rfl) (by rfl) ?_ ?_; (next => exact pt_one ..); intro W5 hX5 hU5) | fail)
    have hW5 : Below W.heap.size W W5 := below_upd (by (repeat (first | with_reducible exact Below.refl _ _ | (with_reducible assumption) | (with_reducible refine below_alloc ?_ _) | (with_reducible refine below_ext (w1 := ?_) ?_ ?_; rotate_left 2; (with_reducible assumption)) | (with_reducible refine Below.setCell ?_ ?_ _; rotate_left; ((try simp) <;> omega)) | (with_reducible refine Below.drew ?_) | (with_reducible refine below_drewN ?_ _) | fail))) (Nat.le_refl _) hU5
    try simp only [Act.put]
    obtain ⟨bx, hbe⟩ : ∃ b, b = W.heap.size := ⟨_, rfl⟩
    rw [← hbe] at hX5 ⊢
    exact hK bx W5 (keepsFrom_below hW5) (ButL.of_below (hW5.mono hsz)) ⟨h1.trans (hW5.mono (by omega)), h2.ext hW5, h4⟩ ⟨by omega, hX5⟩
  case body =>
    rintro l pre x bx W ⟨h1, h2, h4⟩ ⟨hbx, hX⟩ hlt2
    have hlt3 : pre.length < m.length := by omega
    have hw39 : Below w3.heap.size w3 W := HB39.out.trans (h1.mono hw3x)
    obtain ⟨p, hp⟩ : ∃ p, p = m[pre.length]'hlt3 := ⟨_, rfl⟩
    obtain ⟨y, hy⟩ : ∃ y, y = (pts (osOf ss) m)[pre.length]'(by omega) := ⟨_, rfl⟩
    have hye : y = ⟨p, dem (osOf ss) p, sup (osOf ss) p⟩ := by rw [hy, HMP.out pre.length hlt3, ← hp]
    have HRAT : Hid (∀ W', Below W.heap.size W W' → Calls Try.prog 16 #[.pointer (some ⟨rb, 0, none⟩), .int .i64 p] W' fun e w' => e = .returned (.agg y.arr) ∧ Below W'.heap.size W' w') := Lib.hid (fun W' hW' => by rw [hye]; exact rat_any ((HRF3.out.ext hw39).ext hW') HOK.out p)
    have HOWN := Lib.hid (fun W => own_any y W)
    have HP : Hid ((pre ++ [x]) <+: pts (osOf ss) m → y = x) := Lib.hid (fun h => by
      have h5 := h.getElem (i := pre.length) (by simp)
      rw [hy]
      simpa using h5.symm)
    obtain ⟨ab, ao, rfl, hc⟩ := hrd9.at hlt3
    have lA : ab < zb := by have := hfA _ rfl; simp at this; omega
    have hc9 : w9.cell? ⟨ab, ao + pre.length * 1, none⟩ = some (.int .i64 p) := by rw [hp]; exact hc 0 _ rfl
    rw [Nat.mul_one] at hc9
    have cW : W.cell? ⟨ab, ao + pre.length, none⟩ = some (.int .i64 p) := (h1.cell (p := ⟨ab, ao + pre.length, none⟩) lA).trans hc9
    have cR : W.cell? ⟨xr, 0, none⟩ = some (.pointer (some ⟨rb, 0, none⟩)) := (h1.cell (p := ⟨xr, 0, none⟩) (show xr < zb by omega)).trans (hX9.cell 0)
    have cY : W.cell? ⟨xw, 0, none⟩ = some (.slice (some ⟨ab, ao, none⟩) m.length cap5) := (h1.cell (p := ⟨xw, 0, none⟩) (show xw < zb by omega)).trans (hY9.cell 0)
    have cN : W.cell? ⟨zb, 0, none⟩ = some (.int .i64 pre.length) := h2.cell 0
    have cS : W.cell? ⟨w.heap.size, 0, none⟩ = some (.int .i64 stop) := (h1.cell (p := ⟨w.heap.size, 0, none⟩) (show w.heap.size < zb by omega)).trans (hS9.cell 0)
    have hTW : Blk W (w.heap.size + 1) 4 #[.bool false] := (h1.block (w.heap.size + 1) (by omega)).trans hT9
    have lN := h2.lt
    have lX := hX.lt
    have lR : xr < W.heap.size := by omega
    have lY : xw < W.heap.size := by omega
    have lAb : ab < W.heap.size := by omega
    have lSb : w.heap.size < W.heap.size := by omega
    have hge4 : decide ((m.length : Int) ≤ (pre.length : Int)) = false := decide_eq_false (by omega)
    have hlt4 : (pre.length : Int) < (m.length : Int) := by omega
    have hge2 : ¬ m.length ≤ pre.length := by omega
    have hge5 : decide (m.length ≤ pre.length) = false := decide_eq_false hge2
    have hpl0 : (0 : Int) ≤ (pre.length : Int) := by omega
    have hp5 : (pre.length : Int) < 1000 := by omega
    have hW9 := h1.size
    clear hseq HRF HRF3 HMP HOK HB39 hw39 hye hy hp hc hc9 hrd9 hlt3
    by_cases hoe : y = x
    · subst hoe
      have hpe : (!ptEq y y) = false := by rw [ptEq_refl]; rfl
      gi_wp2_with fail
      refine round_region_below_lit (by kernel_rfl) (by kernel_rfl) (fun ⟨_, _, h⟩ => h) (by kernel_rfl) ?_
      repeat (first | go_big_quiet_skip | (go_big_quiet_want; go_big_quiet_op; go_big_quiet_on) | (refine q_load_blk (by rfl) 26 _ (by rfl) ?_ (.pointer (some ⟨_, 0, none⟩)) (by rfl) ?_ _ (fun _ h => h) Try.underlying26 rfl ?_ ?_; rotate_left; (next => (repeat (first | (with_reducible refine BlkAt.new _ _ _ _ ?_; ((try simp) <;> omega)) | (with_reducible assumption) | (with_reducible refine Blk.at (t := ?_) ?_; rotate_left; with_reducible assumption) | with_reducible refine BlkAt.alloc ?_ _ | with_reducible refine BlkAt.drew ?_ | (with_reducible refine BlkAt.setSame ?_ _ _) | (with_reducible refine BlkAt.setCell ?_ ?_ _; rotate_left; ((try simp) <;> omega)) | (with_reducible refine BlkAt.ext (w := ?_) ?_ ?_; rotate_left 2; (with_reducible assumption)) | fail))); (next => kernel_rfl); (try simp only [Act.put, List.setIfInBounds_toArray, List.set_cons_zero, List.set_cons_succ])) | ((with_reducible show wpQuiet _ _ _ _ (⟨_, .binOp .neq 26 _ _ _, _, _, _, _⟩ :: _) _); refine Cu.q_ne_pt (by rfl) _ _ _ (by rfl) _ _ (by rfl) (by rfl) _ hpe ?_; (try simp only [Act.put, List.setIfInBounds_toArray, List.set_cons_zero, List.set_cons_succ])) | (refine q_load_fld (by rfl) _ _ (by rfl) (fun _ h => h) _ _ (by rfl) ?_ ?_ ?_ ?_ ?_ ?_; rotate_left; (next => (repeat (first | (with_reducible refine BlkAt.new _ _ _ _ ?_; ((try simp) <;> omega)) | (with_reducible assumption) | (with_reducible refine Blk.at (t := ?_) ?_; rotate_left; with_reducible assumption) | with_reducible refine BlkAt.alloc ?_ _ | with_reducible refine BlkAt.drew ?_ | (with_reducible refine BlkAt.setSame ?_ _ _) | (with_reducible refine BlkAt.setCell ?_ ?_ _; rotate_left; ((try simp) <;> omega)) | (with_reducible refine BlkAt.ext (w := ?_) ?_ ?_; rotate_left 2; (with_reducible assumption)) | fail))); rotate_left; (next => first | (simp only [go_sem]; rfl) | rfl); (next => kernel_rfl); (try simp only [Act.put, List.setIfInBounds_toArray, List.set_cons_zero, List.set_cons_succ])) | (refine q_rem (by rfl) _ _ _ _ (by rfl) _ _ (by rfl) (by rfl) (by kernel_rfl) (by kernel_rfl) ?_ ?_; (next => omega); (try simp only [Act.put, List.setIfInBounds_toArray, List.set_cons_zero, List.set_cons_succ])) | (refine q_step_ex (by rfl) ?_; apply Exists.intro; refine ⟨fun W hW => ?_, ?_⟩; (next => (have hWc := fun (b o : Nat) (h : b < _) => (Ext.out hW).cell (p := ⟨b, o, none⟩) h); (try have hLK := HLK.out W (Ext.out hW)); go_simp; first | rfl | (go_at_call 16; refine (HRAT.out _ hW.out).mono ?_; rintro e w'' ⟨rfl, hb2⟩; exact ⟨rfl, below_ext hW hb2⟩) | (go_at_call 8; refine (HOWN.out _).mono ?_; rintro e w'' ⟨rfl, hb2⟩; exact ⟨rfl, below_ext hW hb2⟩) | fail); (try simp only [Act.put, List.setIfInBounds_toArray, List.set_cons_zero, List.set_cons_succ])) | fail)
      refine wpQuiet_nil ?_
      intro w7 hb7
      have n7 := h2.ext hb7
      have n7c : w7.cell? ⟨zb, 0, none⟩ = some (.int .i64 pre.length) := n7.cell 0
      have n7f : w7.frozen? ⟨zb, 0, none⟩ = false := n7.frozen 0
      have s7c : w7.cell? ⟨w.heap.size, 0, none⟩ = some (.int .i64 stop) := (hb7.cell (p := ⟨w.heap.size, 0, none⟩) lSb).trans cS
      have ne1 : w.heap.size ≠ zb := by omega
      have hle3 : (((pre ++ [y]).length : Nat) : Int) = (pre.length : Int) + 1 := by simp
      have hkf : ∀ u, KeepsFrom w9.heap.size W (w7.setCell ⟨zb, 0, none⟩ u) := fun u => (keepsFrom_below hb7).trans ((KeepsOthers.setCell _ _ _).from _)
      have hbl : ∀ u, Below zb w9 (w7.setCell ⟨zb, 0, none⟩ u) := fun u => below_upd (h1.trans (hb7.mono (by omega))) (Nat.le_refl _) (Upd.setCell w7 ⟨zb, 0, none⟩ u)
      have hks : ∀ u, ButL [zb] w9.heap.size W (w7.setCell ⟨zb, 0, none⟩ u) := fun u => (ButL.of_below (hb7.mono hW9)).upd (by simp) (Upd.setCell w7 ⟨zb, 0, none⟩ u)
      have hnb : ∀ u, Blk (w7.setCell ⟨zb, 0, none⟩ u) zb 3 #[u] := fun u => n7.setCell 0 u
      gi_wp2_with fail
      · rename_i hs
        have hs2 := eq_of_beq hs
        exact ⟨hkf _, .inr ⟨rfl, hbl _, by rw [hle3]; exact hnb _, by rw [hle3]; exact hs2, by simp⟩⟩
      · rename_i hs
        have hs2 : (pre.length : Int) + 1 ≠ stop := by simpa using hs
        refine ⟨hkf _, hks _, hbl _, by rw [hle3]; exact hnb _, ?_⟩
        intro k hm1 hm2
        by_cases hm3 : k ≤ pre.length
        · exact h4 k hm1 hm3
        · simp at hm2
          omega
    · have hpe : (!ptEq x y) = true := by
        cases e : ptEq x y with
        | false => rfl
        | true => exact absurd ((ptEq_iff _ _).1 e).symm hoe
      gi_wp2_with fail
      refine round_region_below_lit (by kernel_rfl) (by kernel_rfl) (fun ⟨_, _, h⟩ => h) (by kernel_rfl) ?_
      repeat (first | go_big_quiet_skip | (go_big_quiet_want; go_big_quiet_op; go_big_quiet_on) | (refine q_load_blk (by rfl) 26 _ (by rfl) ?_ (.pointer (some ⟨_, 0, none⟩)) (by rfl) ?_ _ (fun _ h => h) Try.underlying26 rfl ?_ ?_; rotate_left; (next => (repeat (first | (with_reducible refine BlkAt.new _ _ _ _ ?_; ((try simp) <;> omega)) | (with_reducible assumption) | (with_reducible refine Blk.at (t := ?_) ?_; rotate_left; with_reducible assumption) | with_reducible refine BlkAt.alloc ?_ _ | with_reducible refine BlkAt.drew ?_ | (with_reducible refine BlkAt.setSame ?_ _ _) | (with_reducible refine BlkAt.setCell ?_ ?_ _; rotate_left; ((try simp) <;> omega)) | (with_reducible refine BlkAt.ext (w := ?_) ?_ ?_; rotate_left 2; (with_reducible assumption)) | fail))); (next => kernel_rfl); (try simp only [Act.put, List.setIfInBounds_toArray, List.set_cons_zero, List.set_cons_succ])) | ((with_reducible show wpQuiet _ _ _ _ (⟨_, .binOp .neq 26 _ _ _, _, _, _, _⟩ :: _) _); refine Cu.q_ne_pt (by rfl) _ _ _ (by rfl) _ _ (by rfl) (by rfl) _ hpe ?_; (try simp only [Act.put, List.setIfInBounds_toArray, List.set_cons_zero, List.set_cons_succ])) | (refine q_load_fld (by rfl) _ _ (by rfl) (fun _ h => h) _ _ (by rfl) ?_ ?_ ?_ ?_ ?_ ?_; rotate_left; (next => (repeat (first | (with_reducible refine BlkAt.new _ _ _ _ ?_; ((try simp) <;> omega)) | (with_reducible assumption) | (with_reducible refine Blk.at (t := ?_) ?_; rotate_left; with_reducible assumption) | with_reducible refine BlkAt.alloc ?_ _ | with_reducible refine BlkAt.drew ?_ | (with_reducible refine BlkAt.setSame ?_ _ _) | (with_reducible refine BlkAt.setCell ?_ ?_ _; rotate_left; ((try simp) <;> omega)) | (with_reducible refine BlkAt.ext (w := ?_) ?_ ?_; rotate_left 2; (with_reducible assumption)) | fail))); rotate_left; (next => first | (simp only [go_sem]; rfl) | rfl); (next => kernel_rfl); (try simp only [Act.put, List.setIfInBounds_toArray, List.set_cons_zero, List.set_cons_succ])) | (refine q_rem (by rfl) _ _ _ _ (by rfl) _ _ (by rfl) (by rfl) (by kernel_rfl) (by kernel_rfl) ?_ ?_; (next => omega); (try simp only [Act.put, List.setIfInBounds_toArray, List.set_cons_zero, List.set_cons_succ])) | (refine q_step_ex (by rfl) ?_; apply Exists.intro; refine ⟨fun W hW => ?_, ?_⟩; (next => (have hWc := fun (b o : Nat) (h : b < _) => (Ext.out hW).cell (p := ⟨b, o, none⟩) h); (try have hLK := HLK.out W (Ext.out hW)); go_simp; first | rfl | (go_at_call 16; refine (HRAT.out _ hW.out).mono ?_; rintro e w'' ⟨rfl, hb2⟩; exact ⟨rfl, below_ext hW hb2⟩) | (go_at_call 8; refine (HOWN.out _).mono ?_; rintro e w'' ⟨rfl, hb2⟩; exact ⟨rfl, below_ext hW hb2⟩) | fail); (try simp only [Act.put, List.setIfInBounds_toArray, List.set_cons_zero, List.set_cons_succ])) | fail)
      refine wpQuiet_nil ?_
      intro w7 hb7
      have rT : w7.cell? ⟨w.heap.size + 1, 0, none⟩ = some (.bool false) := (hTW.ext hb7).cell 0
      have rF : w7.frozen? ⟨w.heap.size + 1, 0, none⟩ = false := (hTW.ext hb7).frozen 0
      gi_wp2_with fail
      exact ⟨(keepsFrom_below hb7).trans ((KeepsOthers.setCell _ _ _).from _), .inl ⟨rfl, fun h => hoe (HP.out h)⟩⟩
  case done =>
    rintro D ys W hD rfl ⟨h1, h2, h4⟩ hK
    rw [hpl] at h2 h4
    have cN : W.cell? ⟨zb, 0, none⟩ = some (.int .i64 m.length) := h2.cell 0
    have cY : W.cell? ⟨xw, 0, none⟩ = some (.slice A5 m.length cap5) := (h1.cell (p := ⟨xw, 0, none⟩) (show xw < zb by omega)).trans (hY9.cell 0)
    have cS : W.cell? ⟨w.heap.size, 0, none⟩ = some (.int .i64 stop) := (h1.cell (p := ⟨w.heap.size, 0, none⟩) (show w.heap.size < zb by omega)).trans (hS9.cell 0)
    have hTW : Blk W (w.heap.size + 1) 4 #[.bool false] := (h1.block (w.heap.size + 1) (by omega)).trans hT9
    have hbW : Below w.heap.size w W := hB9.trans (h1.mono (by omega))
    have hKl : D < W.heap.size := (Array.getElem?_eq_some_iff.1 hK).1
    clear hseq HRF HRF3 HMP HOK HB39 hrd9 hfA hY9 hN9 hX9 hpl
    generalize m.length = n at *
    by_cases hs : 0 < stop ∧ stop < n
    · exact absurd (show ((stop.toNat : Nat) : Int) = stop by omega) (h4 stop.toNat (by omega) (by omega))
    · go_wp2_with (first | ((with_reducible show wpList _ _ _ (⟨_, .store _ _ _, _, _, _, _⟩ :: _) _ _); refine wpList_store_fld (by rfl) _ _ _ (by rfl) _ _ (by rfl) _ (by rfl) _ _ hTW ?_ ?_ (by rfl) (by rfl) ?_; (next => first | omega | ((try simp) <;> omega)); (next => kernel_rfl); intro w9x hT9x hU9) | fail)
      all_goals (
        have hT10 : Blk w9x (w.heap.size + 1) 4 #[.bool true] := by
          simpa [go_sem] using hT9x
        have hK9 : w9x.heap[D]? = some (.deferred (some [])) := (hU9.block D (by omega)).trans hK
        have hb9 : Below w.heap.size w w9x := below_upd hbW (by omega) hU9
        have hcc : (w9x.putObj D (.deferred none)).cell? ⟨w.heap.size + 1, 0, none⟩ = some (.bool true) := (cell_mark (by omega)).trans (hT10.cell 0)
        exact bodyPostM_ret (v := .bool true) rfl hK9 (by simp [results, Try.results4, go_sem, hcc]) ⟨rfl, below_mark hb9 (by omega) hK9⟩)
  case stop =>
    rintro D cd pre W hD hp h2 hK
    rcases h2 with ⟨_, h2⟩ | ⟨rfl, h1, h2, h4, h5⟩
    · exact absurd hp h2
    have hpm := hp.length_le
    rw [hpl] at hpm
    have cN : W.cell? ⟨zb, 0, none⟩ = some (.int .i64 pre.length) := h2.cell 0
    have cY : W.cell? ⟨xw, 0, none⟩ = some (.slice A5 m.length cap5) := (h1.cell (p := ⟨xw, 0, none⟩) (show xw < zb by omega)).trans (hY9.cell 0)
    have cS : W.cell? ⟨w.heap.size, 0, none⟩ = some (.int .i64 stop) := (h1.cell (p := ⟨w.heap.size, 0, none⟩) (show w.heap.size < zb by omega)).trans (hS9.cell 0)
    have hTW : Blk W (w.heap.size + 1) 4 #[.bool false] := (h1.block (w.heap.size + 1) (by omega)).trans hT9
    have hbW : Below w.heap.size w W := hB9.trans (h1.mono (by omega))
    have hKl : D < W.heap.size := (Array.getElem?_eq_some_iff.1 hK).1
    subst h4
    clear hseq HRF HRF3 HMP HOK HB39 hrd9 hfA hY9 hN9 hX9 hpl
    obtain ⟨n, hm1, hm2⟩ : ∃ n : Nat, m.length = n ∧ (n = pre.length ∨ (pre.length : Int) < (n : Int)) := ⟨_, rfl, by omega⟩
    rw [hm1] at cY
    clear hm1
    rcases hm2 with rfl | hlt4
    all_goals (
      go_wp2_with (first | ((with_reducible show wpList _ _ _ (⟨_, .store _ _ _, _, _, _, _⟩ :: _) _ _); refine wpList_store_fld (by rfl) _ _ _ (by rfl) _ _ (by rfl) _ (by rfl) _ _ hTW ?_ ?_ (by rfl) (by rfl) ?_; (next => first | omega | ((try simp) <;> omega)); (next => kernel_rfl); intro w9x hT9x hU9) | fail)
      all_goals (
        have hT10 : Blk w9x (w.heap.size + 1) 4 #[.bool true] := by
          simpa [go_sem] using hT9x
        have hK9 : w9x.heap[D]? = some (.deferred (some [])) := (hU9.block D (by omega)).trans hK
        have hb9 : Below w.heap.size w w9x := below_upd hbW (by omega) hU9
        have hcc : (w9x.putObj D (.deferred none)).cell? ⟨w.heap.size + 1, 0, none⟩ = some (.bool true) := (cell_mark (by omega)).trans (hT10.cell 0)
        exact bodyPostM_ret (v := .bool true) rfl hK9 (by simp [results, Try.results4, go_sem, hcc]) ⟨rfl, below_mark hb9 (by omega) hK9⟩))
theorem fitOrdW {vs : List Value} (h : fits (List.replicate 7 K) vs) : ∃ s : Ord, vs = s.cells ∧ Idx.Wf s.id := by
  obtain ⟨a0, _, rfl, b0, h⟩ := fitInt h
  obtain ⟨a1, _, rfl, b1, h⟩ := fitInt h
  obtain ⟨a2, _, rfl, b2, h⟩ := fitInt h
  obtain ⟨a3, _, rfl, b3, h⟩ := fitInt h
  obtain ⟨a4, _, rfl, b4, h⟩ := fitInt h
  obtain ⟨a5, _, rfl, b5, h⟩ := fitInt h
  obtain ⟨a6, _, rfl, b6, h⟩ := fitInt h
  obtain rfl := fitNil h
  exact ⟨⟨a0, a1, a2, a3, a4, a5, a6⟩, rfl, WalkArith.wf_i64 b0⟩
open Go.ChangeShapes Go.WideShapes Go.ChangeAt Go.Deep
set_option maxRecDepth 100000 in
theorem argsCurvePoints (H : Type) (enc : TypeId × Value → H) (W : World) (args : Array Value) (hargs : Args Try.checked H enc [30, 3] W args) :
    Calls Try.prog 4 args W fun e W' => e = .returned (.bool true) ∧ Below W.heap.size W W' := by
  obtain ⟨base, ds, p, hval, hA⟩ := hargs
  obtain ⟨v0, vs0, d0, ds0, p0, q0, hargs, rfl, rfl, h0, r0⟩ := trodAll_cons hA
  obtain ⟨v1, vs1, d1, ds1, p1, q1, rfl, rfl, rfl, h1, r1⟩ := trodAll_cons r0
  obtain ⟨rfl, rfl, rfl⟩ := trodAll_nil r1
  obtain rfl : args = #[v0, v1] := by cases args; simp_all
  obtain ⟨A, la, ca, rows, rfl, hla, hlc, hca, hfa, ha⟩ := open_rows (ks := List.replicate 7 K) 5 Try.underlying30 (by kernel_rfl) (by kernel_rfl) (by decide) (hval 0 _ v0 rfl rfl) h0
  obtain ⟨xs, rfl, hwf⟩ := rowsOf (fun vs h => fitOrdW h) rows hfa
  obtain ⟨s, rfl, _⟩ := open_int Try.underlying3 (hval 1 _ v1 rfl rfl) h1
  rw [List.length_map] at hla
  subst hla
  exact points_law xs s hwf A ca W ha (by omega)
theorem ownCurvePoints : ownKnob Try.prog.godebug = none := by kernel_rfl
theorem laidCurvePoints : laidOutB Try.prog = true := by kernel_rfl
set_option maxRecDepth 100000 in
theorem liftedCurvePoints (os : Os) (started : os.Started) (H : Type) (enc : TypeId × Value → H) :
    ReturnsInHanded {} Try.checked os 4 .any (Rows.curvePointsSpec.pre6 enc Try.prog Try.f4 Rows.curvePointsRow.domain false) (Rows.curvePointsSpec.post enc Try.prog Try.f4 false true false false) :=
  law_lifted (C := Try.checked) (ts := [30, 3]) (tb := 4) ownCurvePoints laidCurvePoints started (by kernel_rfl) Try.func4 (by kernel_rfl)
    (ChangeSpec.witness6 (enc := enc) (C := Try.checked) false ⟨#[], #[.slice none 0 0, .int .i64 0], []⟩ 8 (by kernel_rfl) (by kernel_rfl) (by kernel_rfl) (by kernel_rfl))
    rfl (by kernel_rfl) Try.underlying4 (by kernel_rfl)
    (fun ds h => by
      match ds, h with
      | [d0, d1], _ => rfl)
    (fun W args h => argsCurvePoints H enc W args h)
theorem provedCurvePoints : Rows.CurvePointsSaid :=
  OpenClaim.holds_of_wide 4 Try.f4 rfl rfl rfl rfl rfl rfl rfl ⟨rfl, rfl, rfl, rfl, rfl⟩ rfl rfl rfl rfl rfl (by kernel_rfl) Try.func4 (by kernel_rfl)
    (of_decide_eq_true (by kernel_rfl)) (by unfold Func.isWrapper; first | (rw [if_pos (by decide +kernel)]; kernel_rfl) | (rw [if_neg (by decide +kernel)]; exact ⟨rfl, rfl⟩))
    (fun os started H enc _ => liftedCurvePoints os started H enc)
#print axioms provedCurvePoints
end Cu
end Go.Proofs.Ytacpjpkhmdcagaa
