/- This text proves SweepKeeps: whatever the input, the law returns true. It has no conditions. -/
import Derived.Test.YtgaialcbpglhaaaSwP
import Derived.Test.YtgaialcbpglhaaaSwV
import Derived.Deep.DeepCutAuto
namespace Go.Proofs.Ytgaialcbpglhaaa
set_option linter.unusedVariables false
open Go.RowKit
namespace Sw
set_option maxHeartbeats 100000000
set_option maxRecDepth 10000
open Bk (bet Bs osOf srt Sl bkO fndI)
theorem results_tk {fn : Func} {p : Tmp} (h : fn.results = #[.cell p 67]) (tmps : Array Value) (w : World) (g : Nat) (cs : Array Value) (hp : tmps.getD p undef = .pointer (some ⟨g, 0, none⟩)) (hb : Blk w g 67 cs) (h3 : cs.size = 7) :
    (results fn tmps).run Try.prog w = .ok (.agg cs) w :=
  results_cell_row h _ _ _ _ _ _ _ hp hb Try.underlying67 rfl (by rw [h3]; kernel_rfl)
theorem own_any (t : Tk) (w : World) : Calls Try.prog 26 #[.agg t.arr] w fun e w' => e = .returned (.agg t.arr) ∧ Below w.heap.size w w' := by
  have hT0 : Blk ((w.alloc (.cells t.arr 62)).alloc (.cells #[.int .i64 0, .int .i64 0, .int .i64 0, .int .i64 0, .int .i64 0, .int .i64 0, .int .i64 0] 67)) w.heap.size 62 t.arr := (Blk.new w _ _ _ rfl).alloc _
  have hR0 : Blk ((w.alloc (.cells t.arr 62)).alloc (.cells #[.int .i64 0, .int .i64 0, .int .i64 0, .int .i64 0, .int .i64 0, .int .i64 0, .int .i64 0] 67)) (w.heap.size + 1) 67 #[.int .i64 0, .int .i64 0, .int .i64 0, .int .i64 0, .int .i64 0, .int .i64 0, .int .i64 0] := Blk.new _ _ _ _ (sz_alloc _ _)
  have hb0 : Below w.heap.size w ((w.alloc (.cells t.arr 62)).alloc (.cells #[.int .i64 0, .int .i64 0, .int .i64 0, .int .i64 0, .int .i64 0, .int .i64 0, .int .i64 0] 67)) := by (repeat (first | with_reducible exact Below.refl _ _ | (with_reducible assumption) | (with_reducible refine below_alloc ?_ _) | (with_reducible refine below_ext (w1 := ?_) ?_ ?_; rotate_left 2; (with_reducible assumption)) | (with_reducible refine Below.setCell ?_ ?_ _; rotate_left; ((try simp) <;> omega)) | (with_reducible refine Below.drew ?_) | (with_reducible refine below_drewN ?_ _) | fail))
  have c0 := hT0.cell 0
  have c1 := hT0.cell 1
  have c2 := hT0.cell 2
  have c3 := hT0.cell 3
  have c4 := hT0.cell 4
  have c5 := hT0.cell 5
  have c6 := hT0.cell 6
  simp only [Tk.arr_0, Tk.arr_1, Tk.arr_2, Tk.arr_3, Tk.arr_4, Tk.arr_5, Tk.arr_6] at c0 c1 c2 c3 c4 c5 c6
  go_enter Try.func26, Try.ntmps26
  go_wp2_with (first | ((with_reducible show wpList _ _ _ (⟨_, .store 67 _ _, _, _, _, _⟩ :: _) _ _); refine wpList_store_blk (by rfl) 67 _ _ (by rfl) _ _ (by rfl) (by rfl) _ _ hR0 (by kernel_rfl) (by rfl) ?_ ?_; (next => first | (simp [Value.oneCell']; done) | (simp [Value.oneCell']; done) | exact Are.ordArr_one _); intro w3 hR3 hU3) | fail)
  exact bodyPost_ret (results_tk rfl _ _ _ _ (by rfl) hR3 rfl) rfl ⟨rfl, below_upd hb0 (by show w.heap.size ≤ w.heap.size + 1; omega) hU3⟩
/-- What is known of a fill and its order. -/
structure Kat (t : Tk) (os : List Ord) (fs : List Fl) (i : Nat) (o : Ord) (q : Int) (g : Bool) : Prop where
  at_ : fs[i]? = some ⟨o.id, o.price, q, g⟩
  fnd : fndI o.id os = some o
  wf : Idx.Wf o.id
  side : o.side = 1 - t.side
  pos : 1 ≤ q
  le : q ≤ o.qty
  whole : g = true → q = o.qty
  band : t.lo ≤ o.price ∧ o.price ≤ t.hi
  lim : wrs t.side o.price t.limit = false
  gone : g = decide (t.self ≠ 0 ∧ o.owner = t.owner)
  last : i + 1 < fs.length → q = o.qty
  prev : ∀ f, 0 < i → fs[i - 1]? = some f → bet (1 - t.side) o.price f.price = false
theorem kat {t : Tk} {os : List Ord} (hn : (os.map (·.id)).Nodup) (hok : ∀ o ∈ os, Bk.okO o) (hq : 1 ≤ t.qty) (P : Pok t (srt (1 - t.side) os) t.qty (mk t (srt (1 - t.side) os) t.qty)) {i : Nat} (hi : i < (mk t (srt (1 - t.side) os) t.qty).1.length) :
    ∃ o q g, Kat t os (mk t (srt (1 - t.side) os) t.qty).1 i o q g := by
  obtain ⟨fs, hfs⟩ : ∃ fs, fs = (mk t (srt (1 - t.side) os) t.qty).1 := ⟨_, rfl⟩
  have hlen := P.len
  rw [← hfs] at hi hlen ⊢
  have hiL : i < (srt (1 - t.side) os).length := by omega
  have F := P.fill i (by rw [← hfs]; exact hi) hiL
  have hfull := P.full i
  have hfill := P.fill
  simp only [← hfs] at F hfull hfill
  have hmem := (srt (1 - t.side) os).getElem_mem hiL
  have hmo := (List.mem_filter.1 ((Bk.srt_perm (1 - t.side) os).mem_iff.1 hmem))
  have hfair : (srt (1 - t.side) os).Pairwise (Bk.Fair (1 - t.side) (fun _ _ => True)) := Bk.srt_fair (List.pairwise_of_forall (fun _ _ => trivial))
  refine ⟨(srt (1 - t.side) os)[i], fs[i].qty, fs[i].gone, ?_, Bk.fnd_mem hn hmo.1, (hok _ hmo.1).2.2.2, by simpa using hmo.2, F.pos, F.le, F.whole, by rw [← F.price]; exact F.band, by rw [← F.price]; exact F.lim, F.gone, fun h => hfull h hiL, fun f h0 hf => ?_⟩
  · rw [List.getElem?_eq_getElem hi, ← F.id, ← F.price]
  · have hi1 : i - 1 < fs.length := by omega
    rw [List.getElem?_eq_getElem hi1] at hf
    have F1 := hfill (i - 1) hi1 (by omega)
    injection hf with hf
    rw [← hf, F1.price]
    have h2 := List.pairwise_iff_getElem.1 hfair (i - 1) i (by omega) hiL (by omega)
    exact h2.1
theorem kfacts {t : Tk} {os : List Ord} {fs : List Fl} {i : Nat} {o : Ord} {q : Int} {g : Bool} {W : World} {fb ob tb pb : Nat} {v : Value} {left stop : Int} (K : Kat t os fs i o q g) (hX : Blk W fb 71 (Fl.mk o.id o.price q g).arr) (hY : Blk W ob 43 o.arr) (hT : Blk W tb 62 t.arr) (hP : Blk W pb 65 #[v, .int .i64 left, .int .i64 stop]) :
    W.cell? ⟨fb, 1, none⟩ = some (.int .i64 o.price) ∧ W.cell? ⟨fb, 2, none⟩ = some (.int .i64 q) ∧ W.cell? ⟨fb, 3, none⟩ = some (.bool g) ∧ W.cell? ⟨ob, 1, none⟩ = some (.int .i64 o.owner) ∧ W.cell? ⟨ob, 2, none⟩ = some (.int .i64 o.side) ∧ W.cell? ⟨ob, 3, none⟩ = some (.int .i64 o.price) ∧ W.cell? ⟨ob, 4, none⟩ = some (.int .i64 o.qty) ∧
      W.cell? ⟨tb, 0, none⟩ = some (.int .i64 t.side) ∧ W.cell? ⟨tb, 1, none⟩ = some (.int .i64 t.owner) ∧ W.cell? ⟨tb, 2, none⟩ = some (.int .i64 t.limit) ∧ W.cell? ⟨tb, 4, none⟩ = some (.int .i64 t.lo) ∧ W.cell? ⟨tb, 5, none⟩ = some (.int .i64 t.hi) ∧ W.cell? ⟨tb, 6, none⟩ = some (.int .i64 t.self) ∧ W.cell? ⟨pb, 0, none⟩ = some v :=
  ⟨hX.cell 1, hX.cell 2, hX.cell 3, hY.cell 1, hY.cell 2, hY.cell 3, hY.cell 4, hT.cell 0, hT.cell 1, hT.cell 2, hT.cell 4, hT.cell 5, hT.cell 6, hP.cell 0⟩
theorem knos {t : Tk} {os : List Ord} {fs : List Fl} {i : Nat} {o : Ord} {q : Int} {g : Bool} (K : Kat t os fs i o q g) : (o.side == t.side) = false ∧ decide (q < 1) = false ∧ decide (o.qty < q) = false ∧ (g && (q != o.qty)) = false ∧ decide (o.price < t.lo) = false ∧ decide (t.hi < o.price) = false ∧ (o.price != o.price) = false ∧ (g = true → (q != o.qty) = false) := by
  have h1 := K.side
  have h2 := K.pos
  have h3 := K.le
  have h4 := K.band
  have h5 := K.whole
  refine ⟨by simp; omega, decide_eq_false (by omega), decide_eq_false (by omega), ?_, decide_eq_false (by omega), decide_eq_false (by omega), by simp, fun h => by simp [h5 h]⟩
  cases g with
  | false => rfl
  | true => simp [h5 rfl]
theorem kself {a b s : Int} {G : Bool} (h : G = decide (s ≠ 0 ∧ a = b)) : (s != 0) = false ∧ G = false ∨ (s != 0) = true ∧ (a == b) = G := by
  by_cases h0 : s = 0
  · exact .inl ⟨by simp [h0], by rw [h]; simp [h0]⟩
  · refine .inr ⟨by simp [h0], ?_⟩
    rw [h]
    by_cases h1 : a = b <;> simp [h0, h1]
theorem keeps_main (l : List Ord) (t : Tk) (hs : t.side = 0 ∨ t.side = 1) (hq1 : 1 ≤ t.qty) (hq2 : t.qty ≤ 9223372036854775807) (hwf : ∀ o ∈ l, Idx.Wf o.id) (A : Option Addr) (cap : Nat) (w : World) (hr : Rd w 7 A (l.map Ord.cells)) (hl : l.length ≤ 60) :
    Calls Try.prog 6 #[.slice A l.length cap, .agg t.arr] w fun e w' => e = .returned (.bool true) ∧ Below w.heap.size w w' := by
  have hT0 : Blk (w.alloc (.cells t.arr 62)) w.heap.size 62 t.arr := Blk.new _ _ _ _ rfl
  have hb0 : Below w.heap.size w (w.alloc (.cells t.arr 62)) := by (repeat (first | with_reducible exact Below.refl _ _ | (with_reducible assumption) | (with_reducible refine below_alloc ?_ _) | (with_reducible refine below_ext (w1 := ?_) ?_ ?_; rotate_left 2; (with_reducible assumption)) | (with_reducible refine Below.setCell ?_ ?_ _; rotate_left; ((try simp) <;> omega)) | (with_reducible refine Below.drew ?_) | (with_reducible refine below_drewN ?_ _) | fail))
  have c0 : (w.alloc (.cells t.arr 62)).cell? ⟨w.heap.size, 0, none⟩ = some (.int .i64 t.side) := hT0.cell 0
  have c3 : (w.alloc (.cells t.arr 62)).cell? ⟨w.heap.size, 3, none⟩ = some (.int .i64 t.qty) := hT0.cell 3
  have h61 : ¬ (60 : Int) < l.length := by omega
  have hq3 : ¬ t.qty < 1 := by omega
  have hq4 : decide (t.qty < 1) = false := decide_eq_false hq3
  have HB := Lib.hid (Bk.books_any l hwf A cap _ (hr.below hb0) hl)
  have HO := Lib.hid (fun W => own_any t W)
  have HS := Lib.hid hs
  clear hr hwf hl
  have hs0 : 0 ≤ t.side := by omega
  have hs1 : t.side ≤ 1 := by omega
  clear hs
  go_enter Try.func6, Try.ntmps6
  go_upto_region 1 with fail
  go_cut [29] (fun c wx => c = .bool false ∧ wx = w.alloc (.cells t.arr 62))
  case first =>
    rcases HS.out with hs | hs
    all_goals
      go_wp2_with fail
      go_meet
      exact ⟨rfl, rfl⟩
  case rest =>
    obtain ⟨rfl, rfl⟩ := hcut
    go_wp2_with fail
    refine HB.out.mono ?_
    rintro e w1 ⟨b, rb, c, ss, A1, cap1, rfl, W1⟩
    have hT1 := hT0.ext W1.below
    have hb1 := below_ext hb0 W1.below
    have HMK := Lib.hid (fun W (hW : Below w1.heap.size w1 W) => make_on (W1.two.bs.ext hW) t HS.out hq1 hq2)
    have HW1 := Lib.hid W1
    clear c0 c3 W1 HB
    go_wp2_with (first | ((with_reducible show wpList _ _ _ (⟨_, .load 62 _, _, _, _, _⟩ :: _) _ _); refine wpList_load_ho 62 _ (by rfl) (by rfl) ?_ (.pointer (some ⟨_, 0, none⟩)) (by rfl) ?_ _ Try.underlying62 rfl ?_ ?_; rotate_left; (next => (repeat (first | (with_reducible refine BlkAt.new _ _ _ _ ?_; ((try simp) <;> omega)) | (with_reducible assumption) | (with_reducible refine Blk.at (t := ?_) ?_; rotate_left; with_reducible assumption) | with_reducible refine BlkAt.alloc ?_ _ | with_reducible refine BlkAt.drew ?_ | (with_reducible refine BlkAt.setSame ?_ _ _) | (with_reducible refine BlkAt.setCell ?_ ?_ _; rotate_left; ((try simp) <;> omega)) | (with_reducible refine BlkAt.ext (w := ?_) ?_ ?_; rotate_left 2; (with_reducible assumption)) | fail))); (next => kernel_rfl)) | (go_at_call 26; refine (HO.out _).mono ?_; rintro e w2 ⟨rfl, hb2⟩) | (go_at_call 25; refine (HMK.out _ hb2).mono ?_; rintro e w3 ⟨⟨v, rfl, hown3⟩, hb3⟩; obtain ⟨A3, cp3, rfl, hrd3, _, _, hf3⟩ := owns_fl hown3; have hP3 := Blk.new w3 65 #[.slice none 0 0, .int .i64 0, .int .i64 0] _ rfl) | ((with_reducible show wpList _ _ _ (⟨_, .store 65 _ _, _, _, _, _⟩ :: _) _ _); refine wpList_store_blk (by rfl) 65 _ _ (by rfl) _ _ (by rfl) (by rfl) _ _ hP3 (by kernel_rfl) (by rfl) ?_ ?_; (next => first | (simp [Value.oneCell']; done) | (simp [Value.oneCell']; done) | exact Are.ordArr_one _); intro w4 hP4 hU4) | fail)
    have hb34 : Below w3.heap.size w3 w4 := below_upd (by (repeat (first | with_reducible exact Below.refl _ _ | (with_reducible assumption) | (with_reducible refine below_alloc ?_ _) | (with_reducible refine below_ext (w1 := ?_) ?_ ?_; rotate_left 2; (with_reducible assumption)) | (with_reducible refine Below.setCell ?_ ?_ _; rotate_left; ((try simp) <;> omega)) | (with_reducible refine Below.drew ?_) | (with_reducible refine below_drewN ?_ _) | fail))) (Nat.le_refl _) hU4
    have hb14 := below_ext hb2 (below_ext hb3 hb34)
    have HPK : Hid (Pok t (srt (1 - t.side) (osOf ss)) t.qty (mk t (srt (1 - t.side) (osOf ss)) t.qty)) := Lib.hid (mk_ok _ _ _ (by omega) (fun o ho => (Bs.okk HW1.out.two.bs o (srt_mem ho)).2.2.1.1))
    have HKA := Lib.hid (fun i hi => kat (t := t) (i := i) HW1.out.two.bs.ids (Bs.okk HW1.out.two.bs) hq1 HPK.out hi)
    have hfew := Nat.le_trans HPK.out.len (Nat.le_trans (srt_le _ _) (Bs.few HW1.out.two.bs))
    have hT4 := hT1.ext hb14
    have hrd4 := hrd3.below hb34
    have hown4 := owns_ext hown3 hb34
    have hb4 := below_ext hb1 hb14
    have HB4 := Lib.hid (HW1.out.two.bs.ext hb14)
    have hpos := HPK.out.pos
    have hsum := HPK.out.sum
    have hleft := HPK.out.left
    have hstop := HPK.out.stop
    obtain ⟨pr, hpr⟩ : ∃ pr, pr = mk t (srt (1 - t.side) (osOf ss)) t.qty := ⟨_, rfl⟩
    rw [← hpr] at hpos hsum hleft hstop hfew hown4 hrd4 HKA hP4 HPK
    obtain ⟨fs, left, stop⟩ := pr
    simp only at hpos hsum hleft hstop hfew hown4 hrd4 HKA hP4
    have hfl : fs.length ≤ 500 := hfew
    have HTR := Lib.hid (fun W (hW : Below w4.heap.size w4 W) => traded_any (left := left) (stop := stop) (owns_ext hown4 hW) (by omega) (fun f hf => Int.le_trans (by omega) (hpos f hf)) (by omega))
    have htp := trd_pos fs (fun f hf => Int.le_trans (by omega) (hpos f hf))
    have hbs : (decide (0 < left) == (stop == 0)) = false := by
      by_cases h : left = 0
      · have h2 := hstop.2 h
        subst h h2
        rfl
      · have h2 : (stop == 0) = false := by simpa using fun e => h (hstop.1 e)
        rw [h2, decide_eq_true (by omega)]
        rfl
    have p0 : w4.cell? ⟨w3.heap.size, 0, none⟩ = some (.slice A3 fs.length cp3) := hP4.cell 0
    have p1 : w4.cell? ⟨w3.heap.size, 1, none⟩ = some (.int .i64 left) := hP4.cell 1
    have p2 : w4.cell? ⟨w3.heap.size, 2, none⟩ = some (.int .i64 stop) := hP4.cell 2
    have t3 : w4.cell? ⟨w.heap.size, 3, none⟩ = some (.int .i64 t.qty) := hT4.cell 3
    have lP := hP4.lt
    have lT := hT4.lt
    have HFA : Hid (∀ a, A3 = some a → c a.block = 9 ∧ a.block < w4.heap.size) := Lib.hid (fun a e => ⟨(Bk.Bs.out14 HW1.out.two.bs (by have h1 := (hf3 a e).1; have := hb2.size; omega)), by have h1 := (hf3 a e).2; have := hb34.size; omega⟩)
    have HP4 := Lib.hid hP4
    have HT4 := Lib.hid hT4
    have HRD := Lib.hid hrd4
    have HSM := Lib.hid hsum
    have hl0 : 0 ≤ left := hleft
    have hld : decide (left < 0) = false := decide_eq_false (by omega)
    have hne : IntKind.i64.wrap (trd fs + left) = t.qty := by rw [hsum]; exact IntWalk.i64_in _ (by omega)
    have hmx : trd fs + left ≤ 9223372036854775807 := by omega
    clear hsum hstop
    clear hT0 hb0 HO HMK hT1 hb1 hb2 hb3 hU4 hb34 hb14 hown3 hrd3 hP3 hf3 hpos hleft hown4 hrd4 hfew hpr hP4 hT4
    generalize trd fs = m at *
    refine wp_region_below_lit (by kernel_rfl) (by kernel_rfl) ?_
    repeat (first | go_big_quiet_skip | (go_big_quiet_want; go_big_quiet_op; go_big_quiet_on) | (refine q_load_blk (by rfl) 65 _ (by rfl) ?_ (.pointer (some ⟨_, 0, none⟩)) (by rfl) ?_ _ (fun _ h => h) Try.underlying65 rfl ?_ ?_; rotate_left; (next => (repeat (first | (with_reducible refine BlkAt.new _ _ _ _ ?_; ((try simp) <;> omega)) | (with_reducible assumption) | (with_reducible refine Blk.at (t := ?_) ?_; rotate_left; with_reducible assumption) | with_reducible refine BlkAt.alloc ?_ _ | with_reducible refine BlkAt.drew ?_ | (with_reducible refine BlkAt.setSame ?_ _ _) | (with_reducible refine BlkAt.setCell ?_ ?_ _; rotate_left; ((try simp) <;> omega)) | (with_reducible refine BlkAt.ext (w := ?_) ?_ ?_; rotate_left 2; (with_reducible assumption)) | fail))); (next => kernel_rfl); (try simp only [Act.put, List.setIfInBounds_toArray, List.set_cons_zero, List.set_cons_succ])) | (refine q_load_fld (by rfl) _ _ (by rfl) (fun _ h => h) _ _ (by rfl) ?_ ?_ ?_ ?_ ?_ ?_; rotate_left; (next => (repeat (first | (with_reducible refine BlkAt.new _ _ _ _ ?_; ((try simp) <;> omega)) | (with_reducible assumption) | (with_reducible refine Blk.at (t := ?_) ?_; rotate_left; with_reducible assumption) | with_reducible refine BlkAt.alloc ?_ _ | with_reducible refine BlkAt.drew ?_ | (with_reducible refine BlkAt.setSame ?_ _ _) | (with_reducible refine BlkAt.setCell ?_ ?_ _; rotate_left; ((try simp) <;> omega)) | (with_reducible refine BlkAt.ext (w := ?_) ?_ ?_; rotate_left 2; (with_reducible assumption)) | fail))); rotate_left; (next => first | (simp only [go_sem]; rfl) | rfl); (next => kernel_rfl); (try simp only [Act.put, List.setIfInBounds_toArray, List.set_cons_zero, List.set_cons_succ])) | (refine q_rem (by rfl) _ _ _ _ (by rfl) _ _ (by rfl) (by rfl) (by kernel_rfl) (by kernel_rfl) ?_ ?_; (next => omega); (try simp only [Act.put, List.setIfInBounds_toArray, List.set_cons_zero, List.set_cons_succ])) | (refine q_step_ex (by rfl) ?_; apply Exists.intro; refine ⟨fun W hW => ?_, ?_⟩; (next => (have hWc := fun (b o : Nat) (h : b < _) => (Ext.out hW).cell (p := ⟨b, o, none⟩) h); (try have hLK := HLK.out W (Ext.out hW)); go_simp; first | rfl | (go_at_call 27; refine (HTR.out _ hW.out).mono ?_; rintro e w'' ⟨rfl, hb2⟩; exact ⟨rfl, below_ext hW.out hb2⟩) | fail); (try simp only [Act.put, List.setIfInBounds_toArray, List.set_cons_zero, List.set_cons_succ])) | fail)
    refine wpQuiet_nil ?_
    intro w5 hb5
    clear hne hld htp hmx hbs p0 p1 p2 t3 lP lT
    generalize hpb : w3.heap.size = pb at *
    have HB5 := Lib.hid (HB4.out.ext hb5)
    have HP5 := Lib.hid (HP4.out.ext hb5)
    have HT5 := Lib.hid (HT4.out.ext hb5)
    have HR5 := Lib.hid (HRD.out.below hb5)
    have hbw5 := below_ext hb4 hb5
    have HA5 : Hid (∀ a, A3 = some a → c a.block = 9 ∧ a.block < w5.heap.size) := Lib.hid (fun a e => ⟨(HFA.out a e).1, by have := (HFA.out a e).2; have := hb5.size; omega⟩)
    clear hb4 hb5 HTR HB4 HP4 HT4 HRD hl0 hpb
    go_wp2_with fail
    go_loopw [8] (fun iv wr => ∃ i : Nat, iv = .int .i64 i ∧ i ≤ fs.length ∧ Below w5.heap.size w5 wr) (fun iv _ => fs.length - (intOf iv).toNat)
    case atStart => exact ⟨0, rfl, Nat.zero_le _, Below.refl _ _⟩
    case round =>
      obtain ⟨i, rfl, hi, hb⟩ := hrel
      have hPr := HP5.out.ext hb
      have p0 : wr.cell? ⟨pb, 0, none⟩ = some (.slice A3 fs.length cp3) := hPr.cell 0
      have lP := hPr.lt
      by_cases hlt : i < fs.length
      · obtain ⟨o, q, g, K⟩ := HKA.out i hlt
        obtain ⟨ab, ao, rfl, hmid⟩ := Bk.rd_rngB (HR5.out.below hb) hlt
        have hfi : fs[i] = Fl.mk o.id o.price q g := by
          have h := K.at_
          rw [List.getElem?_eq_getElem hlt] at h
          exact Option.some.inj h
        rw [hfi] at hmid
        have hX : Blk (wr.alloc (.cells #[.int .i64 0, .int .i64 0, .int .i64 0, .bool false] 71)) wr.heap.size 71 #[.int .i64 0, .int .i64 0, .int .i64 0, .bool false] := Blk.new _ _ _ _ rfl
        have HG : Hid (∀ W, Below wr.heap.size wr W → Calls Try.prog 24 #[.pointer (some ⟨b, 0, none⟩), .int .i64 o.id] W fun e w' => e = .returned (.tuple #[.agg o.arr, .bool true]) ∧ Below W.heap.size W w') := Lib.hid (fun W hW => by
          have h := Bk.bget_any (HB5.out.ext (below_ext hb hW)) K.wf
          rw [K.fnd] at h
          exact h)
        have HK := Lib.hid K
        have HFI := Lib.hid hfi
        clear K hfi
        go_upto_region 12 with (first | (refine wpList_load_mid (by rfl) _ _ (by rfl) _ _ (by rfl) _ _ hmid Try.underlying71 rfl (by kernel_rfl) ?_) | (((with_reducible show wpList _ _ _ (⟨_, .store 71 _ _, _, _, _, _⟩ :: _) _ _); refine wpList_store_blk (by rfl) 71 _ _ (by rfl) _ _ (by rfl) (by rfl) _ _ hX (by kernel_rfl) (by rfl) ?_ ?_; (next => exact flArr_one ..); intro w6 hX6 hU6); have d0 : w6.cell? ⟨wr.heap.size, 0, none⟩ = some (.int .i64 o.id) := Blk.cell hX6 0; have hb6 : Below wr.heap.size wr w6 := below_upd (by (repeat (first | with_reducible exact Below.refl _ _ | (with_reducible assumption) | (with_reducible refine below_alloc ?_ _) | (with_reducible refine below_ext (w1 := ?_) ?_ ?_; rotate_left 2; (with_reducible assumption)) | (with_reducible refine Below.setCell ?_ ?_ _; rotate_left; ((try simp) <;> omega)) | (with_reducible refine Below.drew ?_) | (with_reducible refine below_drewN ?_ _) | fail))) (Nat.le_refl _) hU6) | (go_at_call 24; refine (HG.out _ hb6).mono ?_; rintro e w7 ⟨rfl, hb7⟩; have hY7 := Blk.new w7 43 Are.ord0.arr _ rfl) | (((with_reducible show wpList _ _ _ (⟨_, .store 43 _ _, _, _, _, _⟩ :: _) _ _); refine wpList_store_blk (by rfl) 43 _ _ (by rfl) _ _ (by rfl) (by rfl) _ _ hY7 (by kernel_rfl) (by rfl) ?_ ?_; (next => first | (simp [Value.oneCell']; done) | (simp [Value.oneCell']; done) | exact Are.ordArr_one _); intro w8 hY8 hU8); have hb8 : Below w7.heap.size w7 w8 := below_upd (by (repeat (first | with_reducible exact Below.refl _ _ | (with_reducible assumption) | (with_reducible refine below_alloc ?_ _) | (with_reducible refine below_ext (w1 := ?_) ?_ ?_; rotate_left 2; (with_reducible assumption)) | (with_reducible refine Below.setCell ?_ ?_ _; rotate_left; ((try simp) <;> omega)) | (with_reducible refine Below.drew ?_) | (with_reducible refine below_drewN ?_ _) | fail))) (Nat.le_refl _) hU8; have hb68 := below_ext hb7 hb8; have hX8 := Blk.ext hX6 hb68; have hbr8 := below_ext hb6 hb68; have F := kfacts HK.out hX8 hY8 (HT5.out.ext (below_ext hb hbr8)) (hPr.ext hbr8); obtain ⟨f1, f2, f3, o1, o2, o3, o4, t0, t1, t2, t4, t5, t6, p0'⟩ := F; clear hX6 hU6 hU8 hY7 hb6 hb7 hb8 d0 p0; obtain ⟨g0, g1, g2, g3, g4, g5, g6, g7⟩ := knos HK.out) | fail)
        go_cut [135] (fun c wx => c = .bool false ∧ w8 = wx)
        case first =>
          cases hgg : g
          all_goals
            rw [hgg] at f3 g7
            as_aux_lemma =>
              go_wp2_with fail
              go_meet
              exact ⟨rfl, rfl⟩
        case rest =>
          obtain ⟨rfl, rfl⟩ := hcut
          clear g0 g1 g2 g3 g4 g5 g6 g7 f2
          have c2 : w8.cell? ⟨wr.heap.size, 2, none⟩ = some (.int .i64 q) := hX8.cell 2
          have HKG := Lib.hid HK.out.gone
          have lF := hX8.lt
          have lO := hY8.lt
          have lT := (HT5.out.ext (below_ext hb hbr8)).lt
          have lP8 : pb < w8.heap.size := Nat.lt_of_lt_of_le lP hbr8.size
          have lA : ab < w8.heap.size := by have := (HA5.out _ rfl).2; have := hb.size; have := hbr8.size; simp at *; omega
          have hw3 : IntKind.i64.wrap (1 - t.side) = 1 - t.side := IntWalk.i64_in _ (by omega)
          have hw4 : IntKind.i64.wrap ((i : Int) + 1) = (i : Int) + 1 := IntWalk.i64_in _ (by omega)
          have hb8 := below_ext hb hbr8
          have HRW := Lib.hid (HR5.out.below hb8)
          clear hmid hX8 hY8 hb68 hbr8 HFA
          have hlast : (decide ((i : Int) + 1 < (fs.length : Int)) = true ∧ (q != o.qty) = false) ∨ decide ((i : Int) + 1 < (fs.length : Int)) = false := by
            by_cases h : i + 1 < fs.length
            · exact .inl ⟨decide_eq_true (by omega), by simp [HK.out.last h]⟩
            · exact .inr (decide_eq_false (by omega))
          have hlim : (t.limit != 0) = false ∨ (t.limit != 0) = true ∧ bet t.side o.price t.limit = false := by
            by_cases h : t.limit = 0
            · exact .inl (by simp [h])
            · refine .inr ⟨by simp [h], ?_⟩
              have h2 := HK.out.lim
              unfold wrs at h2
              rw [decide_eq_true h] at h2
              simpa using h2
          have HB1 := Lib.hid (fun W => Bk.better_any t.side o.price t.limit W)
          have HB1' : Hid (∀ W, bet t.side o.price t.limit = false → Calls Try.prog 28 #[.int .i64 t.side, .int .i64 o.price, .int .i64 t.limit] W fun e w' => e = .returned (.bool false) ∧ W = w') := Lib.hid (fun W h => by
            have h2 := HB1.out W
            rwa [h] at h2)
          have HB2 : Hid (∀ (j : Nat), i = j + 1 → ∃ p, w8.cell? ⟨ab, ao + j * 4 + 1, none⟩ = some (.int .i64 p) ∧ ∀ W, Calls Try.prog 28 #[.int .i64 (1 - t.side), .int .i64 o.price, .int .i64 p] W fun e w' => e = .returned (.bool false) ∧ W = w') := Lib.hid (fun j hj => by
            have hj2 : j < fs.length := by omega
            obtain ⟨ab', ao', e1, h1⟩ := Bk.rd_rngB HRW.out hj2
            obtain ⟨rfl, rfl⟩ := addr_inj e1
            refine ⟨fs[j].price, h1 1 _ rfl, fun W => ?_⟩
            have h2 := Bk.better_any (1 - t.side) o.price fs[j].price W
            rwa [HK.out.prev fs[j] (by omega) (by rw [hj, Nat.add_sub_cancel, List.getElem?_eq_getElem hj2])] at h2)
          clear HB1
          go_upto_region 14 with fail
          go_cut [181] (fun c wx => c = .bool false ∧ Below w8.heap.size w8 wx)
          case first =>
            rcases Nat.eq_zero_or_pos i with hi0 | hi0
            · subst hi0
              clear HB2
              have hw6 : IntKind.i64.wrap (1 : Int) = 1 := IntWalk.i64_in _ (by omega)
              rcases hlim with hlim | ⟨hlim, hbt⟩
              · rcases hlast with ⟨hl1, hl2⟩ | hl1
                · have hl3 : 1 < fs.length := by have := of_decide_eq_true hl1; omega
                  have hl4 : decide (1 < fs.length) = true := decide_eq_true hl3
                  have hl5 : decide ((1 : Int) < (fs.length : Int)) = true := decide_eq_true (by omega)
                  as_aux_lemma =>
                    refine wp_region_below_lit (by kernel_rfl) (by kernel_rfl) ?_
                    repeat (first | go_big_quiet_skip | (go_big_quiet_want; go_big_quiet_op; go_big_quiet_on) | (refine q_load_fld (by rfl) _ _ (by rfl) (fun _ h => h) _ _ (by rfl) ?_ ?_ ?_ ?_ ?_ ?_; rotate_left; (next => (repeat (first | (with_reducible refine BlkAt.new _ _ _ _ ?_; ((try simp) <;> omega)) | (with_reducible assumption) | (with_reducible refine Blk.at (t := ?_) ?_; rotate_left; with_reducible assumption) | with_reducible refine BlkAt.alloc ?_ _ | with_reducible refine BlkAt.drew ?_ | (with_reducible refine BlkAt.setSame ?_ _ _) | (with_reducible refine BlkAt.setCell ?_ ?_ _; rotate_left; ((try simp) <;> omega)) | (with_reducible refine BlkAt.ext (w := ?_) ?_ ?_; rotate_left 2; (with_reducible assumption)) | fail))); rotate_left; (next => first | (simp only [go_sem]; rfl) | rfl); (next => kernel_rfl); (try simp only [Act.put, List.setIfInBounds_toArray, List.set_cons_zero, List.set_cons_succ])) | (refine q_rem (by rfl) _ _ _ _ (by rfl) _ _ (by rfl) (by rfl) (by kernel_rfl) (by kernel_rfl) ?_ ?_; (next => omega); (try simp only [Act.put, List.setIfInBounds_toArray, List.set_cons_zero, List.set_cons_succ])) | (refine q_step_ex (by rfl) ?_; apply Exists.intro; refine ⟨fun W hW => ?_, ?_⟩; (next => (have hWc := fun (b o : Nat) (h : b < _) => (Ext.out hW).cell (p := ⟨b, o, none⟩) h); (try have hLK := HLK.out W (Ext.out hW)); go_simp; first | rfl | fail | fail); (try simp only [Act.put, List.setIfInBounds_toArray, List.set_cons_zero, List.set_cons_succ])) | fail)
                    refine wpQuiet_nil ?_
                    intro w9 hb9
                    go_wp2_with fail
                    go_meet
                    exact ⟨rfl, hb9⟩
                · have hl3 : ¬ 1 < fs.length := by have := of_decide_eq_false hl1; omega
                  have hl4 : decide (1 < fs.length) = false := decide_eq_false hl3
                  have hl5 : decide ((1 : Int) < (fs.length : Int)) = false := decide_eq_false (by omega)
                  as_aux_lemma =>
                    refine wp_region_below_lit (by kernel_rfl) (by kernel_rfl) ?_
                    repeat (first | go_big_quiet_skip | (go_big_quiet_want; go_big_quiet_op; go_big_quiet_on) | (refine q_load_fld (by rfl) _ _ (by rfl) (fun _ h => h) _ _ (by rfl) ?_ ?_ ?_ ?_ ?_ ?_; rotate_left; (next => (repeat (first | (with_reducible refine BlkAt.new _ _ _ _ ?_; ((try simp) <;> omega)) | (with_reducible assumption) | (with_reducible refine Blk.at (t := ?_) ?_; rotate_left; with_reducible assumption) | with_reducible refine BlkAt.alloc ?_ _ | with_reducible refine BlkAt.drew ?_ | (with_reducible refine BlkAt.setSame ?_ _ _) | (with_reducible refine BlkAt.setCell ?_ ?_ _; rotate_left; ((try simp) <;> omega)) | (with_reducible refine BlkAt.ext (w := ?_) ?_ ?_; rotate_left 2; (with_reducible assumption)) | fail))); rotate_left; (next => first | (simp only [go_sem]; rfl) | rfl); (next => kernel_rfl); (try simp only [Act.put, List.setIfInBounds_toArray, List.set_cons_zero, List.set_cons_succ])) | (refine q_rem (by rfl) _ _ _ _ (by rfl) _ _ (by rfl) (by rfl) (by kernel_rfl) (by kernel_rfl) ?_ ?_; (next => omega); (try simp only [Act.put, List.setIfInBounds_toArray, List.set_cons_zero, List.set_cons_succ])) | (refine q_step_ex (by rfl) ?_; apply Exists.intro; refine ⟨fun W hW => ?_, ?_⟩; (next => (have hWc := fun (b o : Nat) (h : b < _) => (Ext.out hW).cell (p := ⟨b, o, none⟩) h); (try have hLK := HLK.out W (Ext.out hW)); go_simp; first | rfl | fail | fail); (try simp only [Act.put, List.setIfInBounds_toArray, List.set_cons_zero, List.set_cons_succ])) | fail)
                    refine wpQuiet_nil ?_
                    intro w9 hb9
                    go_wp2_with fail
                    go_meet
                    exact ⟨rfl, hb9⟩
              · have HB1 := Lib.hid (fun W => HB1'.out W hbt)
                clear hbt
                rcases hlast with ⟨hl1, hl2⟩ | hl1
                · have hl3 : 1 < fs.length := by have := of_decide_eq_true hl1; omega
                  have hl4 : decide (1 < fs.length) = true := decide_eq_true hl3
                  have hl5 : decide ((1 : Int) < (fs.length : Int)) = true := decide_eq_true (by omega)
                  as_aux_lemma =>
                    refine wp_region_below_lit (by kernel_rfl) (by kernel_rfl) ?_
                    repeat (first | go_big_quiet_skip | (go_big_quiet_want; go_big_quiet_op; go_big_quiet_on) | (refine q_load_fld (by rfl) _ _ (by rfl) (fun _ h => h) _ _ (by rfl) ?_ ?_ ?_ ?_ ?_ ?_; rotate_left; (next => (repeat (first | (with_reducible refine BlkAt.new _ _ _ _ ?_; ((try simp) <;> omega)) | (with_reducible assumption) | (with_reducible refine Blk.at (t := ?_) ?_; rotate_left; with_reducible assumption) | with_reducible refine BlkAt.alloc ?_ _ | with_reducible refine BlkAt.drew ?_ | (with_reducible refine BlkAt.setSame ?_ _ _) | (with_reducible refine BlkAt.setCell ?_ ?_ _; rotate_left; ((try simp) <;> omega)) | (with_reducible refine BlkAt.ext (w := ?_) ?_ ?_; rotate_left 2; (with_reducible assumption)) | fail))); rotate_left; (next => first | (simp only [go_sem]; rfl) | rfl); (next => kernel_rfl); (try simp only [Act.put, List.setIfInBounds_toArray, List.set_cons_zero, List.set_cons_succ])) | (refine q_rem (by rfl) _ _ _ _ (by rfl) _ _ (by rfl) (by rfl) (by kernel_rfl) (by kernel_rfl) ?_ ?_; (next => omega); (try simp only [Act.put, List.setIfInBounds_toArray, List.set_cons_zero, List.set_cons_succ])) | (refine q_step_ex (by rfl) ?_; apply Exists.intro; refine ⟨fun W hW => ?_, ?_⟩; (next => (have hWc := fun (b o : Nat) (h : b < _) => (Ext.out hW).cell (p := ⟨b, o, none⟩) h); (try have hLK := HLK.out W (Ext.out hW)); go_simp; first | rfl | (go_at_call 28; (with_reducible refine (HB1.out _).mono ?_); rintro e w'' ⟨rfl, rfl⟩; exact ⟨rfl, hW⟩) | fail); (try simp only [Act.put, List.setIfInBounds_toArray, List.set_cons_zero, List.set_cons_succ])) | fail)
                    refine wpQuiet_nil ?_
                    intro w9 hb9
                    go_wp2_with fail
                    go_meet
                    exact ⟨rfl, hb9⟩
                · have hl3 : ¬ 1 < fs.length := by have := of_decide_eq_false hl1; omega
                  have hl4 : decide (1 < fs.length) = false := decide_eq_false hl3
                  have hl5 : decide ((1 : Int) < (fs.length : Int)) = false := decide_eq_false (by omega)
                  as_aux_lemma =>
                    refine wp_region_below_lit (by kernel_rfl) (by kernel_rfl) ?_
                    repeat (first | go_big_quiet_skip | (go_big_quiet_want; go_big_quiet_op; go_big_quiet_on) | (refine q_load_fld (by rfl) _ _ (by rfl) (fun _ h => h) _ _ (by rfl) ?_ ?_ ?_ ?_ ?_ ?_; rotate_left; (next => (repeat (first | (with_reducible refine BlkAt.new _ _ _ _ ?_; ((try simp) <;> omega)) | (with_reducible assumption) | (with_reducible refine Blk.at (t := ?_) ?_; rotate_left; with_reducible assumption) | with_reducible refine BlkAt.alloc ?_ _ | with_reducible refine BlkAt.drew ?_ | (with_reducible refine BlkAt.setSame ?_ _ _) | (with_reducible refine BlkAt.setCell ?_ ?_ _; rotate_left; ((try simp) <;> omega)) | (with_reducible refine BlkAt.ext (w := ?_) ?_ ?_; rotate_left 2; (with_reducible assumption)) | fail))); rotate_left; (next => first | (simp only [go_sem]; rfl) | rfl); (next => kernel_rfl); (try simp only [Act.put, List.setIfInBounds_toArray, List.set_cons_zero, List.set_cons_succ])) | (refine q_rem (by rfl) _ _ _ _ (by rfl) _ _ (by rfl) (by rfl) (by kernel_rfl) (by kernel_rfl) ?_ ?_; (next => omega); (try simp only [Act.put, List.setIfInBounds_toArray, List.set_cons_zero, List.set_cons_succ])) | (refine q_step_ex (by rfl) ?_; apply Exists.intro; refine ⟨fun W hW => ?_, ?_⟩; (next => (have hWc := fun (b o : Nat) (h : b < _) => (Ext.out hW).cell (p := ⟨b, o, none⟩) h); (try have hLK := HLK.out W (Ext.out hW)); go_simp; first | rfl | (go_at_call 28; (with_reducible refine (HB1.out _).mono ?_); rintro e w'' ⟨rfl, rfl⟩; exact ⟨rfl, hW⟩) | fail); (try simp only [Act.put, List.setIfInBounds_toArray, List.set_cons_zero, List.set_cons_succ])) | fail)
                    refine wpQuiet_nil ?_
                    intro w9 hb9
                    go_wp2_with fail
                    go_meet
                    exact ⟨rfl, hb9⟩
            · obtain ⟨j, rfl⟩ : ∃ j, i = j + 1 := ⟨i - 1, by omega⟩
              obtain ⟨pp, hpp, HBP⟩ := HB2.out j rfl
              have HBP := Lib.hid HBP
              have hw1 : IntKind.i64.wrap ((j : Int) + 1 - 1) = (j : Int) := by rw [Int.add_sub_cancel]; exact IntWalk.i64_in _ (by omega)
              have hw2 : IntKind.i64.wrap (j : Int) = (j : Int) := IntWalk.i64_in _ (by omega)
              have hw5 : IntKind.i64.wrap ((j : Int) + 1 + 1) = (j : Int) + 1 + 1 := IntWalk.i64_in _ (by omega)
              have e1 : (j : Int) < (fs.length : Int) := by omega
              have e2 : (0 : Int) ≤ (j : Int) := by omega
              have e3 : decide ((0 : Int) < ((j + 1 : Nat) : Int)) = true := decide_eq_true (by omega)
              rcases hlim with hlim | ⟨hlim, hbt⟩
              · rcases hlast with ⟨hl1, hl2⟩ | hl1
                · have hl3 : j + 1 + 1 < fs.length := by have := of_decide_eq_true hl1; omega
                  have hl4 : decide (j + 1 + 1 < fs.length) = true := decide_eq_true hl3
                  have hl5 : decide ((j : Int) + 1 + 1 < (fs.length : Int)) = true := decide_eq_true (by omega)
                  have hl6 : decide ((j : Int) + 2 < (fs.length : Int)) = true := decide_eq_true (by omega)
                  have hl7 : decide (j + 2 < fs.length) = true := decide_eq_true (by omega)
                  as_aux_lemma =>
                    refine wp_region_below_lit (by kernel_rfl) (by kernel_rfl) ?_
                    repeat (first | go_big_quiet_skip | (go_big_quiet_want; go_big_quiet_op; go_big_quiet_on) | (refine q_load_fld (by rfl) _ _ (by rfl) (fun _ h => h) _ _ (by rfl) ?_ ?_ ?_ ?_ ?_ ?_; rotate_left; (next => (repeat (first | (with_reducible refine BlkAt.new _ _ _ _ ?_; ((try simp) <;> omega)) | (with_reducible assumption) | (with_reducible refine Blk.at (t := ?_) ?_; rotate_left; with_reducible assumption) | with_reducible refine BlkAt.alloc ?_ _ | with_reducible refine BlkAt.drew ?_ | (with_reducible refine BlkAt.setSame ?_ _ _) | (with_reducible refine BlkAt.setCell ?_ ?_ _; rotate_left; ((try simp) <;> omega)) | (with_reducible refine BlkAt.ext (w := ?_) ?_ ?_; rotate_left 2; (with_reducible assumption)) | fail))); rotate_left; (next => first | (simp only [go_sem]; rfl) | rfl); (next => kernel_rfl); (try simp only [Act.put, List.setIfInBounds_toArray, List.set_cons_zero, List.set_cons_succ])) | (refine q_rem (by rfl) _ _ _ _ (by rfl) _ _ (by rfl) (by rfl) (by kernel_rfl) (by kernel_rfl) ?_ ?_; (next => omega); (try simp only [Act.put, List.setIfInBounds_toArray, List.set_cons_zero, List.set_cons_succ])) | (refine q_step_ex (by rfl) ?_; apply Exists.intro; refine ⟨fun W hW => ?_, ?_⟩; (next => (have hWc := fun (b o : Nat) (h : b < _) => (Ext.out hW).cell (p := ⟨b, o, none⟩) h); (try have hLK := HLK.out W (Ext.out hW)); go_simp; first | rfl | (go_at_call 28; (with_reducible refine (HBP.out _).mono ?_); rintro e w'' ⟨rfl, rfl⟩; exact ⟨rfl, hW⟩) | fail); (try simp only [Act.put, List.setIfInBounds_toArray, List.set_cons_zero, List.set_cons_succ])) | fail)
                    refine wpQuiet_nil ?_
                    intro w9 hb9
                    go_wp2_with fail
                    go_meet
                    exact ⟨rfl, hb9⟩
                · have hl3 : ¬ j + 1 + 1 < fs.length := by have := of_decide_eq_false hl1; omega
                  have hl4 : decide (j + 1 + 1 < fs.length) = false := decide_eq_false hl3
                  have hl5 : decide ((j : Int) + 1 + 1 < (fs.length : Int)) = false := decide_eq_false (by omega)
                  have hl6 : decide ((j : Int) + 2 < (fs.length : Int)) = false := decide_eq_false (by omega)
                  have hl7 : decide (j + 2 < fs.length) = false := decide_eq_false (by omega)
                  as_aux_lemma =>
                    refine wp_region_below_lit (by kernel_rfl) (by kernel_rfl) ?_
                    repeat (first | go_big_quiet_skip | (go_big_quiet_want; go_big_quiet_op; go_big_quiet_on) | (refine q_load_fld (by rfl) _ _ (by rfl) (fun _ h => h) _ _ (by rfl) ?_ ?_ ?_ ?_ ?_ ?_; rotate_left; (next => (repeat (first | (with_reducible refine BlkAt.new _ _ _ _ ?_; ((try simp) <;> omega)) | (with_reducible assumption) | (with_reducible refine Blk.at (t := ?_) ?_; rotate_left; with_reducible assumption) | with_reducible refine BlkAt.alloc ?_ _ | with_reducible refine BlkAt.drew ?_ | (with_reducible refine BlkAt.setSame ?_ _ _) | (with_reducible refine BlkAt.setCell ?_ ?_ _; rotate_left; ((try simp) <;> omega)) | (with_reducible refine BlkAt.ext (w := ?_) ?_ ?_; rotate_left 2; (with_reducible assumption)) | fail))); rotate_left; (next => first | (simp only [go_sem]; rfl) | rfl); (next => kernel_rfl); (try simp only [Act.put, List.setIfInBounds_toArray, List.set_cons_zero, List.set_cons_succ])) | (refine q_rem (by rfl) _ _ _ _ (by rfl) _ _ (by rfl) (by rfl) (by kernel_rfl) (by kernel_rfl) ?_ ?_; (next => omega); (try simp only [Act.put, List.setIfInBounds_toArray, List.set_cons_zero, List.set_cons_succ])) | (refine q_step_ex (by rfl) ?_; apply Exists.intro; refine ⟨fun W hW => ?_, ?_⟩; (next => (have hWc := fun (b o : Nat) (h : b < _) => (Ext.out hW).cell (p := ⟨b, o, none⟩) h); (try have hLK := HLK.out W (Ext.out hW)); go_simp; first | rfl | (go_at_call 28; (with_reducible refine (HBP.out _).mono ?_); rintro e w'' ⟨rfl, rfl⟩; exact ⟨rfl, hW⟩) | fail); (try simp only [Act.put, List.setIfInBounds_toArray, List.set_cons_zero, List.set_cons_succ])) | fail)
                    refine wpQuiet_nil ?_
                    intro w9 hb9
                    go_wp2_with fail
                    go_meet
                    exact ⟨rfl, hb9⟩
              · have HB1 := Lib.hid (fun W => HB1'.out W hbt)
                clear hbt
                rcases hlast with ⟨hl1, hl2⟩ | hl1
                · have hl3 : j + 1 + 1 < fs.length := by have := of_decide_eq_true hl1; omega
                  have hl4 : decide (j + 1 + 1 < fs.length) = true := decide_eq_true hl3
                  have hl5 : decide ((j : Int) + 1 + 1 < (fs.length : Int)) = true := decide_eq_true (by omega)
                  have hl6 : decide ((j : Int) + 2 < (fs.length : Int)) = true := decide_eq_true (by omega)
                  have hl7 : decide (j + 2 < fs.length) = true := decide_eq_true (by omega)
                  as_aux_lemma =>
                    refine wp_region_below_lit (by kernel_rfl) (by kernel_rfl) ?_
                    repeat (first | go_big_quiet_skip | (go_big_quiet_want; go_big_quiet_op; go_big_quiet_on) | (refine q_load_fld (by rfl) _ _ (by rfl) (fun _ h => h) _ _ (by rfl) ?_ ?_ ?_ ?_ ?_ ?_; rotate_left; (next => (repeat (first | (with_reducible refine BlkAt.new _ _ _ _ ?_; ((try simp) <;> omega)) | (with_reducible assumption) | (with_reducible refine Blk.at (t := ?_) ?_; rotate_left; with_reducible assumption) | with_reducible refine BlkAt.alloc ?_ _ | with_reducible refine BlkAt.drew ?_ | (with_reducible refine BlkAt.setSame ?_ _ _) | (with_reducible refine BlkAt.setCell ?_ ?_ _; rotate_left; ((try simp) <;> omega)) | (with_reducible refine BlkAt.ext (w := ?_) ?_ ?_; rotate_left 2; (with_reducible assumption)) | fail))); rotate_left; (next => first | (simp only [go_sem]; rfl) | rfl); (next => kernel_rfl); (try simp only [Act.put, List.setIfInBounds_toArray, List.set_cons_zero, List.set_cons_succ])) | (refine q_rem (by rfl) _ _ _ _ (by rfl) _ _ (by rfl) (by rfl) (by kernel_rfl) (by kernel_rfl) ?_ ?_; (next => omega); (try simp only [Act.put, List.setIfInBounds_toArray, List.set_cons_zero, List.set_cons_succ])) | (refine q_step_ex (by rfl) ?_; apply Exists.intro; refine ⟨fun W hW => ?_, ?_⟩; (next => (have hWc := fun (b o : Nat) (h : b < _) => (Ext.out hW).cell (p := ⟨b, o, none⟩) h); (try have hLK := HLK.out W (Ext.out hW)); go_simp; first | rfl | (go_at_call 28; (with_reducible refine (HB1.out _).mono ?_); rintro e w'' ⟨rfl, rfl⟩; exact ⟨rfl, hW⟩) | (go_at_call 28; (with_reducible refine (HBP.out _).mono ?_); rintro e w'' ⟨rfl, rfl⟩; exact ⟨rfl, hW⟩) | fail); (try simp only [Act.put, List.setIfInBounds_toArray, List.set_cons_zero, List.set_cons_succ])) | fail)
                    refine wpQuiet_nil ?_
                    intro w9 hb9
                    go_wp2_with fail
                    go_meet
                    exact ⟨rfl, hb9⟩
                · have hl3 : ¬ j + 1 + 1 < fs.length := by have := of_decide_eq_false hl1; omega
                  have hl4 : decide (j + 1 + 1 < fs.length) = false := decide_eq_false hl3
                  have hl5 : decide ((j : Int) + 1 + 1 < (fs.length : Int)) = false := decide_eq_false (by omega)
                  have hl6 : decide ((j : Int) + 2 < (fs.length : Int)) = false := decide_eq_false (by omega)
                  have hl7 : decide (j + 2 < fs.length) = false := decide_eq_false (by omega)
                  as_aux_lemma =>
                    refine wp_region_below_lit (by kernel_rfl) (by kernel_rfl) ?_
                    repeat (first | go_big_quiet_skip | (go_big_quiet_want; go_big_quiet_op; go_big_quiet_on) | (refine q_load_fld (by rfl) _ _ (by rfl) (fun _ h => h) _ _ (by rfl) ?_ ?_ ?_ ?_ ?_ ?_; rotate_left; (next => (repeat (first | (with_reducible refine BlkAt.new _ _ _ _ ?_; ((try simp) <;> omega)) | (with_reducible assumption) | (with_reducible refine Blk.at (t := ?_) ?_; rotate_left; with_reducible assumption) | with_reducible refine BlkAt.alloc ?_ _ | with_reducible refine BlkAt.drew ?_ | (with_reducible refine BlkAt.setSame ?_ _ _) | (with_reducible refine BlkAt.setCell ?_ ?_ _; rotate_left; ((try simp) <;> omega)) | (with_reducible refine BlkAt.ext (w := ?_) ?_ ?_; rotate_left 2; (with_reducible assumption)) | fail))); rotate_left; (next => first | (simp only [go_sem]; rfl) | rfl); (next => kernel_rfl); (try simp only [Act.put, List.setIfInBounds_toArray, List.set_cons_zero, List.set_cons_succ])) | (refine q_rem (by rfl) _ _ _ _ (by rfl) _ _ (by rfl) (by rfl) (by kernel_rfl) (by kernel_rfl) ?_ ?_; (next => omega); (try simp only [Act.put, List.setIfInBounds_toArray, List.set_cons_zero, List.set_cons_succ])) | (refine q_step_ex (by rfl) ?_; apply Exists.intro; refine ⟨fun W hW => ?_, ?_⟩; (next => (have hWc := fun (b o : Nat) (h : b < _) => (Ext.out hW).cell (p := ⟨b, o, none⟩) h); (try have hLK := HLK.out W (Ext.out hW)); go_simp; first | rfl | (go_at_call 28; (with_reducible refine (HB1.out _).mono ?_); rintro e w'' ⟨rfl, rfl⟩; exact ⟨rfl, hW⟩) | (go_at_call 28; (with_reducible refine (HBP.out _).mono ?_); rintro e w'' ⟨rfl, rfl⟩; exact ⟨rfl, hW⟩) | fail); (try simp only [Act.put, List.setIfInBounds_toArray, List.set_cons_zero, List.set_cons_succ])) | fail)
                    refine wpQuiet_nil ?_
                    intro w9 hb9
                    go_wp2_with fail
                    go_meet
                    exact ⟨rfl, hb9⟩
          case rest =>
            obtain ⟨rfl, hb9⟩ := hcut
            as_aux_lemma =>
              have u3 := (hb9.cell (p := ⟨wr.heap.size, 3, none⟩) lF).trans f3
              have u6 : wc.cell? ⟨w.heap.size, 6, none⟩ = some (.int .i64 t.self) := (hb9.cell (p := ⟨w.heap.size, 6, none⟩) lT).trans t6
              have u1 : wc.cell? ⟨w.heap.size, 1, none⟩ = some (.int .i64 t.owner) := (hb9.cell (p := ⟨w.heap.size, 1, none⟩) lT).trans t1
              have u2 : wc.cell? ⟨w7.heap.size, 1, none⟩ = some (.int .i64 o.owner) := (hb9.cell (p := ⟨w7.heap.size, 1, none⟩) lO).trans o1
              have hbz := below_ext hb8 hb9
              have HLT := Lib.hid hlt
              clear f1 f3 o1 o2 o3 o4 t0 t1 t2 t4 t5 t6 p0' c2 hb9 HB2 HB1' hlim hlast
              rcases kself HKG.out with ⟨hs5, hs6⟩ | ⟨hs5, hs6⟩
              · have hs7 : g = false := hs6
                have u3' : wc.cell? ⟨wr.heap.size, 3, none⟩ = some (.bool false) := by rw [← hs7]; exact u3
                clear u3 hs6 hs7
                go_wp2_with fail
                go_roundw
                case rel => first | exact ⟨i + 1, by go_num, HLT.out, hbz⟩ | ((repeat apply Exists.intro); exact ⟨⟨i + 1, by go_num, HLT.out, hbz⟩, rfl⟩)
                case measure => (have := HLT.out; simp [intOf]; omega)
              · have hs7 : (g != g) = false := by simp
                go_wp2_with fail
                go_roundw
                case rel => first | exact ⟨i + 1, by go_num, HLT.out, hbz⟩ | ((repeat apply Exists.intro); exact ⟨⟨i + 1, by go_num, HLT.out, hbz⟩, rfl⟩)
                case measure => (have := HLT.out; simp [intOf]; omega)
      · have hi' : i = fs.length := by omega
        subst hi'
        as_aux_lemma =>
          have hap : (appF fs (osOf ss)).1 = 0 := by
            have P := HPK.out
            refine app_ok fs _ _ P.len (fun i h1 h2 => ?_) ?_ (fun o ho => Bk.fnd_mem HB5.out.ids (srt_mem ho))
            · have F := P.fill i h1 h2
              exact ⟨F.id, F.pos, F.le⟩
            · refine ((Bk.srt_perm (1 - t.side) (osOf ss)).map (·.id)).nodup_iff.2 ?_
              exact (HB5.out.ids).sublist ((List.filter_sublist ..).map _)
          have hfw : ∀ f ∈ fs, Idx.Wf f.id := fun f hf => by
            obtain ⟨i, hi, rfl⟩ := List.getElem_of_mem hf
            obtain ⟨o, q, g, K⟩ := HKA.out i hi
            have h := K.at_
            rw [List.getElem?_eq_getElem hi] at h
            rw [Option.some.inj h]
            exact K.wf
          have HAP := Lib.hid (apply_any (cap := cp3) (left := left) (stop := stop) (HB5.out.ext hb) (HR5.out.below hb) (fun a e => ⟨(HA5.out a e).1, by have := (HA5.out a e).2; have := hb.size; omega⟩) hfw (by omega))
          have p1 : wr.cell? ⟨pb, 1, none⟩ = some (.int .i64 left) := hPr.cell 1
          have p2 : wr.cell? ⟨pb, 2, none⟩ = some (.int .i64 stop) := hPr.cell 2
          have HAP0 := Lib.hid hap
          have hbr := below_ext hbw5 hb
          have HN9 : Hid (∀ q, q < w.heap.size → c q = 9) := Lib.hid (fun q hq => HW1.out.nine q (by rw [sz_alloc]; omega))
          clear hap hfw HKA HPK
          go_wp2_with (first | (go_at_call 29; refine HAP.out.mono ?_; rintro e w6 ⟨rfl, c6, ss6, hB6, hos6, hcs6⟩; rw [HAP0.out]) | (go_at_call 9; refine (alive_any _).mono ?_; rintro e w7 ⟨rfl, hb7⟩) | fail)
          go_ret
          exact ⟨rfl, below_ext (hbr.trans (hcs6.below hbr.size HN9.out)) hb7⟩
theorem keeps_law (l : List Ord) (t : Tk) (hq2 : t.qty ≤ 9223372036854775807) (hwf : ∀ o ∈ l, Idx.Wf o.id) (A : Option Addr) (cap : Nat) (w : World) (hr : Rd w 7 A (l.map Ord.cells)) (hml : l.length ≤ maxLen) :
    Calls Try.prog 6 #[.slice A l.length cap, .agg t.arr] w fun e w' => e = .returned (.bool true) ∧ Below w.heap.size w w' := by
  by_cases hgood : l.length ≤ 60 ∧ (t.side = 0 ∨ t.side = 1) ∧ 1 ≤ t.qty
  · exact keeps_main l t hgood.2.1 hgood.2.2 hq2 hwf A cap w hr hgood.1
  · unfold maxLen at hml
    have hT0 : Blk (w.alloc (.cells t.arr 62)) w.heap.size 62 t.arr := Blk.new _ _ _ _ rfl
    have c0 : (w.alloc (.cells t.arr 62)).cell? ⟨w.heap.size, 0, none⟩ = some (.int .i64 t.side) := hT0.cell 0
    have c3 : (w.alloc (.cells t.arr 62)).cell? ⟨w.heap.size, 3, none⟩ = some (.int .i64 t.qty) := hT0.cell 3
    have hb0 : Below w.heap.size w (w.alloc (.cells t.arr 62)) := by (repeat (first | with_reducible exact Below.refl _ _ | (with_reducible assumption) | (with_reducible refine below_alloc ?_ _) | (with_reducible refine below_ext (w1 := ?_) ?_ ?_; rotate_left 2; (with_reducible assumption)) | (with_reducible refine Below.setCell ?_ ?_ _; rotate_left; ((try simp) <;> omega)) | (with_reducible refine Below.drew ?_) | (with_reducible refine below_drewN ?_ _) | fail))
    clear hr hwf hT0
    by_cases h60 : l.length ≤ 60
    · have h61 : ¬ (60 : Int) < l.length := by omega
      by_cases hs : t.side = 0 ∨ t.side = 1
      · have hq : t.qty < 1 := by
          rcases Int.lt_or_le t.qty 1 with h | h
          · exact h
          · exact absurd ⟨h60, hs, h⟩ hgood
        have hq4 : decide (t.qty < 1) = true := decide_eq_true hq
        clear hgood
        rcases hs with hs | hs
        all_goals
          go_enter Try.func6, Try.ntmps6
          go_wp2_with (first | (go_at_call 9; refine (alive_any _).mono ?_; rintro e w2 ⟨rfl, hb2⟩) | fail)
          go_ret
          exact ⟨rfl, below_ext hb0 hb2⟩
      · have k0 : (t.side == 0) = false := by simp; omega
        have k1 : (t.side == 1) = false := by simp; omega
        have k2 : (t.side != 0) = true := by simp; omega
        have k3 : (t.side != 1) = true := by simp; omega
        clear hgood hs
        go_enter Try.func6, Try.ntmps6
        go_wp2_with (first | (go_at_call 9; refine (alive_any _).mono ?_; rintro e w2 ⟨rfl, hb2⟩) | fail)
        go_ret
        exact ⟨rfl, below_ext hb0 hb2⟩
    · have h61 : (60 : Int) < l.length := by omega
      clear hgood
      go_enter Try.func6, Try.ntmps6
      go_wp2_with (first | (go_at_call 9; refine (alive_any _).mono ?_; rintro e w2 ⟨rfl, hb2⟩) | fail)
      go_ret
      exact ⟨rfl, below_ext hb0 hb2⟩
theorem fitOrdW {vs : List Value} (h : fits (List.replicate 7 K) vs) : ∃ s : Ord, vs = s.cells ∧ Idx.Wf s.id := by
  obtain ⟨a0, _, rfl, b0, h⟩ := fitInt h
  obtain ⟨a1, _, rfl, b1, h⟩ := fitInt h
  obtain ⟨a2, _, rfl, b2, h⟩ := fitInt h
  obtain ⟨a3, _, rfl, b3, h⟩ := fitInt h
  obtain ⟨a4, _, rfl, b4, h⟩ := fitInt h
  obtain ⟨a5, _, rfl, b5, h⟩ := fitInt h
  obtain ⟨a6, _, rfl, b6, h⟩ := fitInt h
  obtain rfl := fitNil h
  exact ⟨⟨a0, a1, a2, a3, a4, a5, a6⟩, rfl, WalkArith.wf_i64 b0⟩
theorem fitTk {vs : List Value} (h : fits (List.replicate 7 K) vs) : ∃ t : Tk, vs = t.arr.toList ∧ t.qty ≤ 9223372036854775807 := by
  obtain ⟨a0, _, rfl, b0, h⟩ := fitInt h
  obtain ⟨a1, _, rfl, b1, h⟩ := fitInt h
  obtain ⟨a2, _, rfl, b2, h⟩ := fitInt h
  obtain ⟨a3, _, rfl, b3, h⟩ := fitInt h
  obtain ⟨a4, _, rfl, b4, h⟩ := fitInt h
  obtain ⟨a5, _, rfl, b5, h⟩ := fitInt h
  obtain ⟨a6, _, rfl, b6, h⟩ := fitInt h
  obtain rfl := fitNil h
  exact ⟨⟨a0, a1, a2, a3, a4, a5, a6⟩, rfl, b3.2⟩
open Go.ChangeShapes Go.WideShapes Go.ChangeAt Go.Deep
set_option maxRecDepth 100000 in
theorem argsSweepKeeps (H : Type) (enc : TypeId × Value → H) (W : World) (args : Array Value) (hargs : Args Try.checked H enc [22, 62] W args) :
    Calls Try.prog 6 args W fun e W' => e = .returned (.bool true) ∧ Below W.heap.size W W' := by
  obtain ⟨base, ds, p, hval, hA⟩ := hargs
  obtain ⟨v0, vs0, d0, ds0, p0, q0, hargs, rfl, rfl, h0, r0⟩ := trodAll_cons hA
  obtain ⟨v1, vs1, d1, ds1, p1, q1, rfl, rfl, rfl, h1, r1⟩ := trodAll_cons r0
  obtain ⟨rfl, rfl, rfl⟩ := trodAll_nil r1
  obtain rfl : args = #[v0, v1] := by cases args; simp_all
  obtain ⟨A, la, ca, rows, rfl, hla, hlc, hca, hfa, ha⟩ := open_rows (ks := List.replicate 7 K) 5 Try.underlying22 (by kernel_rfl) (by kernel_rfl) (by decide) (hval 0 _ v0 rfl rfl) h0
  obtain ⟨xs, rfl, hwf⟩ := rowsOf (fun vs h => fitOrdW h) rows hfa
  obtain ⟨cs, rfl, hf⟩ := open_flat (ks := List.replicate 7 K) 5 Try.underlying62 (by kernel_rfl) (hval 1 _ v1 rfl rfl) h1
  obtain ⟨t, rfl, ht⟩ := fitTk hf
  rw [List.length_map] at hla
  subst hla
  exact keeps_law xs t ht hwf A ca W ha (by omega)
theorem ownSweepKeeps : ownKnob Try.prog.godebug = none := by kernel_rfl
theorem laidSweepKeeps : laidOutB Try.prog = true := by kernel_rfl
set_option maxRecDepth 100000 in
theorem liftedSweepKeeps (os : Os) (started : os.Started) (H : Type) (enc : TypeId × Value → H) :
    ReturnsInHanded {} Try.checked os 6 .any (Rows.sweepKeepsSpec.pre6 enc Try.prog Try.f6 Rows.sweepKeepsRow.domain false) (Rows.sweepKeepsSpec.post enc Try.prog Try.f6 false true false false) :=
  law_lifted (C := Try.checked) (ts := [22, 62]) (tb := 4) ownSweepKeeps laidSweepKeeps started (by kernel_rfl) Try.func6 (by kernel_rfl)
    (ChangeSpec.witness6 (enc := enc) (C := Try.checked) false ⟨#[], #[.slice none 0 0, .agg #[.int .i64 0, .int .i64 0, .int .i64 0, .int .i64 0, .int .i64 0, .int .i64 0, .int .i64 0]], []⟩ 8 (by kernel_rfl) (by kernel_rfl) (by kernel_rfl) (by kernel_rfl))
    rfl (by kernel_rfl) Try.underlying4 (by kernel_rfl)
    (fun ds h => by
      match ds, h with
      | [d0, d1], _ => rfl)
    (fun W args h => argsSweepKeeps H enc W args h)
theorem provedSweepKeeps : Rows.SweepKeepsSaid :=
  OpenClaim.holds_of_wide 6 Try.f6 rfl rfl rfl rfl rfl rfl rfl ⟨rfl, rfl, rfl, rfl, rfl⟩ rfl rfl rfl rfl rfl (by kernel_rfl) Try.func6 (by kernel_rfl)
    (of_decide_eq_true (by kernel_rfl)) (by unfold Func.isWrapper; first | (rw [if_pos (by decide +kernel)]; kernel_rfl) | (rw [if_neg (by decide +kernel)]; exact ⟨rfl, rfl⟩))
    (fun os started H enc _ => liftedSweepKeeps os started H enc)
#print axioms provedSweepKeeps
end Sw
end Go.Proofs.Ytgaialcbpglhaaa
