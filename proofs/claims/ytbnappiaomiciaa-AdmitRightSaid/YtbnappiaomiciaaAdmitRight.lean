/- This text proves AdmitRight: whatever the input, the law returns true. It has no conditions. UNDER WAY. -/
import Derived.Test.YtbnappiaomiciaaCfgC
import Derived.Test.YtbnappiaomiciaaAdmP
import Derived.Test.YtbnappiaomiciaaAdmA
import Derived.Test.YtbnappiaomiciaaBkAdd
import Derived.Deep.DeepCutAuto
namespace Go.Proofs.Ytbnappiaomiciaa
set_option linter.unusedVariables false
open Go.RowKit
namespace Adm
set_option maxHeartbeats 4000000
set_option maxRecDepth 10000
theorem add_one {c : Cmd} {ph g : Int} {m : Bool} (L : Let c ph g m) (h : c.typ ≠ 2) : Bk.addF 1 1 [] (ordOf c 1) = 0 := by
  obtain ⟨p1, p2, _⟩ := L.price h
  obtain ⟨q1, q2⟩ := L.qty
  have e1 : Bk.sided (ordOf c 1).side = true := decide_eq_true L.side
  have e2 : Bk.inRng (ordOf c 1) = true := decide_eq_true ⟨⟨p1, p2⟩, q1, q2⟩
  unfold Bk.addF
  rw [e1, e2]
  simp [Bk.fndI, Bk.roomO, Bk.fitsO]
  exact ⟨L.side, rfl⟩
theorem right_law (y : Sym) (ph : Int) (b : Bool) (s : Int) (c : Cmd) (hp : I64 c.price) (hq : I64 c.qty) (hid : Idx.Wf c.id) (hr : I64 y.ref) (hg : I64 y.grid) (w : World) :
    Calls Try.prog 3 #[.agg y.arr, .int .i64 ph, .agg #[.bool b, .int .i64 s], .agg c.arr] w fun e w' => e = .returned (.bool true) ∧ Below w.heap.size w w' := by
  have hSY := Lib.hid (fun W => Cfg.symbol_any y hr hg W)
  have hN := Lib.hid (fun W => new_any y ph b s c hp hq hg W)
  have hO := Lib.hid (fun W => order_any c 1 W)
  have hM := Lib.hid (fun W => Sho.may_any b s (ordOf c 1) W)
  have HP := Lib.hid (And.intro hp (And.intro hq (And.intro hid hg)))
  clear hp hq hid hr hg
  go_enter Try.func3, Try.ntmps3
  go_wp2_with fail
  refine (hSY.out _).mono ?_
  rintro e w1 ⟨⟨x, rfl, hx⟩, hb1⟩
  have hb01 : Below w.heap.size w w1 := below_ext (by (repeat (first | with_reducible exact Below.refl _ _ | (with_reducible assumption) | (with_reducible refine below_alloc ?_ _) | (with_reducible refine below_ext (w1 := ?_) ?_ ?_; rotate_left 2; (with_reducible assumption)) | (with_reducible refine Below.setCell ?_ ?_ _; rotate_left; ((try simp) <;> omega)) | (with_reducible refine Below.drew ?_) | (with_reducible refine below_drewN ?_ _) | fail))) hb1
  have hY : Blk w1 w.heap.size 23 y.arr := (((Blk.new _ _ _ _ rfl).alloc _).alloc _).ext hb1
  have hT : Blk w1 (w.heap.size + 1) 25 #[.bool b, .int .i64 s] := ((Blk.new _ _ _ _ (by simp only [sz_alloc])).alloc _).ext hb1
  have hC : Blk w1 (w.heap.size + 1 + 1) 27 c.arr := (Blk.new _ _ _ _ (by simp only [sz_alloc])).ext hb1
  clear hb1
  by_cases h0 : x = 0
  · subst h0
    have hg1 := Lib.hid (hx rfl)
    clear hx
    obtain ⟨f, hf⟩ : ∃ f, f = newF c ph y.grid (Sho.mayF b s (ordOf c 0)) := ⟨_, rfl⟩
    rw [← hf] at hN
    have HF := Lib.hid hf
    clear hf
    go_wp2_with fail
    refine wp_region_below_lit (by kernel_rfl) (by kernel_rfl) ?_
    repeat (first | go_big_quiet_skip | (go_big_quiet_want; go_big_quiet_op; go_big_quiet_on) | (refine q_load_blk (by rfl) 23 _ (by rfl) ?_ (.pointer (some ⟨_, 0, none⟩)) (by rfl) ?_ _ (fun _ h => h) Try.underlying23 rfl ?_ ?_; rotate_left; (next => (repeat (first | (with_reducible refine BlkAt.new _ _ _ _ ?_; ((try simp) <;> omega)) | (with_reducible assumption) | (with_reducible refine Blk.at (t := ?_) ?_; rotate_left; with_reducible assumption) | with_reducible refine BlkAt.alloc ?_ _ | with_reducible refine BlkAt.drew ?_ | (with_reducible refine BlkAt.setSame ?_ _ _) | (with_reducible refine BlkAt.setCell ?_ ?_ _; rotate_left; ((try simp) <;> omega)) | (with_reducible refine BlkAt.ext (w := ?_) ?_ ?_; rotate_left 2; (with_reducible assumption)) | fail))); (next => kernel_rfl); (try simp only [Act.put, List.setIfInBounds_toArray, List.set_cons_zero, List.set_cons_succ])) | (refine q_load_blk (by rfl) 25 _ (by rfl) ?_ (.pointer (some ⟨_, 0, none⟩)) (by rfl) ?_ _ (fun _ h => h) Try.underlying25 rfl ?_ ?_; rotate_left; (next => (repeat (first | (with_reducible refine BlkAt.new _ _ _ _ ?_; ((try simp) <;> omega)) | (with_reducible assumption) | (with_reducible refine Blk.at (t := ?_) ?_; rotate_left; with_reducible assumption) | with_reducible refine BlkAt.alloc ?_ _ | with_reducible refine BlkAt.drew ?_ | (with_reducible refine BlkAt.setSame ?_ _ _) | (with_reducible refine BlkAt.setCell ?_ ?_ _; rotate_left; ((try simp) <;> omega)) | (with_reducible refine BlkAt.ext (w := ?_) ?_ ?_; rotate_left 2; (with_reducible assumption)) | fail))); (next => kernel_rfl); (try simp only [Act.put, List.setIfInBounds_toArray, List.set_cons_zero, List.set_cons_succ])) | (refine q_load_blk (by rfl) 27 _ (by rfl) ?_ (.pointer (some ⟨_, 0, none⟩)) (by rfl) ?_ _ (fun _ h => h) Try.underlying27 rfl ?_ ?_; rotate_left; (next => (repeat (first | (with_reducible refine BlkAt.new _ _ _ _ ?_; ((try simp) <;> omega)) | (with_reducible assumption) | (with_reducible refine Blk.at (t := ?_) ?_; rotate_left; with_reducible assumption) | with_reducible refine BlkAt.alloc ?_ _ | with_reducible refine BlkAt.drew ?_ | (with_reducible refine BlkAt.setSame ?_ _ _) | (with_reducible refine BlkAt.setCell ?_ ?_ _; rotate_left; ((try simp) <;> omega)) | (with_reducible refine BlkAt.ext (w := ?_) ?_ ?_; rotate_left 2; (with_reducible assumption)) | fail))); (next => kernel_rfl); (try simp only [Act.put, List.setIfInBounds_toArray, List.set_cons_zero, List.set_cons_succ])) | (refine q_load_fld (by rfl) _ _ (by rfl) (fun _ h => h) _ _ (by rfl) ?_ ?_ ?_ ?_ ?_ ?_; rotate_left; (next => (repeat (first | (with_reducible refine BlkAt.new _ _ _ _ ?_; ((try simp) <;> omega)) | (with_reducible assumption) | (with_reducible refine Blk.at (t := ?_) ?_; rotate_left; with_reducible assumption) | with_reducible refine BlkAt.alloc ?_ _ | with_reducible refine BlkAt.drew ?_ | (with_reducible refine BlkAt.setSame ?_ _ _) | (with_reducible refine BlkAt.setCell ?_ ?_ _; rotate_left; ((try simp) <;> omega)) | (with_reducible refine BlkAt.ext (w := ?_) ?_ ?_; rotate_left 2; (with_reducible assumption)) | fail))); rotate_left; (next => first | (simp only [go_sem]; rfl) | rfl); (next => kernel_rfl); (try simp only [Act.put, List.setIfInBounds_toArray, List.set_cons_zero, List.set_cons_succ])) | (refine q_rem (by rfl) _ _ _ _ (by rfl) _ _ (by rfl) (by rfl) (by kernel_rfl) (by kernel_rfl) ?_ ?_; (next => omega); (try simp only [Act.put, List.setIfInBounds_toArray, List.set_cons_zero, List.set_cons_succ])) | (refine q_step_ex (by rfl) ?_; apply Exists.intro; refine ⟨fun W hW => ?_, ?_⟩; (next => (have hWc := fun (b o : Nat) (h : b < _) => (Ext.out hW).cell (p := ⟨b, o, none⟩) h); (try have hLK := HLK.out W (Ext.out hW)); go_simp; first | rfl | (go_at_call 7; refine (own_any _ _ _).mono ?_; rintro e w'' ⟨rfl, hb2⟩; exact ⟨rfl, below_ext hW hb2⟩) | (go_at_call 6; refine (hN.out _).mono ?_; rintro e w'' ⟨rfl, hb2⟩; exact ⟨rfl, below_ext hW hb2⟩) | fail); (try simp only [Act.put, List.setIfInBounds_toArray, List.set_cons_zero, List.set_cons_succ])) | fail)
    refine wpQuiet_nil ?_
    intro w2 hb2
    have hb02 := below_ext hb01 hb2
    replace hY := hY.ext hb2
    replace hT := hT.ext hb2
    replace hC := hC.ext hb2
    clear hN
    by_cases h1 : f = 0
    · subst h1
      have HL := Lib.hid (let_of HF.out.symm)
      clear HF
      go_wp2_with (first | ((with_reducible show wpList _ _ _ (⟨_, .load 27 _, _, _, _, _⟩ :: _) _ _); refine wpList_load_ho 27 _ (by rfl) (by rfl) ?_ (.pointer (some ⟨_, 0, none⟩)) (by rfl) ?_ _ Try.underlying27 rfl ?_ ?_; rotate_left; (next => (repeat (first | (with_reducible refine BlkAt.new _ _ _ _ ?_; ((try simp) <;> omega)) | (with_reducible assumption) | (with_reducible refine Blk.at (t := ?_) ?_; rotate_left; with_reducible assumption) | with_reducible refine BlkAt.alloc ?_ _ | with_reducible refine BlkAt.drew ?_ | (with_reducible refine BlkAt.setSame ?_ _ _) | (with_reducible refine BlkAt.setCell ?_ ?_ _; rotate_left; ((try simp) <;> omega)) | (with_reducible refine BlkAt.ext (w := ?_) ?_ ?_; rotate_left 2; (with_reducible assumption)) | fail))); (next => kernel_rfl)) | (go_at_call 8; refine (hO.out _).mono ?_; rintro e w3 ⟨rfl, hb3⟩; have hA3 := Blk.new w3 35 Are.ord0.arr _ rfl) | (((with_reducible show wpList _ _ _ (⟨_, .store 35 _ _, _, _, _, _⟩ :: _) _ _); refine wpList_store_blk (by rfl) 35 _ _ (by rfl) _ _ (by rfl) (by rfl) _ _ hA3 (by kernel_rfl) (by rfl) ?_ ?_; (next => first | (simp [Value.oneCell']; done) | (simp [Value.oneCell', Edt.cells]; done) | exact Are.ordArr_one _); intro w4 hA4 hU4); have hb4 : Below w3.heap.size w3 w4 := below_upd (by (repeat (first | with_reducible exact Below.refl _ _ | (with_reducible assumption) | (with_reducible refine below_alloc ?_ _) | (with_reducible refine below_ext (w1 := ?_) ?_ ?_; rotate_left 2; (with_reducible assumption)) | (with_reducible refine Below.setCell ?_ ?_ _; rotate_left; ((try simp) <;> omega)) | (with_reducible refine Below.drew ?_) | (with_reducible refine below_drewN ?_ _) | fail))) (Nat.le_refl _) hU4; have hb24 := below_ext hb3 hb4; clear hA3 hU4) | fail)
      have hL := HL.out
      have q1 : 0 ≤ (ordOf c 1).price ∧ (ordOf c 1).price ≤ 9223372036854775807 ∧ 1 ≤ y.grid ∧ y.grid ≤ 9223372036854775807 := by
        show 0 ≤ c.price ∧ c.price ≤ 9223372036854775807 ∧ 1 ≤ y.grid ∧ y.grid ≤ 9223372036854775807
        have := hg1.out; have := HP.out.2.2.2.2; have h1 := hL.market; have h2 := hL.price
        by_cases ht : c.typ = 2
        · have := h1 ht; omega
        · have := h2 ht; omega
      have k1 : (ordOf c 1).price % y.grid = 0 := by
        show c.price % y.grid = 0
        by_cases ht : c.typ = 2
        · rw [hL.market ht]; simp
        · exact (hL.price ht).2.2
      have d1 : decide (ph < 1) = false := decide_eq_false (by have := hL.phase; omega)
      have d2 : decide (4 < ph) = false := decide_eq_false (by have := hL.phase; omega)
      have m1 : Sho.mayF b s (ordOf c 1) = true := hL.may
      rw [m1] at hM
      have HB04 := Lib.hid (below_ext hb02 hb24)
      have hY4 := hY.ext hb24
      have hT4 := hT.ext hb24
      have hC4 := hC.ext hb24
      clear hL hY hT hC m1 hb01 hb2 hb02 hb3 hb4 hb24
      refine wp_region_below_lit (by kernel_rfl) (by kernel_rfl) ?_
      repeat (first | go_big_quiet_skip | (go_big_quiet_want; go_big_quiet_op; go_big_quiet_on) | (refine q_load_blk (by rfl) 25 _ (by rfl) ?_ (.pointer (some ⟨_, 0, none⟩)) (by rfl) ?_ _ (fun _ h => h) Try.underlying25 rfl ?_ ?_; rotate_left; (next => (repeat (first | (with_reducible refine BlkAt.new _ _ _ _ ?_; ((try simp) <;> omega)) | (with_reducible assumption) | (with_reducible refine Blk.at (t := ?_) ?_; rotate_left; with_reducible assumption) | with_reducible refine BlkAt.alloc ?_ _ | with_reducible refine BlkAt.drew ?_ | (with_reducible refine BlkAt.setSame ?_ _ _) | (with_reducible refine BlkAt.setCell ?_ ?_ _; rotate_left; ((try simp) <;> omega)) | (with_reducible refine BlkAt.ext (w := ?_) ?_ ?_; rotate_left 2; (with_reducible assumption)) | fail))); (next => kernel_rfl); (try simp only [Act.put, List.setIfInBounds_toArray, List.set_cons_zero, List.set_cons_succ])) | (refine q_load_blk (by rfl) 35 _ (by rfl) ?_ (.pointer (some ⟨_, 0, none⟩)) (by rfl) ?_ _ (fun _ h => h) Try.underlying35 rfl ?_ ?_; rotate_left; (next => (repeat (first | (with_reducible refine BlkAt.new _ _ _ _ ?_; ((try simp) <;> omega)) | (with_reducible assumption) | (with_reducible refine Blk.at (t := ?_) ?_; rotate_left; with_reducible assumption) | with_reducible refine BlkAt.alloc ?_ _ | with_reducible refine BlkAt.drew ?_ | (with_reducible refine BlkAt.setSame ?_ _ _) | (with_reducible refine BlkAt.setCell ?_ ?_ _; rotate_left; ((try simp) <;> omega)) | (with_reducible refine BlkAt.ext (w := ?_) ?_ ?_; rotate_left 2; (with_reducible assumption)) | fail))); (next => kernel_rfl); (try simp only [Act.put, List.setIfInBounds_toArray, List.set_cons_zero, List.set_cons_succ])) | (refine q_remz (by rfl) _ _ _ _ (by rfl) _ _ (by rfl) (by rfl) (by kernel_rfl) (by kernel_rfl) ?_ _ k1 ?_; (next => omega); (try simp only [Act.put, List.setIfInBounds_toArray, List.set_cons_zero, List.set_cons_succ])) | (refine q_load_fld (by rfl) _ _ (by rfl) (fun _ h => h) _ _ (by rfl) ?_ ?_ ?_ ?_ ?_ ?_; rotate_left; (next => (repeat (first | (with_reducible refine BlkAt.new _ _ _ _ ?_; ((try simp) <;> omega)) | (with_reducible assumption) | (with_reducible refine Blk.at (t := ?_) ?_; rotate_left; with_reducible assumption) | with_reducible refine BlkAt.alloc ?_ _ | with_reducible refine BlkAt.drew ?_ | (with_reducible refine BlkAt.setSame ?_ _ _) | (with_reducible refine BlkAt.setCell ?_ ?_ _; rotate_left; ((try simp) <;> omega)) | (with_reducible refine BlkAt.ext (w := ?_) ?_ ?_; rotate_left 2; (with_reducible assumption)) | fail))); rotate_left; (next => first | (simp only [go_sem]; rfl) | rfl); (next => kernel_rfl); (try simp only [Act.put, List.setIfInBounds_toArray, List.set_cons_zero, List.set_cons_succ])) | (refine q_rem (by rfl) _ _ _ _ (by rfl) _ _ (by rfl) (by rfl) (by kernel_rfl) (by kernel_rfl) ?_ ?_; (next => omega); (try simp only [Act.put, List.setIfInBounds_toArray, List.set_cons_zero, List.set_cons_succ])) | (refine q_step_ex (by rfl) ?_; apply Exists.intro; refine ⟨fun W hW => ?_, ?_⟩; (next => (have hWc := fun (b o : Nat) (h : b < _) => (Ext.out hW).cell (p := ⟨b, o, none⟩) h); (try have hLK := HLK.out W (Ext.out hW)); go_simp; first | rfl | (go_at_call 7; refine (own_any _ _ _).mono ?_; rintro e w'' ⟨rfl, hb2⟩; exact ⟨rfl, below_ext hW hb2⟩) | (go_at_call 9; refine (hM.out _).mono ?_; rintro e w'' ⟨rfl, hb2⟩; exact ⟨rfl, below_ext hW hb2⟩) | fail); (try simp only [Act.put, List.setIfInBounds_toArray, List.set_cons_zero, List.set_cons_succ])) | fail)
      refine wpQuiet_nil ?_
      intro w5 hb5
      have HB05 := Lib.hid (below_ext HB04.out hb5)
      have hC5 := hC4.ext hb5
      have hA5 := hA4.ext hb5
      have c5 : w5.cell? ⟨w.heap.size + 1 + 1, 5, none⟩ = some (.int .i64 c.typ) := hC5.cell 5
      have a3 : w5.cell? ⟨w3.heap.size, 3, none⟩ = some (.int .i64 (ordOf c 1).price) := hA5.cell 3
      have lC := hC5.lt
      have lA := hA5.lt
      clear hM hY4 hT4 hC4 hA4 HB04 hb5 q1 k1 d1 d2
      by_cases ht : c.typ = 2
      · have d3 : (c.typ == 2) = true := by simpa using ht
        obtain rfl : ph = 2 := by have := HL.out.phase; omega
        have d4 : ((ordOf c 1).price == 0) = true := by (show (c.price == 0) = true); simpa using HL.out.market ht
        clear ht
        go_wp2_with (first | (go_at_call 5; refine (alive_any _).mono ?_; rintro e w6 ⟨rfl, hb6⟩) | fail)
        go_ret
        exact ⟨rfl, below_ext HB05.out hb6⟩
      · have d3 : (c.typ == 2) = false := by simpa using ht
        have hadd := Lib.hid (add_one HL.out ht)
        have hph := HL.out.phase
        clear ht
        go_wp2_with (first | (go_at_call 10; refine (Bk.new_ok 1 1 _ (by omega) (by omega)).mono ?_; rintro x w6 ⟨bb, cc, rfl, B1, hb6, h9⟩; have hA6 := hA5.ext hb6; have HB1 := Lib.hid B1; have H9 := Lib.hid h9; clear B1 h9) | ((with_reducible show wpList _ _ _ (⟨_, .load 35 _, _, _, _, _⟩ :: _) _ _); refine wpList_load_ho 35 _ (by rfl) (by rfl) ?_ (.pointer (some ⟨_, 0, none⟩)) (by rfl) ?_ _ Try.underlying35 rfl ?_ ?_; rotate_left; (next => (repeat (first | (with_reducible refine BlkAt.new _ _ _ _ ?_; ((try simp) <;> omega)) | (with_reducible assumption) | (with_reducible refine Blk.at (t := ?_) ?_; rotate_left; with_reducible assumption) | with_reducible refine BlkAt.alloc ?_ _ | with_reducible refine BlkAt.drew ?_ | (with_reducible refine BlkAt.setSame ?_ _ _) | (with_reducible refine BlkAt.setCell ?_ ?_ _; rotate_left; ((try simp) <;> omega)) | (with_reducible refine BlkAt.ext (w := ?_) ?_ ?_; rotate_left 2; (with_reducible assumption)) | fail))); (next => kernel_rfl)) | fail)
        have HAD := Bk.add_any HB1.out (ordOf c 1) HP.out.2.2.1 (by omega)
        rw [show Bk.osOf [] = [] from rfl, hadd.out] at HAD
        refine HAD.mono ?_
        rintro x w7 ⟨rfl, c7, ss7, B7, hos7, hs7⟩
        have hb57 : Below w5.heap.size w5 w7 := hb6.trans (hs7.below hb6.size H9.out)
        have c7' := (hb57.cell lC).trans c5
        have hb07 := Lib.hid (below_ext HB05.out hb57)
        have lC7 : w.heap.size + 1 + 1 < w7.heap.size := Nat.lt_of_lt_of_le lC hb57.size
        clear HAD B7 hos7 hs7 hb57 hb6 hA6 HB1 H9 c5 a3 lC lA hA5 hC5
        rcases hph with rfl | ⟨hph, ht1 | ht5⟩
        · go_wp2_with (first | (go_at_call 5; refine (alive_any _).mono ?_; rintro e w8 ⟨rfl, hb8⟩) | fail)
          go_ret
          exact ⟨rfl, below_ext hb07.out hb8⟩
        · have d5 : (ph == 2) = false := by simpa using (by omega : ¬ ph = 2)
          have d6 : (c.typ == 1) = true := by simpa using ht1
          clear hph ht1
          go_wp2_with (first | (go_at_call 5; refine (alive_any _).mono ?_; rintro e w8 ⟨rfl, hb8⟩) | fail)
          go_ret
          exact ⟨rfl, below_ext hb07.out hb8⟩
        · have d5 : (ph == 2) = false := by simpa using (by omega : ¬ ph = 2)
          have d6 : (c.typ == 1) = false := by simpa using (by omega : ¬ c.typ = 1)
          have d7 : (c.typ == 5) = true := by simpa using ht5
          clear hph ht5
          go_wp2_with (first | (go_at_call 5; refine (alive_any _).mono ?_; rintro e w8 ⟨rfl, hb8⟩) | fail)
          go_ret
          exact ⟨rfl, below_ext hb07.out hb8⟩
    · have k1 : (f != 0) = true := by simpa using h1
      clear h1 hY hT hC
      go_wp2_with (first | (go_at_call 5; refine (alive_any _).mono ?_; rintro e w3 ⟨rfl, hb3⟩) | fail)
      go_ret
      exact ⟨rfl, below_ext hb02 hb3⟩
  · have k0 : (x != 0) = true := by simpa using h0
    clear h0 hx hY hT hC
    go_wp2_with (first | (go_at_call 5; refine (alive_any _).mono ?_; rintro e w2 ⟨rfl, hb2⟩) | fail)
    go_ret
    exact ⟨rfl, below_ext hb01 hb2⟩
theorem fitSymR {vs : List Value} (h : fits (List.replicate 16 K) vs) : ∃ s : Sym, vs = s.cells ∧ I64 s.ref ∧ I64 s.grid := by
  obtain ⟨a0, _, rfl, b0, h⟩ := fitInt h
  obtain ⟨a1, _, rfl, b1, h⟩ := fitInt h
  obtain ⟨a2, _, rfl, b2, h⟩ := fitInt h
  obtain ⟨a3, _, rfl, b3, h⟩ := fitInt h
  obtain ⟨a4, _, rfl, b4, h⟩ := fitInt h
  obtain ⟨a5, _, rfl, b5, h⟩ := fitInt h
  obtain ⟨a6, _, rfl, b6, h⟩ := fitInt h
  obtain ⟨a7, _, rfl, b7, h⟩ := fitInt h
  obtain ⟨a8, _, rfl, b8, h⟩ := fitInt h
  obtain ⟨a9, _, rfl, b9, h⟩ := fitInt h
  obtain ⟨a10, _, rfl, b10, h⟩ := fitInt h
  obtain ⟨a11, _, rfl, b11, h⟩ := fitInt h
  obtain ⟨a12, _, rfl, b12, h⟩ := fitInt h
  obtain ⟨a13, _, rfl, b13, h⟩ := fitInt h
  obtain ⟨a14, _, rfl, b14, h⟩ := fitInt h
  obtain ⟨a15, _, rfl, b15, h⟩ := fitInt h
  obtain rfl := fitNil h
  exact ⟨⟨a0, a1, a2, a3, a4, a5, a6, a7, a8, a9, a10, a11, a12, a13, a14, a15⟩, rfl, b1, b0⟩
theorem fitCmdR {vs : List Value} (h : fits (List.replicate 9 K) vs) : ∃ c : Cmd, vs = c.cells ∧ I64 c.price ∧ I64 c.qty ∧ Idx.Wf c.id := by
  obtain ⟨a0, _, rfl, b0, h⟩ := fitInt h
  obtain ⟨a1, _, rfl, b1, h⟩ := fitInt h
  obtain ⟨a2, _, rfl, b2, h⟩ := fitInt h
  obtain ⟨a3, _, rfl, b3, h⟩ := fitInt h
  obtain ⟨a4, _, rfl, b4, h⟩ := fitInt h
  obtain ⟨a5, _, rfl, b5, h⟩ := fitInt h
  obtain ⟨a6, _, rfl, b6, h⟩ := fitInt h
  obtain ⟨a7, _, rfl, b7, h⟩ := fitInt h
  obtain ⟨a8, _, rfl, b8, h⟩ := fitInt h
  obtain rfl := fitNil h
  exact ⟨⟨a0, a1, a2, a3, a4, a5, a6, a7, a8⟩, rfl, b6, b7, WalkArith.wf_i64 b2⟩
open Go.ChangeShapes Go.WideShapes Go.ChangeAt Go.Deep
set_option maxRecDepth 100000 in
theorem argsAdmitRight (H : Type) (enc : TypeId × Value → H) (W : World) (args : Array Value) (hargs : Args Try.checked H enc [23, 3, 25, 27] W args) :
    Calls Try.prog 3 args W fun e W' => e = .returned (.bool true) ∧ Below W.heap.size W W' := by
  obtain ⟨base, ds, p, hval, hA⟩ := hargs
  obtain ⟨v0, vs0, d0, ds0, p0, q0, hargs, rfl, rfl, h0, r0⟩ := trodAll_cons hA
  obtain ⟨v1, vs1, d1, ds1, p1, q1, rfl, rfl, rfl, h1, r1⟩ := trodAll_cons r0
  obtain ⟨v2, vs2, d2, ds2, p2, q2, rfl, rfl, rfl, h2, r2⟩ := trodAll_cons r1
  obtain ⟨v3, vs3, d3, ds3, p3, q3, rfl, rfl, rfl, h3, r3⟩ := trodAll_cons r2
  obtain ⟨rfl, rfl, rfl⟩ := trodAll_nil r3
  obtain rfl : args = #[v0, v1, v2, v3] := by cases args; simp_all
  obtain ⟨c0, rfl, f0⟩ := open_flat (ks := List.replicate 16 K) 5 Try.underlying23 (by kernel_rfl) (hval 0 _ v0 rfl rfl) h0
  obtain ⟨ph, rfl, _, _, wp⟩ := open_int Try.underlying3 (hval 1 _ v1 rfl rfl) h1
  obtain ⟨c2, rfl, f2⟩ := open_flat (ks := [none, K]) 5 Try.underlying25 (by kernel_rfl) (hval 2 _ v2 rfl rfl) h2
  obtain ⟨c3, rfl, f3⟩ := open_flat (ks := List.replicate 9 K) 5 Try.underlying27 (by kernel_rfl) (hval 3 _ v3 rfl rfl) h3
  obtain ⟨y, rfl, hr, hg⟩ := fitSymR f0
  obtain ⟨on, bid, rfl, hb⟩ := fitState f2
  obtain ⟨c, rfl, hp, hq, hid⟩ := fitCmdR f3
  exact right_law y ph on bid c hp hq hid hr hg W
theorem ownAdmitRight : ownKnob Try.prog.godebug = none := by kernel_rfl
theorem laidAdmitRight : laidOutB Try.prog = true := by kernel_rfl
set_option maxRecDepth 100000 in
theorem liftedAdmitRight (os : Os) (started : os.Started) (H : Type) (enc : TypeId × Value → H) :
    ReturnsInHanded {} Try.checked os 3 .any (Rows.admitRightSpec.pre6 enc Try.prog Try.f3 Rows.admitRightRow.domain false) (Rows.admitRightSpec.post enc Try.prog Try.f3 false true false false) :=
  law_lifted (C := Try.checked) (ts := [23, 3, 25, 27]) (tb := 4) ownAdmitRight laidAdmitRight started (by kernel_rfl) Try.func3 (by kernel_rfl)
    (ChangeSpec.witness6 (enc := enc) (C := Try.checked) false ⟨#[], #[.agg (Array.replicate 16 (.int .i64 0)), .int .i64 0, .agg #[.bool false, .int .i64 0], .agg (Array.replicate 9 (.int .i64 0))], []⟩ 8 (by kernel_rfl) (by kernel_rfl) (by kernel_rfl) (by kernel_rfl))
    rfl (by kernel_rfl) Try.underlying4 (by kernel_rfl)
    (fun ds h => by
      match ds, h with
      | [d0, d1, d2, d3], _ => rfl)
    (fun W args h => argsAdmitRight H enc W args h)
theorem provedAdmitRight : Rows.AdmitRightSaid :=
  OpenClaim.holds_of_wide 3 Try.f3 rfl rfl rfl rfl rfl rfl rfl ⟨rfl, rfl, rfl, rfl, rfl⟩ rfl rfl rfl rfl rfl (by kernel_rfl) Try.func3 (by kernel_rfl)
    (of_decide_eq_true (by kernel_rfl)) (by unfold Func.isWrapper; first | (rw [if_pos (by decide +kernel)]; kernel_rfl) | (rw [if_neg (by decide +kernel)]; exact ⟨rfl, rfl⟩))
    (fun os started H enc _ => liftedAdmitRight os started H enc)
#print axioms provedAdmitRight
end Adm
end Go.Proofs.Ytbnappiaomiciaa
