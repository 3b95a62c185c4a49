/- This text proves contracts of the package damperref01: Of, Add, Left, Mul, Halves. It has no conditions but those that they state. -/
import Derived.Test.YtifnofbgnfnpmaaBitsL
import Derived.Test.YtifnofbgnfnpmaaFix
import Derived.Test.YtifnofbgnfnpmaaOpen
namespace Go.Proofs.Ytifnofbgnfnpmaa
set_option linter.unusedVariables false
open Go.RowKit
namespace Bit
set_option maxHeartbeats 1000000
set_option maxRecDepth 10000
theorem zeroBits : Try.zeroCells82 = arr 0 := by
  have h : Try.zeroCells82 = Array.replicate 128 (Value.bool false) := by kernel_rfl
  rw [h, arr_zero]
section
variable {ops : Array Oper} {rest : List Oper} {o : Oper} {a : Act} {w : World} {Q : Exit → Act → World → Prop}
theorem wpList_store_bits (hgd : Region.wanted o (yielded ops a.tmps) = true) (x y : Operand) (ho : o.op = .store 82 x y) (g n m : Nat) (hx : a.eval x = .pointer (some ⟨g, 0, none⟩)) (hy : a.eval y = .agg (arr m)) (hb : Blk w g 82 (arr n))
    (h : ∀ w2, Blk w2 g 82 (arr m) → Upd g w w2 → wpList Try.prog ops Q rest (a.put o.dst undef) w2) : wpList Try.prog ops Q (o :: rest) a w :=
  wpList_store_blk hgd 82 x y ho g (arr m) hx hy 82 (arr n) hb (by rw [arr_size]; kernel_rfl) (by rw [arr_size, arr_size]) (arr_one m) h
theorem wp_store_bits {K : Act → World → Prop} (x y : Operand) (ho : o.op = .store 82 x y) (g n m : Nat) (hx : a.eval x = .pointer (some ⟨g, 0, none⟩)) (hy : a.eval y = .agg (arr m)) (hb : Blk w g 82 (arr n))
    (h : ∀ w2, Blk w2 g 82 (arr m) → Upd g w w2 → K (a.put o.dst undef) w2) : o.wp Try.prog a w K Q :=
  wp_store_row 82 x y ho g (arr m) hx hy 82 (arr n) hb (by rw [arr_size]; kernel_rfl) (by rw [arr_size, arr_size]) (arr_one m) (h _ (setRow_heap w g (arr n) (arr m) 82 _ hb) ⟨rfl, rfl, rfl, by simp, fun k hk => setRow_other w g k (arr m) hk⟩)
theorem wpList_load_bits (hgd : Region.wanted o (yielded ops a.tmps) = true) (x : Operand) (ho : o.op = .load 82 x) (g n : Nat) (hx : a.eval x = .pointer (some ⟨g, 0, none⟩)) (hb : Blk w g 82 (arr n))
    (h : wpList Try.prog ops Q rest (a.put o.dst (.agg (arr n))) w) : wpList Try.prog ops Q (o :: rest) a w :=
  wpList_load_blk hgd 82 x ho (arr n) _ hx hb.at _ Try.underlying82 rfl (by rw [arr_size]; kernel_rfl) h
end
section
variable {ops : Array Oper} {C : World → Prop} {Q : Act → Prop} {a : Act} {o : Oper} {rest : List Oper}
theorem q_load_bits {w : World} (hgd : Region.wanted o (yielded ops a.tmps) = true) (x : Operand) (ho : o.op = .load 82 x) (hC : ∀ w', C w' → Below w.heap.size w w') (g n : Nat) (hx : a.eval x = .pointer (some ⟨g, 0, none⟩)) (hb : Blk w g 82 (arr n))
    (h : wpQuiet Try.prog ops C Q rest (a.put o.dst (.agg (arr n)))) : wpQuiet Try.prog ops C Q (o :: rest) a :=
  q_load_blk hgd 82 x ho (arr n) _ hx hb.at _ hC Try.underlying82 rfl (by rw [arr_size]; kernel_rfl) h
end
theorem of_any (lo hi : Nat) (hl : lo < 2 ^ 64) (hh : hi < 2 ^ 64) (w : World) :
    Calls Try.prog 62 #[.int .u64 hi, .int .u64 lo] w fun e w' => e = .returned (.agg (arr (lo + 2 ^ 64 * hi))) ∧ Below w.heap.size w w' := by
  have hA : Blk ((w.alloc (.cells Try.zeroCells82 82)).alloc (.cells Try.zeroCells82 82)) w.heap.size 82 (arr 0) := zeroBits ▸ (Blk.new w _ _ _ rfl).alloc _
  have hB : Blk ((w.alloc (.cells Try.zeroCells82 82)).alloc (.cells Try.zeroCells82 82)) (w.heap.size + 1) 82 (arr 0) := zeroBits ▸ Blk.new _ _ _ _ (sz_alloc _ _)
  have hb := below_alloc (below_alloc (Below.refl w.heap.size w) (.cells Try.zeroCells82 82)) (.cells Try.zeroCells82 82)
  go_enter Try.func62, Try.ntmps62
  go_wp2_with fail
  generalize ((w.alloc (.cells Try.zeroCells82 82)).alloc (.cells Try.zeroCells82 82)) = w0 at *
  go_loopw [6] (fun i wr => ∃ k : Nat, i = .int .i64 k ∧ k ≤ 64 ∧ Blk wr w.heap.size 82 (arr 0) ∧ Blk wr (w.heap.size + 1) 82 (arr (ofN lo hi k)) ∧ Below w.heap.size w wr) (fun i _ => 64 - (intOf i).toNat)
  case atStart => exact ⟨0, rfl, by decide, hA, by rw [ofN_zero]; exact hB, hb⟩
  case round =>
    obtain ⟨k, rfl, hk, hA1, hB1, hb1⟩ := hrel
    by_cases hlt : k < 64
    · have hlt1 : (k : Int) < 64 := by omega
      have b1 := and_one lo k hl
      have b2 := and_one hi k hh
      have hst := Lib.hid (ofN_set lo hi k hlt)
      have hz := arr_size (ofN lo hi k)
      go_wp2_with (first | ((with_reducible show wpList _ _ _ (⟨_, .store _ _ _, _, _, _, _⟩ :: _) _ _); refine wpList_store_fld (by rfl) _ _ _ (by rfl) _ _ (by rfl) _ (by rfl) _ _ hB1 ?_ ?_ (by rfl) (by rfl) ?_; (next => first | omega | ((try simp) <;> omega)); (next => kernel_rfl); intro w2 hB2 hU2) | ((with_reducible show wpList _ _ _ (⟨_, .store _ _ _, _, _, _, _⟩ :: _) _ _); refine wpList_store_fld (by rfl) _ _ _ (by rfl) _ _ (by rfl) _ (by rfl) _ _ hB2 ?_ ?_ (by rfl) (by rfl) ?_; (next => first | omega | ((try simp) <;> omega)); (next => kernel_rfl); intro w3 hB3 hU3) | fail)
      go_roundw
      case rel => exact ⟨k + 1, by go_num, by omega, (hA1.upd (by omega) hU2).upd (by omega) hU3, hst.out ▸ hB3, below_upd (below_upd hb1 (by omega) hU2) (by omega) hU3⟩
      case measure => simp [intOf]; omega
    · have hk64 : k = 64 := by omega
      subst hk64
      rw [ofN_all lo hi hl hh] at hB1
      go_wp2_with (first | (refine wpList_load_bits (by rfl) _ (by rfl) _ _ (by rfl) hB1 ?_) | (refine wpList_store_bits (by rfl) _ _ (by rfl) _ _ _ (by rfl) (by rfl) hA1 ?_; intro w2 hA2 hU2; have hcA := hA2.cell) | fail)
      simp only [Act.put, List.setIfInBounds_toArray, List.set_cons_zero, List.set_cons_succ]
      refine bodyPost_ret (v := .agg (arr (lo + 2 ^ 64 * hi))) (results_cell_row rfl _ _ _ _ _ _ _ (by rfl) hA2 Try.underlying82 rfl (by rw [arr_size]; kernel_rfl)) rfl ⟨rfl, below_upd hb1 (Nat.le_refl _) hU2⟩
theorem results_bits_tmp {fn : Func} {p u : Tmp} (h : fn.results = #[.cell p 82, .tmp u]) (tmps : Array Value) (w : World) (g n : Nat) (x : Value) (hp : tmps.getD p undef = .pointer (some ⟨g, 0, none⟩)) (hx : tmps.getD u undef = x) (hb : Blk w g 82 (arr n)) :
    (results fn tmps).run Try.prog w = .ok (.tuple #[.agg (arr n), x]) w := by
  rw [results_cell_tmp h, hp, hx]
  simp only [asAddr, Sem.run_pure, Result.andThen_ok, run_loadVar_row w g 82 82 (arr n) _ _ hb Try.underlying82 rfl (by rw [arr_size]; kernel_rfl)]
theorem results_bits {fn : Func} {p : Tmp} (h : fn.results = #[.cell p 82]) (tmps : Array Value) (w : World) (g n : Nat) (hp : tmps.getD p undef = .pointer (some ⟨g, 0, none⟩)) (hb : Blk w g 82 (arr n)) :
    (results fn tmps).run Try.prog w = .ok (.agg (arr n)) w :=
  results_cell_row h _ _ _ _ _ _ _ hp hb Try.underlying82 rfl (by rw [arr_size]; kernel_rfl)
theorem blk_of {w : World} {g : Nat} {t : TypeId} {cs cs' : Array Value} (h : cs = cs') (hb : Blk w g t cs) : Blk w g t cs' := h ▸ hb
theorem add_any (a b : Nat) (ha : a < 2 ^ 128) (hb : b < 2 ^ 128) (w : World) :
    Calls Try.prog 63 #[.agg (arr a), .agg (arr b)] w fun e w' => e = .returned (.tuple #[.agg (arr ((a + b) % 2 ^ 128)), .bool (!decide (2 ^ 128 ≤ a + b))]) ∧ Below w.heap.size w w' := by
  have hX := ((Blk.new w 82 (arr a) _ rfl).alloc (.cells (arr b) 82)).alloc (.cells Try.zeroCells82 82)
  replace hX := hX.alloc (.cells Try.zeroCells82 82)
  have hY := ((Blk.new (w.alloc (.cells (arr a) 82)) 82 (arr b) _ (sz_alloc _ _)).alloc (.cells Try.zeroCells82 82)).alloc (.cells Try.zeroCells82 82)
  have hA := (Blk.new ((w.alloc (.cells (arr a) 82)).alloc (.cells (arr b) 82)) 82 Try.zeroCells82 (w.heap.size + 1 + 1) (by rw [sz_alloc, sz_alloc])).alloc (.cells Try.zeroCells82 82)
  have hB := Blk.new (((w.alloc (.cells (arr a) 82)).alloc (.cells (arr b) 82)).alloc (.cells Try.zeroCells82 82)) 82 Try.zeroCells82 (w.heap.size + 1 + 1 + 1) (by rw [sz_alloc, sz_alloc, sz_alloc])
  have hbw : Below w.heap.size w ((((w.alloc (.cells (arr a) 82)).alloc (.cells (arr b) 82)).alloc (.cells Try.zeroCells82 82)).alloc (.cells Try.zeroCells82 82)) := below_alloc (below_alloc (below_alloc (below_alloc (Below.refl _ _) _) _) _) _
  replace hA := blk_of zeroBits hA
  replace hB := blk_of zeroBits hB
  go_enter Try.func63, Try.ntmps63
  go_wp2_with fail
  generalize ((((w.alloc (.cells (arr a) 82)).alloc (.cells (arr b) 82)).alloc (.cells Try.zeroCells82 82)).alloc (.cells Try.zeroCells82 82)) = w0 at *
  go_loopw [7, 8] (fun c i wr => ∃ k : Nat, i = .int .i64 k ∧ c = .bool (addC a b k) ∧ k ≤ 128 ∧ Blk wr w.heap.size 82 (arr a) ∧ Blk wr (w.heap.size + 1) 82 (arr b) ∧ Blk wr (w.heap.size + 1 + 1) 82 (arr 0) ∧ Blk wr (w.heap.size + 1 + 1 + 1) 82 (arr (addN a b k)) ∧ Below w.heap.size w wr) (fun _ i _ => 128 - (intOf i).toNat)
  case atStart => exact ⟨0, rfl, by rw [addC_zero], by decide, hX, hY, hA, by rw [addN_zero]; exact hB, hbw⟩
  case round =>
    obtain ⟨k, rfl, rfl, hk, hX1, hY1, hA1, hB1, hb1⟩ := hrel
    by_cases hlt : k < 128
    · have hlt1 : (k : Int) < 128 := by omega
      have cX : wr.cell? ⟨w.heap.size, k, none⟩ = some (.bool (a.testBit k)) := (hX1.cell k).trans (arr_get a k hlt)
      have cY : wr.cell? ⟨w.heap.size + 1, k, none⟩ = some (.bool (b.testBit k)) := (hY1.cell k).trans (arr_get b k hlt)
      have hz := arr_size (addN a b k)
      have hst := fun n hn => add_step a b k n hn
      have hse := fun c => set_next (addN_lt a b k) hlt c
      replace hst := Lib.hid hst
      replace hse := Lib.hid hse
      generalize hca : a.testBit k = ba at *
      generalize hcb : b.testBit k = bb at *
      generalize hcc : addC a b k = bc at *
      clear hca hcb hcc
      cases ba <;> cases bb <;> cases bc
      all_goals
        go_wp2_with (first | ((with_reducible show wpList _ _ _ (⟨_, .store _ _ _, _, _, _, _⟩ :: _) _ _); refine wpList_store_fld (by rfl) _ _ _ (by rfl) _ _ (by rfl) _ (by rfl) _ _ hB1 ?_ ?_ (by rfl) (by rfl) ?_; (next => first | omega | ((try simp) <;> omega)); (next => kernel_rfl); intro w2 hB2 hU2) | fail)
        go_roundw
        case rel =>
          have h1 := hst.out _ rfl
          simp at h1
          refine ⟨k + 1, by go_num, by rw [h1.2], by omega, hX1.upd (by omega) hU2, hY1.upd (by omega) hU2, hA1.upd (by omega) hU2, ?_, below_upd hb1 (by omega) hU2⟩
          have h2 := hse.out true
          have h3 := hse.out false
          rw [h1.1]
          simp at h2 h3
          first | (rw [← h2]; exact hB2) | (rw [← h3]; exact hB2)
        case measure => simp [intOf]; omega
    · have hke : k = 128 := by omega
      subst hke
      obtain ⟨e1, e2⟩ := addN_all a b ha hb
      rw [e1] at hB1
      replace e2 := Lib.hid e2
      generalize addC a b 128 = bc at *
      go_wp2_with (first | (refine wpList_load_bits (by rfl) _ (by rfl) _ _ (by rfl) hB1 ?_) | (refine wpList_store_bits (by rfl) _ _ (by rfl) _ _ _ (by rfl) (by rfl) hA1 ?_; intro w2 hA2 hU2) | fail)
      refine bodyPost_ret (v := .tuple #[.agg (arr ((a + b) % 2 ^ 128)), .bool !bc]) (results_bits_tmp rfl _ _ _ _ _ (by rfl) (by rfl) hA2) rfl ⟨by rw [e2.out], below_upd hb1 (by omega) hU2⟩
theorem left_any (a n : Nat) (hn : n < 128) (w : World) :
    Calls Try.prog 64 #[.agg (arr a), .int .i64 n] w fun e w' => e = .returned (.agg (arr (a * 2 ^ n % 2 ^ 128))) ∧ Below w.heap.size w w' := by
  have hX := ((Blk.new w 82 (arr a) _ rfl).alloc (.cells Try.zeroCells82 82)).alloc (.cells Try.zeroCells82 82)
  have hA := blk_of zeroBits ((Blk.new (w.alloc (.cells (arr a) 82)) 82 Try.zeroCells82 (w.heap.size + 1) (by rw [sz_alloc])).alloc (.cells Try.zeroCells82 82))
  have hB := blk_of zeroBits (Blk.new ((w.alloc (.cells (arr a) 82)).alloc (.cells Try.zeroCells82 82)) 82 Try.zeroCells82 (w.heap.size + 1 + 1) (by rw [sz_alloc, sz_alloc]))
  have hbw : Below w.heap.size w (((w.alloc (.cells (arr a) 82)).alloc (.cells Try.zeroCells82 82)).alloc (.cells Try.zeroCells82 82)) := below_alloc (below_alloc (below_alloc (Below.refl _ _) _) _) _
  have hn1 : (n : Int) < 128 := by omega
  have hn0 : ¬ (n : Int) < 0 := by omega
  go_enter Try.func64, Try.ntmps64
  go_wp2_with fail
  generalize (((w.alloc (.cells (arr a) 82)).alloc (.cells Try.zeroCells82 82)).alloc (.cells Try.zeroCells82 82)) = w0 at *
  go_loopw [6] (fun i wr => ∃ k : Nat, i = .int .i64 k ∧ k ≤ 128 ∧ Blk wr w.heap.size 82 (arr a) ∧ Blk wr (w.heap.size + 1) 82 (arr 0) ∧ Blk wr (w.heap.size + 1 + 1) 82 (arr (a * 2 ^ n % 2 ^ k)) ∧ Below w.heap.size w wr) (fun i _ => 128 - (intOf i).toNat)
  case atStart => exact ⟨0, rfl, by decide, hX, hA, by rw [Nat.pow_zero, Nat.mod_one]; exact hB, hbw⟩
  case round =>
    obtain ⟨k, rfl, hk, hX1, hA1, hB1, hb1⟩ := hrel
    by_cases hlt : k < 128
    · have hlt1 : (k : Int) < 128 := by omega
      have hsb := shift_bit a n k
      by_cases hnk : n ≤ k
      · have hnk1 : (n : Int) ≤ (k : Int) := by omega
        have cX : wr.cell? ⟨w.heap.size, k - n, none⟩ = some (.bool (a.testBit (k - n))) := (hX1.cell _).trans (arr_get a _ (by omega))
        obtain ⟨d, hd⟩ : ∃ d : Nat, k = n + d := ⟨k - n, by omega⟩
        subst hd
        rw [Nat.add_sub_cancel_left] at cX hsb
        have hz := arr_size (a * 2 ^ n % 2 ^ (n + d))
        have hst := Lib.hid (left_set (m := a * 2 ^ n) hlt)
        rw [decide_eq_true hnk, Bool.true_and] at hsb
        rw [hsb] at hst
        clear hsb hnk
        go_wp2_with (first | ((with_reducible show wpList _ _ _ (⟨_, .store _ _ _, _, _, _, _⟩ :: _) _ _); refine wpList_store_fld (by rfl) _ _ _ (by rfl) _ _ (by rfl) _ (by rfl) _ _ hB1 ?_ ?_ (by rfl) (by rfl) ?_; (next => first | omega | ((try simp) <;> omega)); (next => kernel_rfl); intro w2 hB2 hU2) | fail)
        go_roundw
        case rel => exact ⟨n + d + 1, by go_num, by omega, hX1.upd (by omega) hU2, hA1.upd (by omega) hU2, blk_of hst.out hB2, below_upd hb1 (by omega) hU2⟩
        case measure => simp [intOf]; omega
      · have hnk1 : ¬ (n : Int) ≤ (k : Int) := by omega
        rw [decide_eq_false hnk, Bool.false_and] at hsb
        have hst := Lib.hid (left_skip hsb)
        clear hsb hnk
        go_wp2_with fail
        go_roundw
        case rel => exact ⟨k + 1, by go_num, by omega, hX1, hA1, hst.out ▸ hB1, hb1⟩
        case measure => simp [intOf]; omega
    · have hke : k = 128 := by omega
      subst hke
      go_wp2_with (first | (refine wpList_load_bits (by rfl) _ (by rfl) _ _ (by rfl) hB1 ?_) | (refine wpList_store_bits (by rfl) _ _ (by rfl) _ _ _ (by rfl) (by rfl) hA1 ?_; intro w2 hA2 hU2) | fail)
      refine bodyPost_ret (v := .agg (arr (a * 2 ^ n % 2 ^ 128))) (results_bits rfl _ _ _ _ (by rfl) hA2) rfl ⟨rfl, below_upd hb1 (by omega) hU2⟩
theorem halves_any (n : Nat) (hn : n < 2 ^ 128) (w : World) :
    Calls Try.prog 58 #[.agg (arr n)] w fun e w' => e = .returned (.tuple #[.int .u64 (n / 2 ^ 64 : Nat), .int .u64 (n % 2 ^ 64 : Nat)]) ∧ Below w.heap.size w w' := by
  have hX := Blk.new w 82 (arr n) _ rfl
  have hbw : Below w.heap.size w (w.alloc (.cells (arr n) 82)) := below_alloc (Below.refl _ _) _
  go_enter Try.func58, Try.ntmps58
  go_wp2_with fail
  generalize (w.alloc (.cells (arr n) 82)) = w0 at *
  go_loop [4, 5, 6] (fun h l i => ∃ k : Nat, i = .int .i64 k ∧ h = .int .u64 (n / 2 ^ 64 % 2 ^ k : Nat) ∧ l = .int .u64 (n % 2 ^ k : Nat) ∧ k ≤ 64) (fun _ _ i => 64 - (intOf i).toNat)
  case atStart => exact ⟨0, rfl, by rw [Nat.pow_zero, Nat.mod_one]; rfl, by rw [Nat.pow_zero, Nat.mod_one]; rfl, by decide⟩
  case round =>
    obtain ⟨k, rfl, rfl, rfl, hk⟩ := hrel
    by_cases hlt : k < 64
    · have hlt1 : (k : Int) < 64 := by omega
      have cX : w0.cell? ⟨w.heap.size, k, none⟩ = some (.bool (n.testBit k)) := (hX.cell _).trans (arr_get n k (by omega))
      have cY : w0.cell? ⟨w.heap.size, k + 64, none⟩ = some (.bool ((n / 2 ^ 64).testBit k)) := by rw [Nat.testBit_div_two_pow]; exact (hX.cell _).trans (arr_get n _ (by omega))
      have f1 : n.testBit k = false → n % 2 ^ k = n % 2 ^ (k + 1) := left_skip
      have f2 : (n / 2 ^ 64).testBit k = false → n / 2 ^ 64 % 2 ^ k = n / 2 ^ 64 % 2 ^ (k + 1) := left_skip
      have o1 := or_next n k hlt
      have o2 := or_next (n / 2 ^ 64) k hlt
      rw [← wrap_pow hlt] at o1 o2
      have F1 := Lib.hid f1
      have F2 := Lib.hid f2
      have O1 := Lib.hid o1
      have O2 := Lib.hid o2
      clear f1 f2 o1 o2
      generalize hc1 : n.testBit k = c1 at *
      generalize hc2 : (n / 2 ^ 64).testBit k = c2 at *
      clear hc1 hc2
      generalize n % 2 ^ k = l0 at *
      generalize n / 2 ^ 64 % 2 ^ k = h0 at *
      cases c1 <;> cases c2
      · go_wp2_with fail
        go_round
        case rel => exact ⟨k + 1, by go_num, by rw [F2.out rfl], by rw [F1.out rfl], by omega⟩
        case measure => simp [intOf]; omega
      · go_wp2_with fail
        go_round
        case rel => exact ⟨k + 1, by go_num, by rw [O2.out rfl], by rw [F1.out rfl], by omega⟩
        case measure => simp [intOf]; omega
      · go_wp2_with fail
        go_round
        case rel => exact ⟨k + 1, by go_num, by rw [F2.out rfl], by rw [O1.out rfl], by omega⟩
        case measure => simp [intOf]; omega
      · go_wp2_with fail
        go_round
        case rel => exact ⟨k + 1, by go_num, by rw [O2.out rfl], by rw [O1.out rfl], by omega⟩
        case measure => simp [intOf]; omega
    · have hke : k = 64 := by omega
      subst hke
      have e1 : n / 2 ^ 64 % 2 ^ 64 = n / 2 ^ 64 := Nat.mod_eq_of_lt (by omega)
      rw [e1]
      go_wp2_with fail
      go_ret2
      exact ⟨rfl, hbw⟩
theorem mul_any (a b : Nat) (ha : a < 2 ^ 64) (hb : b < 2 ^ 64) (w : World) :
    Calls Try.prog 59 #[.int .u64 a, .int .u64 b] w fun e w' => e = .returned (.agg (arr (a * b))) ∧ Below w.heap.size w w' := by
  have hA := blk_of zeroBits ((Blk.new w 82 Try.zeroCells82 _ rfl).alloc (.cells Try.zeroCells82 82))
  have hB := blk_of zeroBits (Blk.new (w.alloc (.cells Try.zeroCells82 82)) 82 Try.zeroCells82 (w.heap.size + 1) (by rw [sz_alloc]))
  have hbw : Below w.heap.size w ((w.alloc (.cells Try.zeroCells82 82)).alloc (.cells Try.zeroCells82 82)) := below_alloc (below_alloc (Below.refl _ _) _) _
  have hO := Lib.hid (of_any a 0 ha (by decide) ((w.alloc (.cells Try.zeroCells82 82)).alloc (.cells Try.zeroCells82 82)))
  go_enter Try.func59, Try.ntmps59
  go_wp2_with (first | (go_at_call 62; refine hO.out.mono ?_; rintro e w1 ⟨rfl, hb1⟩; have hx := blk_of zeroBits (Blk.new w1 82 Try.zeroCells82 _ rfl); have hA1 := (hA.ext hb1).alloc (.cells Try.zeroCells82 82); have hB1 := (hB.ext hb1).alloc (.cells Try.zeroCells82 82); have hbw1 := (below_ext hbw hb1).alloc (below_ext hbw hb1).size (.cells Try.zeroCells82 82); have hlt1 : w.heap.size + 1 < w1.heap.size := by have h1 := hb1.size; rw [sz_alloc, sz_alloc] at h1; omega) | (refine wpList_store_bits (by rfl) _ _ (by rfl) _ _ _ (by rfl) (by rfl) hx ?_; intro w2 hx2 hU2) | fail)
  replace hA1 := hA1.upd (by omega) hU2
  replace hB1 := hB1.upd (by omega) hU2
  replace hbw1 := below_upd hbw1 (by omega) hU2
  have hsz := hx2.lt
  clear hA hB hx hU2
  generalize w1.heap.size = g1 at *
  go_loopw [7] (fun i wr => ∃ k : Nat, i = .int .i64 k ∧ k ≤ 64 ∧ Blk wr w.heap.size 82 (arr 0) ∧ Blk wr (w.heap.size + 1) 82 (arr (a * (b % 2 ^ k))) ∧ Blk wr g1 82 (arr a) ∧ Below w.heap.size w wr) (fun i _ => 64 - (intOf i).toNat)
  case atStart => exact ⟨0, rfl, by decide, hA1, by rw [Nat.pow_zero, Nat.mod_one]; exact hB1, hx2, hbw1⟩
  case round =>
    obtain ⟨k, rfl, hk, hA3, hB3, hx3, hb3⟩ := hrel
    by_cases hlt : k < 64
    · have hlt0 : (k : Int) < 64 := by omega
      have b1 := and_one b k hb
      have hm := mod_succ b k
      cases hbk : b.testBit k
      · rw [hbk] at b1 hm
        clear hbk
        replace hm := Lib.hid hm
        go_wp2_with fail
        go_roundw
        case rel => exact ⟨k + 1, by go_num, by omega, hA3, blk_of (by rw [hm.out]; simp) hB3, hx3, hb3⟩
        case measure => simp [intOf]; omega
      · rw [hbk] at b1 hm
        clear hbk
        have hq : a * 2 ^ k < 2 ^ 128 := by
          have h1 : 2 ^ k ≤ 2 ^ 64 := Nat.pow_le_pow_right (by decide) (by omega)
          have h2 : a * 2 ^ k ≤ a * 2 ^ 64 := Nat.mul_le_mul_left _ h1
          omega
        have hr : a * (b % 2 ^ k) + a * 2 ^ k < 2 ^ 128 := by
          have h1 : 2 ^ (k + 1) ≤ 2 ^ 64 := Nat.pow_le_pow_right (by decide) (by omega)
          have h2 : b % 2 ^ k < 2 ^ k := Nat.mod_lt _ (Nat.two_pow_pos _)
          have h3 : a * (b % 2 ^ k + 2 ^ k) ≤ a * 2 ^ 64 := Nat.mul_le_mul_left _ (by rw [Nat.pow_succ] at h1; omega)
          rw [Nat.mul_add] at h3
          omega
        have hl := Lib.hid (fun W => left_any a k (by omega) W)
        rw [Nat.mod_eq_of_lt hq] at hl
        have hd := Lib.hid (fun W => add_any (a * (b % 2 ^ k)) (a * 2 ^ k) (by omega) hq W)
        rw [Nat.mod_eq_of_lt hr] at hd
        have hst : Hid (a * (b % 2 ^ k) + a * 2 ^ k = a * (b % 2 ^ (k + 1))) := Lib.hid (by rw [hm]; simp [Nat.mul_add])
        clear hm hq hr
        generalize a * (b % 2 ^ k) + a * 2 ^ k = s at *
        generalize a * 2 ^ k = sh at *
        generalize a * (b % 2 ^ k) = pr at *
        go_wp2_with fail
        refine wp_region_open (C := fun W => Ext _ W) 6 #[true, true, true, true, true, true, false, false, false] (by kernel_rfl) (by kernel_rfl) (Below.refl _ _).drew ?_
        simp only [List.take_succ_cons, List.take_zero, List.drop_succ_cons, List.drop_zero]
        repeat (first | go_big_quiet_skip | (go_big_quiet_want; go_big_quiet_op; go_big_quiet_on) | (refine Bit.q_load_bits (by rfl) _ (by rfl) (fun _ h => h) _ _ (by rfl) (by assumption) ?_; (try simp only [Act.put, List.setIfInBounds_toArray, List.set_cons_zero, List.set_cons_succ])) | (refine q_load_fld (by rfl) _ _ (by rfl) (fun _ h => h) _ _ (by rfl) ?_ ?_ ?_ ?_ ?_ ?_; rotate_left; (next => (repeat (first | (with_reducible refine BlkAt.new _ _ _ _ ?_; ((try simp) <;> omega)) | (with_reducible assumption) | (with_reducible refine Blk.at (t := ?_) ?_; rotate_left; with_reducible assumption) | with_reducible refine BlkAt.alloc ?_ _ | with_reducible refine BlkAt.drew ?_ | (with_reducible refine BlkAt.setSame ?_ _ _) | (with_reducible refine BlkAt.setCell ?_ ?_ _; rotate_left; ((try simp) <;> omega)) | (with_reducible refine BlkAt.ext (w := ?_) ?_ ?_; rotate_left 2; (with_reducible assumption)) | fail))); rotate_left; (next => first | (simp only [go_sem]; rfl) | rfl); (next => kernel_rfl); (try simp only [Act.put, List.setIfInBounds_toArray, List.set_cons_zero, List.set_cons_succ])) | (refine q_rem (by rfl) _ _ _ _ (by rfl) _ _ (by rfl) (by rfl) (by kernel_rfl) (by kernel_rfl) ?_ ?_; (next => omega); (try simp only [Act.put, List.setIfInBounds_toArray, List.set_cons_zero, List.set_cons_succ])) | (refine q_step_ex (by rfl) ?_; apply Exists.intro; refine ⟨fun W hW => ?_, ?_⟩; (next => (have hWc := fun (b o : Nat) (h : b < _) => (Ext.out hW).cell (p := ⟨b, o, none⟩) h); (try have hLK := HLK.out W (Ext.out hW)); go_simp; first | rfl | (go_at_call 64; refine (hl.out _).mono ?_; rintro e w'' ⟨rfl, hb2⟩; exact ⟨rfl, below_ext hW hb2⟩) | (go_at_call 63; refine (hd.out _).mono ?_; rintro e w'' ⟨rfl, hb2⟩; exact ⟨rfl, below_ext hW hb2⟩) | fail); (try simp only [Act.put, List.setIfInBounds_toArray, List.set_cons_zero, List.set_cons_succ])) | fail)
        refine wpQuiet_nil ?_
        intro w4 hb4
        refine wpAny_take (i := 6) (oi := ⟨_, _, _, _, _, _⟩) (v := .agg (arr s)) rfl (by kernel_rfl) (by kernel_rfl) (by kernel_rfl) (fun _ _ _ h => h) (yields_extract _ _ rfl _ _ (by rfl) (by rfl) (by rfl)) ?_
        refine wpAny_take (i := 7) (oi := ⟨_, _, _, _, _, _⟩) (v := .bool !decide (2 ^ 128 ≤ s)) rfl (by kernel_rfl) (by kernel_rfl) (by kernel_rfl) (fun _ _ _ h => h) (yields_extract _ _ rfl _ _ (by rfl) (by rfl) (by rfl)) ?_
        refine wpAny_all (rs := [8]) (by kernel_rfl) (by decide) ?_
        intro j hj
        simp only [List.mem_cons, List.mem_nil_iff, or_false, List.not_mem_nil] at hj
        subst hj
        refine op_at rfl (by rfl) ?_
        refine wp_store_bits _ _ (by rfl) _ _ _ (by rfl) (by rfl) (hB3.ext hb4) ?_
        intro w5 hB5 hU5
        refine wpAny_done (by kernel_rfl) ?_ _
        simp only [Act.put, List.setIfInBounds_toArray, List.set_cons_zero, List.set_cons_succ]
        go_wp2_with fail
        go_roundw
        case rel => exact ⟨k + 1, by go_num, by omega, (hA3.ext hb4).upd (by omega) hU5, hst.out ▸ hB5, (hx3.ext hb4).upd (by omega) hU5, below_upd (below_ext hb3 hb4) (by omega) hU5⟩
        case measure => simp [intOf]; omega
    · have hke : k = 64 := by omega
      subst hke
      rw [Nat.mod_eq_of_lt hb] at hB3
      go_wp2_with (first | (refine wpList_load_bits (by rfl) _ (by rfl) _ _ (by rfl) hB3 ?_) | (refine wpList_store_bits (by rfl) _ _ (by rfl) _ _ _ (by rfl) (by rfl) hA3 ?_; intro w5 hA5 hU5) | fail)
      refine bodyPost_ret (v := .agg (arr (a * b))) (results_bits rfl _ _ _ _ (by rfl) hA5) rfl ⟨rfl, below_upd hb3 (by omega) hU5⟩
end Bit
end Go.Proofs.Ytifnofbgnfnpmaa
