/- This text proves what slices.Delete makes of an own row of levels, one level taken out: the contract of that instance. It has no conditions but those that it states. -/
import Derived.Test.YtgaialcbpglhaaaLadR
namespace Go.Proofs.Ytgaialcbpglhaaa
set_option linter.unusedVariables false
open Go.RowKit
namespace Lad
set_option maxHeartbeats 2000000
set_option maxRecDepth 10000
theorem cut_head (b len cap k : Nat) (hk : k ≤ cap) (hc : 0 < cap) (W : World) : (Instr.sliceAt 180 (.slice (some ⟨b, 0, none⟩) len cap) none (some (.int .i64 k)) none).run Try.prog W = .ok (.slice (some ⟨b, 0, none⟩) k cap) W := by
  have ht : Try.prog.underlying 180 = some (.slice (Try.prog.elem 180)) := by kernel_rfl
  have he : Try.prog.elem 180 = 157 := by kernel_rfl
  obtain ⟨i, hi, hz, hs, hby⟩ := info_lvl
  rw [run_sliceAt_slice (h := ht), run_slice_h (ht := ht) (kh := .i64) (h := (k : Int)) (cap := cap) (h0 := by omega) (h2 := by omega), he]
  have h0 : ¬ cap = 0 := by omega
  simp [sizeOf, typeInfo, hi, sliced, h0, addr_add]
theorem cut_tail' (b len cap k : Nat) (x : Int) (hx : x = k) (hk : k ≤ len) : ∃ a : Addr, (∀ W, (Instr.sliceAt 180 (.slice (some ⟨b, 0, none⟩) len cap) (some (.int .i64 x)) none none).run Try.prog W = .ok (.slice (some a) (len - k) (cap - k)) W) ∧ (¬ (cap = k) → a = ⟨b, k * 4, none⟩) := by
  by_cases hc : cap = k
  · subst hx
    have ht : Try.prog.underlying 180 = some (.slice (Try.prog.elem 180)) := by kernel_rfl
    have he : Try.prog.elem 180 = 157 := by kernel_rfl
    obtain ⟨i, hi, hz, hs, hby⟩ := info_lvl
    refine ⟨⟨b, 0, none⟩, fun W => ?_, fun h => absurd hc h⟩
    rw [run_sliceAt_slice (h := ht), run_slice_l (ht := ht) (kl := .i64) (l := (k : Int)) (len := len) (h0 := by omega) (h1 := by omega), he]
    simp only [sizeOf, typeInfo, Sem.run_bind]
    simp [hi, sliced, hs, hc]
  · refine ⟨⟨b, k * 4, none⟩, fun W => ?_, fun _ => rfl⟩
    have := cut_tail b 0 len cap k x hx hk hc W
    rw [Nat.zero_add] at this
    exact this
/-- All but one block is as it was. -/
structure DelW (g : Nat) (w w' : World) : Prop where
  os : w'.os = w.os
  tape : w'.tape = w.tape
  output : w'.output = w.output
  size : w.heap.size ≤ w'.heap.size
  block : ∀ k, k < w.heap.size → k ≠ g → w'.heap[k]? = w.heap[k]?
section
variable {w : World} {B n : Nat}
theorem delete_any {g i k cap : Nat} {A X T : List Value} (hown : w.ownsRow B 157 4 (.slice (some ⟨g, 0, none⟩) n cap) n (A ++ X ++ T)) (hk : Hid (n = i + 1 + k)) (hin : i < n) (hA : A.length = i * 4) (hX : X.length = 4) (hT : T.length = k * 4) (h1 : ∀ u ∈ T, u.oneCell' = true) (hn : n ≤ 1000) :
    Calls Try.prog 150 #[.slice (some ⟨g, 0, none⟩) n cap, .int .i64 i, .int .i64 ((i : Int) + 1)] w fun e w' => e = .returned (.slice (some ⟨g, 0, none⟩) (n - 1) cap) ∧ w'.ownsRow B 157 4 (.slice (some ⟨g, 0, none⟩) (n - 1) cap) (n - 1) (A ++ T) ∧ DelW g w w' := by
  obtain ⟨ti, hi, hz, hs, hb⟩ := info_lvl
  have hkn := hk.out
  obtain ⟨hxs, h0 | ⟨g', cap', cur, he, hbg, hg, hnc, hcm, hcs, ht⟩⟩ := hown
  · cases h0.1
  injection he with he1 _ he3
  injection he1 with he1
  injection he1 with he1
  subst he1 he3
  have hgb : Blk w g 157 cur := hg
  obtain ⟨Z, hZ⟩ : ∃ Z, Z = cur.toList.drop (n * 4) := ⟨_, rfl⟩
  have hcur : cur.toList = A ++ X ++ T ++ Z := by rw [hZ, ← ht, List.take_append_drop]
  have hZl : Z.length = (cap - n) * 4 := by rw [hZ, List.length_drop, Array.length_toList, hcs]; omega
  clear hZ
  obtain ⟨a2, hs2, ha2⟩ := cut_tail' g n cap (i + 1) ((i : Int) + 1) (by omega) (by omega)
  have hs3 := cut_head g n cap i (by omega) (by omega)
  obtain ⟨L1, hL1⟩ : ∃ L1, L1 = cur.toList.take (i * ti.size) ++ T ++ cur.toList.drop (i * ti.size + T.length) := ⟨_, rfl⟩
  have hL1e : L1 = A ++ T ++ (X ++ T ++ Z).drop T.length := by
    rw [hL1, hs, hcur, List.append_assoc A X T, List.append_assoc A (X ++ T) Z, List.take_left' hA, List.drop_append, hA, List.drop_eq_nil_of_le (by omega), List.nil_append]
    congr 2
    omega
  have hl1 : L1.length = cap * 4 := by rw [hL1e]; simp [hA, hT, hX, hZl]; omega
  have hr1 : ∀ W3, Below w.heap.size w W3 → ∀ ty, (Builtin.append_ #[180, 180] ty #[.slice (some ⟨g, 0, none⟩) i cap, .slice (some a2) (n - (i + 1)) (cap - (i + 1))]).run Try.prog W3 = .ok (.slice (some ⟨g, 0, none⟩) (n - 1) cap) (W3.setRow g L1.toArray) := fun W3 h3 ty => by
    have := run_append_room (P := Try.prog) W3 180 ty 157 ti Try.underlying180 hi g i cap cur (hgb.ext h3) a2 (n - (i + 1)) (cap - (i + 1)) T (by rw [hs, hT]; congr 1; omega) (fun j u hu => by
      have hj := (List.getElem?_eq_some_iff.1 hu).1
      rw [ha2 (by omega), addr_add, (hgb.ext h3).cell, ← Array.getElem?_toList, hcur]
      rw [List.getElem?_append_left (by simp [hA, hX, hT]; omega), List.getElem?_append_right (by simp [hA, hX]; omega)]
      simpa [hA, hX, show (i + 1) * 4 + j - (i * 4 + 4) = j by omega] using hu) h1 (by omega) (by rw [hs, hcs, hT]; omega)
    rw [← hL1, show i + (n - (i + 1)) = n - 1 by omega] at this
    exact this
  have hB3 : ∀ W3, Below w.heap.size w W3 → Blk (W3.setRow g L1.toArray) g 157 L1.toArray := fun W3 h3 => setRow_heap W3 _ _ _ _ _ (hgb.ext h3)
  have hU3 : ∀ W3, Upd g W3 (W3.setRow g L1.toArray) := fun W3 => ⟨rfl, rfl, rfl, by simp, fun q hq => setRow_other W3 _ q _ hq⟩
  have hzl : (Builtin.zeroCells (Value.agg #[.int .i64 0, .int .i64 0, .int .i64 0, .int .i64 0]).cells (n - (n - 1))).toList.length = 4 := by
    rw [Array.length_toList, size_zeroCells, show n - (n - 1) = 1 by omega]; rfl
  have hz1 : ∀ v ∈ (Builtin.zeroCells (Value.agg #[.int .i64 0, .int .i64 0, .int .i64 0, .int .i64 0]).cells (n - (n - 1))).toList, v.oneCell' = true := by
    rw [show n - (n - 1) = 1 by omega]; decide +kernel
  obtain ⟨L2, hL2⟩ : ∃ L2, L2 = L1.take ((n - 1) * 4) ++ (Builtin.zeroCells (Value.agg #[.int .i64 0, .int .i64 0, .int .i64 0, .int .i64 0]).cells (n - (n - 1))).toList ++ L1.drop ((n - 1) * 4 + (Builtin.zeroCells (Value.agg #[.int .i64 0, .int .i64 0, .int .i64 0, .int .i64 0]).cells (n - (n - 1))).toList.length) := ⟨_, rfl⟩
  have hr2 : ∀ W3, Below w.heap.size w W3 → ∀ cc ty, (Builtin.clear_ #[180] ty #[.slice (some ⟨g, (n - 1) * 4, none⟩) (n - (n - 1)) cc]).run Try.prog (W3.setRow g L1.toArray) = .ok (.tuple #[]) ((W3.setRow g L1.toArray).setRow g L2.toArray) := fun W3 h3 cc ty => by
    have := run_clear_rows (P := Try.prog) (W3.setRow g L1.toArray) 180 157 ty _ Try.underlying180 zero_lvl g ((n - 1) * 4) (n - (n - 1)) cc (by omega) L1.toArray 157 (hB3 W3 h3) (by rw [hzl]; simp [hl1]; omega) hz1
    rw [List.toList_toArray, ← hL2] at this
    exact this
  have hl2 : L2.length = cap * 4 := by rw [hL2, hzl]; simp only [List.length_append, hzl, List.length_take, List.length_drop, hl1]; omega
  have hA1 : (L1.take ((n - 1) * 4)) = A ++ T := by rw [hL1e]; exact List.take_left' (by simp [hA, hT]; omega)
  have ht2 : L2.take ((n - 1) * 4) = A ++ T := by
    rw [hL2, hA1, List.append_assoc]
    exact List.take_left' (by simp [hA, hT]; omega)
  have hP : Hid (∀ W3, Below w.heap.size w W3 → ((W3.setRow g L1.toArray).setRow g L2.toArray).ownsRow B 157 4 (.slice (some ⟨g, 0, none⟩) (n - 1) cap) (n - 1) (A ++ T) ∧ DelW g w ((W3.setRow g L1.toArray).setRow g L2.toArray)) := Lib.hid (fun W3 h3 => by
    have hU4 : Upd g (W3.setRow g L1.toArray) ((W3.setRow g L1.toArray).setRow g L2.toArray) := ⟨rfl, rfl, rfl, by simp, fun q hq => setRow_other _ _ q _ hq⟩
    have hU := (hU3 W3).trans hU4
    exact ⟨⟨by simp [hA, hT]; omega, .inr ⟨g, cap, _, rfl, hbg, setRow_heap _ _ _ _ _ _ (hB3 W3 h3), by omega, hcm, by rw [List.size_toArray, hl2], by rw [List.toList_toArray]; exact ht2⟩⟩, ⟨hU.os.trans h3.os, hU.tape.trans h3.tape, hU.output.trans h3.output, Nat.le_trans h3.size (Nat.le_of_eq hU.size.symm), fun q hq hne' => (hU.block q hne').trans (h3.block q hq)⟩⟩)
  replace hr2 := Lib.hid hr2
  have e1 : ¬ ((i : Int) = (i : Int) + 1) := by omega
  have e2 : (i : Int) ≤ (n : Int) := by omega
  have e3 : (i : Int) + 1 ≤ (n : Int) := by omega
  have e4 : (n : Int) ≤ (cap : Int) := by omega
  have e7 : (cap : Int) ≤ 9223372036854775807 := by unfold maxLen at hcm; omega
  have hsum : IntKind.i64.wrap ((i : Int) + 1) = (i : Int) + 1 := IntWalk.i64_in _ (by omega)
  have hs1 := hs2
  replace hr1 := Lib.hid hr1
  clear hkn hcur hL1 hL1e hl1 hZl hcs ht hgb hg hcm hxs h1 hi hz hb hs ha2 hL2 hl2 hA1 ht2 hzl hz1 hB3 hU3
  go_enter Try.func150, Try.ntmps150
  go_wp2_with fail
  refine wp_region_below_tail 6 (by kernel_rfl) (by kernel_rfl) ?_
  simp only [List.take_succ_cons, List.take_zero, List.drop_succ_cons, List.drop_zero]
  repeat (first | go_big_quiet_skip | (go_big_quiet_want; go_big_quiet_op; go_big_quiet_on) | ((first | (refine q_slice_from (by rfl) _ _ _ (by rfl) _ _ (by rfl) (by rfl) _ hs1 ?_) | (refine q_slice_from (by rfl) _ _ _ (by rfl) _ _ (by rfl) (by rfl) _ hs2 ?_)); (try simp only [Act.put, List.setIfInBounds_toArray, List.set_cons_zero, List.set_cons_succ])) | (refine q_slice_to (by rfl) _ _ _ (by rfl) _ _ (by rfl) (by rfl) _ hs3 ?_; (try simp only [Act.put, List.setIfInBounds_toArray, List.set_cons_zero, List.set_cons_succ])) | (refine q_load_fld (by rfl) _ _ (by rfl) (fun _ h => h) _ _ (by rfl) ?_ ?_ ?_ ?_ ?_ ?_; rotate_left; (next => (repeat (first | (with_reducible refine BlkAt.new _ _ _ _ ?_; ((try simp) <;> omega)) | (with_reducible assumption) | (with_reducible refine Blk.at (t := ?_) ?_; rotate_left; with_reducible assumption) | with_reducible refine BlkAt.alloc ?_ _ | with_reducible refine BlkAt.drew ?_ | (with_reducible refine BlkAt.setSame ?_ _ _) | (with_reducible refine BlkAt.setCell ?_ ?_ _; rotate_left; ((try simp) <;> omega)) | (with_reducible refine BlkAt.ext (w := ?_) ?_ ?_; rotate_left 2; (with_reducible assumption)) | fail))); rotate_left; (next => first | (simp only [go_sem]; rfl) | rfl); (next => kernel_rfl); (try simp only [Act.put, List.setIfInBounds_toArray, List.set_cons_zero, List.set_cons_succ])) | (refine q_rem (by rfl) _ _ _ _ (by rfl) _ _ (by rfl) (by rfl) (by kernel_rfl) (by kernel_rfl) ?_ ?_; (next => omega); (try simp only [Act.put, List.setIfInBounds_toArray, List.set_cons_zero, List.set_cons_succ])) | (refine q_step_ex (by rfl) ?_; apply Exists.intro; refine ⟨fun W hW => ?_, ?_⟩; (next => (have hWc := fun (b o : Nat) (h : b < _) => (Ext.out hW).cell (p := ⟨b, o, none⟩) h); (try have hLK := HLK.out W (Ext.out hW)); go_simp; first | rfl | fail | fail); (try simp only [Act.put, List.setIfInBounds_toArray, List.set_cons_zero, List.set_cons_succ])) | fail)
  refine wpQuiet_nil ?_
  intro w3 hb3
  go_wp2_with (first | (at_builtin; refine Lib.wpList_append_run _ rfl _ _ _ _ rfl _ _ rfl rfl _ _ (hr1.out _ hb3 _) ?_) | ((with_reducible show wpList _ _ _ (⟨_, .call ⟨.builtin .clear, _, _⟩, _, _, _, _⟩ :: _) _ _); refine wpList_clear_run _ (by rfl) _ _ rfl _ rfl _ _ (hr2.out _ hb3 _) ?_) | fail)
  go_ret
  obtain ⟨p1, p2⟩ := hP.out w3 hb3
  exact ⟨rfl, p1, p2⟩
end
end Lad
end Go.Proofs.Ytgaialcbpglhaaa
