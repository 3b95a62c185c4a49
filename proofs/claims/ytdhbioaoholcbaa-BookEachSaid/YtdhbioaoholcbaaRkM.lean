/- This text proves the contract of damperref13.Remove. It has no conditions but those that it states. -/
import Derived.Test.YtdhbioaoholcbaaRkA
import Derived.Test.YtdhbioaoholcbaaBkRm
namespace Go.Proofs.Ytdhbioaoholcbaa
set_option linter.unusedVariables false
open Go.RowKit
namespace Rk
set_option maxHeartbeats 4000000
set_option maxRecDepth 10000
open Are (ord0)
open Bk (fndI rmI rm_none)
theorem cut_head (A : Option Addr) (len cap k : Nat) (hk : k ≤ cap) (hn : A = none → cap = 0) : ∃ (A' : Option Addr), (A' = none → cap = 0) ∧ (∀ (W : World) (l m : List Ord), Rd W 7 A ((l ++ m).map Ord.cells) → Rd W 7 A' (l.map Ord.cells)) ∧ ∀ W, (Instr.sliceAt 22 (.slice A len cap) none (some (.int .i64 k)) none).run Try.prog W = .ok (.slice A' k cap) W := by
  have ht : Try.prog.underlying 22 = some (.slice (Try.prog.elem 22)) := by kernel_rfl
  have he : Try.prog.elem 22 = 30 := by kernel_rfl
  obtain ⟨i, hi, hz, hs, hby⟩ := info_parts (P := Try.prog) (e := 30) (z := .agg #[.int .i64 0, .int .i64 0, .int .i64 0, .int .i64 0, .int .i64 0, .int .i64 0, .int .i64 0]) (size := 7) (bytes := 56) (by kernel_rfl)
  refine ⟨A, hn, fun W l m h hne => ?_, fun W => ?_⟩
  · obtain ⟨b1, o1, e1, hc⟩ := h (by intro h0; apply hne; simp at h0; simp [h0.1])
    refine ⟨b1, o1, e1, fun i j u hu => hc i j u ?_⟩
    by_cases hi : i < l.length
    · rw [List.map_append, List.getD_eq_getElem?_getD, List.getElem?_append_left (by simpa using hi), ← List.getD_eq_getElem?_getD]
      exact hu
    · rw [List.getD_eq_getElem?_getD, List.getElem?_eq_none (l := l.map Ord.cells) (i := i) (by simpa using hi)] at hu
      simp at hu
  · rw [run_sliceAt_slice (h := ht), run_slice_h (ht := ht) (kh := .i64) (h := (k : Int)) (cap := cap) (h0 := by omega) (h2 := by omega), he]
    simp only [sizeOf, typeInfo, Sem.run_bind]
    simp [hi, sliced]
    intro _
    cases A with
    | none => rfl
    | some a =>
      obtain ⟨b, o, x⟩ := a
      simp [Addr.add]
theorem cut_tail (A : Option Addr) (len cap k : Nat) (hk : k ≤ len) (hf : len ≤ cap) (hn : A = none → cap = 0) : ∃ (A' : Option Addr), (A' = none → cap - k = 0) ∧ (∀ (W : World) (l m : List Ord), l.length = k → (l ++ m).length = len → Rd W 7 A ((l ++ m).map Ord.cells) → Rd W 7 A' (m.map Ord.cells)) ∧ ∀ W, (Instr.sliceAt 22 (.slice A len cap) (some (.int .i64 k)) none none).run Try.prog W = .ok (.slice A' (len - k) (cap - k)) W := by
  have ht : Try.prog.underlying 22 = some (.slice (Try.prog.elem 22)) := by kernel_rfl
  have he : Try.prog.elem 22 = 30 := by kernel_rfl
  obtain ⟨i, hi, hz, hs, hby⟩ := info_parts (P := Try.prog) (e := 30) (z := .agg #[.int .i64 0, .int .i64 0, .int .i64 0, .int .i64 0, .int .i64 0, .int .i64 0, .int .i64 0]) (size := 7) (bytes := 56) (by kernel_rfl)
  refine ⟨if cap = k then A else A.map (·.add (k * 7)), ?_, fun W l m hl hlm h hne => ?_, fun W => ?_⟩
  · intro h
    by_cases e : cap = k
    · omega
    · rw [if_neg e] at h
      have := hn (by simpa using h)
      omega
  · by_cases e : cap = k
    · have h0 : m = [] := by
        apply List.eq_nil_of_length_eq_zero
        simp at hlm
        omega
      subst h0
      exact absurd rfl hne
    · rw [if_neg e]
      obtain ⟨b1, o1, rfl, hc⟩ := h (by intro h0; apply hne; simp at h0; simp [h0.2])
      refine ⟨b1, o1 + k * 7, by simp [Addr.add], fun i j u hu => ?_⟩
      have h1 := hc (k + i) j u (by
        rw [List.map_append, List.getD_eq_getElem?_getD, List.getElem?_append_right (by simp; omega)]
        rw [List.getD_eq_getElem?_getD] at hu
        simpa [hl] using hu)
      rw [← h1]
      congr 2
      omega
  · rw [run_sliceAt_slice (h := ht), run_slice_l (ht := ht) (kl := .i64) (l := (k : Int)) (len := len) (h0 := by omega) (h1 := by omega), he]
    simp only [sizeOf, typeInfo, Sem.run_bind]
    simp [hi, sliced, hs]
def SR (rb : Nat) (A : Option Addr) (len cap : Nat) (W : World) : Prop := W.cell? ⟨rb, 2, none⟩ = some (.slice A len cap) ∧ True
theorem rm_idx {id : Int} : ∀ {L : List Ord}, (L.map (·.id)).Nodup → idxI id L < L.length → rmI id L = L.take (idxI id L) ++ L.drop (idxI id L + 1)
  | [], _, h => by simp at h
  | x :: L, hn, h => by
    rw [List.map_cons, List.nodup_cons] at hn
    have ih := rm_idx (id := id) hn.2
    unfold rmI idxI at *
    rw [List.findIdx_cons] at *
    rw [List.filter_cons]
    cases hx : decide (x.id = id) with
    | true =>
      have hxe := of_decide_eq_true hx
      have : L.filter (fun o => !decide (o.id = id)) = L := by
        rw [List.filter_eq_self]
        intro y hy
        have : y.id ≠ id := fun e => hn.1 (by rw [hxe, ← e]; exact List.mem_map_of_mem hy)
        simp [this]
      simp [this]
    | false =>
      rw [hx] at h
      simp only [List.length_cons] at h
      have h2 : L.findIdx (fun o => decide (o.id = id)) < L.length := by simpa using h
      simp [ih h2]
section
variable {w : World} {rb N most : Nat} {L : List Ord} {A : Option Addr} {cap : Nat}
theorem rremove_yes (q : Rb w rb (N : Int) (most : Int) L A cap) {id : Int} (hi : idxI id L < L.length) : Calls Try.prog 46 #[.pointer (some ⟨rb, 0, none⟩), .int .i64 id] w fun e w' => e = .returned (.tuple #[.agg (L[idxI id L]).arr, .int .i64 0]) ∧ (∃ A' cap', Rb w' rb (N : Int) (most : Int) (L.take (idxI id L) ++ L.drop (idxI id L + 1)) A' cap' ∧ ∀ a, A' = some a → w.heap.size ≤ a.block) ∧ ButL [rb] w.heap.size w w' := by
  have hrb0 := q.hd.lt
  have hb0 : Below w.heap.size w (w.alloc (.cells #[.int .i64 0, .int .i64 0, .int .i64 0, .int .i64 0, .int .i64 0, .int .i64 0, .int .i64 0] 30)) := by (repeat (first | with_reducible exact Below.refl _ _ | (with_reducible assumption) | (with_reducible refine below_alloc ?_ _) | (with_reducible refine below_ext (w1 := ?_) ?_ ?_; rotate_left 2; (with_reducible assumption)) | (with_reducible refine Below.setCell ?_ ?_ _; rotate_left; ((try simp) <;> omega)) | (with_reducible refine Below.drew ?_) | (with_reducible refine below_drewN ?_ _) | fail))
  have hX0 : Blk (w.alloc (.cells #[.int .i64 0, .int .i64 0, .int .i64 0, .int .i64 0, .int .i64 0, .int .i64 0, .int .i64 0] 30)) w.heap.size 30 ord0.arr := Blk.new _ _ _ _ rfl
  have q0 := q.ext hb0
  have HF := rfind_any q0 id
  unfold plcI at HF
  rw [if_pos hi] at HF
  have HF := Lib.hid HF
  generalize hw0 : w.alloc (.cells #[.int .i64 0, .int .i64 0, .int .i64 0, .int .i64 0, .int .i64 0, .int .i64 0, .int .i64 0] 30) = w0 at *
  have HW0 := Lib.hid hw0
  clear hw0
  have c2 : w0.cell? ⟨rb, 2, none⟩ = some (.slice A L.length cap) := q0.hd.cell 2
  have hrl := q0.hd.lt
  have hlen := q0.len
  obtain ⟨ab, ao, hA, hr⟩ := q0.at hi
  have hal := cell_lt (hr 0 _ rfl)
  obtain ⟨k, hk⟩ : ∃ k, k = idxI id L := ⟨_, rfl⟩
  obtain ⟨x, hx⟩ : ∃ x, x = L[idxI id L] := ⟨_, rfl⟩
  rw [← hx] at hr ⊢
  rw [← hk] at hr HF hi ⊢
  clear hx hk
  have e1 : (k : Int) < (L.length : Int) := by omega
  have hN0 : Blk (w0.alloc (.cells #[.int .i64 0, .int .i64 0, .int .i64 0, .int .i64 0, .int .i64 0, .int .i64 0, .int .i64 0] 30)) w0.heap.size 30 ord0.arr := Blk.new _ _ _ _ rfl
  have hb01 : Below w0.heap.size w0 (w0.alloc (.cells #[.int .i64 0, .int .i64 0, .int .i64 0, .int .i64 0, .int .i64 0, .int .i64 0, .int .i64 0] 30)) := by (repeat (first | with_reducible exact Below.refl _ _ | (with_reducible assumption) | (with_reducible refine below_alloc ?_ _) | (with_reducible refine below_ext (w1 := ?_) ?_ ?_; rotate_left 2; (with_reducible assumption)) | (with_reducible refine Below.setCell ?_ ?_ _; rotate_left; ((try simp) <;> omega)) | (with_reducible refine Below.drew ?_) | (with_reducible refine below_drewN ?_ _) | fail))
  have hzb := hX0.lt
  have HA := Lib.hid hA
  subst hA
  go_enter Try.func46, Try.ntmps46
  go_wp2_with fail
  rw [HW0.out]
  go_wp2_with (first | (go_at_call 72; refine HF.out.mono ?_; rintro e w1 ⟨rfl, rfl⟩) | (refine wpList_load_mid (by rfl) _ _ (by rfl) _ _ (by rfl) _ _ hr Try.underlying30 rfl (by kernel_rfl) ?_) | ((with_reducible show wpList _ _ _ (⟨_, .store 30 _ _, _, _, _, _⟩ :: _) _ _); refine wpList_store_blk (by rfl) 30 _ _ (by rfl) _ _ (by rfl) (by rfl) _ _ hN0 (by kernel_rfl) (by rfl) ?_ ?_; (next => first | (simp [Value.oneCell']; done) | (simp [Value.oneCell', Edt.cells]; done) | exact Are.ordArr_one _); intro w4 hX4 hU4) | fail)
  have hb04 : Below w0.heap.size w0 w4 := below_upd hb01 (Nat.le_refl _) hU4
  have hZ4 := hX0.ext hb04
  have q4 := q0.ext hb04
  have hbw4 := below_ext hb0 hb04
  clear c2 hr hN0 hb01 hU4 hX0 hb04 q0 hb0 HF HW0
  generalize hzb0 : w0.heap.size = xb at *
  generalize hob : w.heap.size = zb at *
  refine wp_region_T (S := SR rb (some ⟨ab, ao, none⟩) L.length cap) 19 (by kernel_rfl) ?_
  have hbd : Below w4.heap.size w4 w4.drew := (Below.refl _ _).drew
  have qd := q4.ext hbd
  have hZd := hZ4.ext hbd
  have hXd := hX4.ext hbd
  have hbwd : Below w.heap.size w w4.drew := by rw [hob]; exact hbw4.trans (hbd.mono (by have := hbw4.size; omega))
  generalize w4.drew = w1 at qd hZd hXd hbwd ⊢
  clear hbd hbw4 q4 hZ4 hX4
  have HS : Hid (∀ W, Below w1.heap.size w1 W → SR rb (some ⟨ab, ao, none⟩) L.length cap W) := Lib.hid (fun W hW => ⟨(qd.ext hW).hd.cell 2, trivial⟩)
  have hrd := qd.rd
  have hnil := qd.nil
  have hfit := qd.fit
  have hd0 := qd.hd
  obtain ⟨A1, hn1, hr1, hs1'⟩ := cut_head (some ⟨ab, ao, none⟩) L.length cap k (by omega) hnil
  obtain ⟨A2, hn2, hr2, hs2'⟩ := cut_tail (some ⟨ab, ao, none⟩) L.length cap (k + 1) (by omega) hfit hnil
  have hs1 := Lib.hid hs1'
  have hs2 := Lib.hid hs2'
  push_cast at hs2
  have hR1 : Rd w1 7 A1 ((L.take k).map Ord.cells) := hr1 w1 (L.take k) (L.drop k) (by rw [List.take_append_drop]; exact hrd)
  have hR2 : Rd w1 7 A2 ((L.drop (k + 1)).map Ord.cells) := hr2 w1 (L.take (k + 1)) (L.drop (k + 1)) (by simp; omega) (by simp) (by rw [List.take_append_drop]; exact hrd)
  have hl1 : (L.take k).length = k := by simp; omega
  have hl2 : (L.drop (k + 1)).length = L.length - (k + 1) := by simp
  generalize hL1 : L.take k = L1 at *
  generalize hL2 : L.drop (k + 1) = L2 at *
  have HL1 := Lib.hid hL1
  have HL2 := Lib.hid hL2
  clear hL1 hL2
  have hzd1 := hZd.lt
  have hrl1 := hd0.lt
  have hS := HS.out _ (Below.refl _ _)
  clear hs1' hs2' hr1 hr2 hrd qd q
  have hk' := hi
  clear hi
  generalize L.length = n at *
  (refine T_take (i := 0) rfl (by kernel_rfl) (fun _ _ _ _ h => h) hS ?_; apply Exists.intro; refine ⟨.inl ⟨by rfl, fun W hW => ?_⟩, ?_⟩; (next => (obtain ⟨hs1, hs2⟩ := hW; go_simp; first | done | rfl)); simp only [Act.put, List.setIfInBounds_toArray, List.set_cons_zero, List.set_cons_succ])
  (refine T_take (i := 2) rfl (by kernel_rfl) (fun _ _ _ _ h => h) hS ?_; apply Exists.intro; refine ⟨.inl ⟨by rfl, fun W hW => ?_⟩, ?_⟩; (next => (obtain ⟨hs1, hs2⟩ := hW; go_simp; first | done | rfl)); simp only [Act.put, List.setIfInBounds_toArray, List.set_cons_zero, List.set_cons_succ])
  (refine T_take (i := 3) rfl (by kernel_rfl) (fun _ _ _ _ h => h) hS ?_; apply Exists.intro; refine ⟨.inl ⟨by rfl, fun W hW => ?_⟩, ?_⟩; (next => (obtain ⟨hs1, hs2⟩ := hW; go_simp; first | done | rfl)); simp only [Act.put, List.setIfInBounds_toArray, List.set_cons_zero, List.set_cons_succ])
  (refine T_take (i := 4) rfl (by kernel_rfl) (fun _ _ _ _ h => h) hS ?_; apply Exists.intro; refine ⟨.inl ⟨by rfl, fun W hW => ?_⟩, ?_⟩; (next => (obtain ⟨hs1, hs2⟩ := hW; go_simp; first | done | rfl)); simp only [Act.put, List.setIfInBounds_toArray, List.set_cons_zero, List.set_cons_succ])
  (refine T_take (i := 5) rfl (by kernel_rfl) (fun _ _ _ _ h => h) hS ?_; apply Exists.intro; refine ⟨.inl ⟨by rfl, fun W hW => ?_⟩, ?_⟩; (next => (obtain ⟨hs1, hs2⟩ := hW; go_simp; first | done | rfl)); simp only [Act.put, List.setIfInBounds_toArray, List.set_cons_zero, List.set_cons_succ])
  (refine T_take (i := 6) rfl (by kernel_rfl) (fun _ _ _ _ h => h) hS ?_; apply Exists.intro; refine ⟨.inl ⟨by rfl, fun W hW => ?_⟩, ?_⟩; (next => (obtain ⟨hs1, hs2⟩ := hW; go_simp; first | done | rfl)); simp only [Act.put, List.setIfInBounds_toArray, List.set_cons_zero, List.set_cons_succ])
  (refine T_take (i := 9) rfl (by kernel_rfl) (fun _ _ _ _ h => h) hS ?_; apply Exists.intro; refine ⟨.inl ⟨by rfl, fun W hW => ?_⟩, ?_⟩; (next => (obtain ⟨hs1, hs2⟩ := hW; go_simp; first | done | rfl)); simp only [Act.put, List.setIfInBounds_toArray, List.set_cons_zero, List.set_cons_succ])
  (refine T_take (i := 10) rfl (by kernel_rfl) (fun _ _ _ _ h => h) hS ?_; apply Exists.intro; refine ⟨.inl ⟨by rfl, fun W hW => ?_⟩, ?_⟩; (next => (obtain ⟨hs1, hs2⟩ := hW; go_simp; first | done | rfl)); simp only [Act.put, List.setIfInBounds_toArray, List.set_cons_zero, List.set_cons_succ])
  (refine T_take (i := 11) rfl (by kernel_rfl) (fun _ _ _ _ h => h) hS ?_; apply Exists.intro; refine ⟨.inl ⟨by rfl, fun W hW => ?_⟩, ?_⟩; (next => (obtain ⟨hs1, hs2⟩ := hW; go_simp; first | done | rfl)); simp only [Act.put, List.setIfInBounds_toArray, List.set_cons_zero, List.set_cons_succ])
  (refine T_take (i := 12) rfl (by kernel_rfl) (fun _ _ _ _ h => h) hS ?_; apply Exists.intro; refine ⟨.inl ⟨by rfl, fun W hW => ?_⟩, ?_⟩; (next => (obtain ⟨hs1, hs2⟩ := hW; go_simp; first | done | rfl)); simp only [Act.put, List.setIfInBounds_toArray, List.set_cons_zero, List.set_cons_succ])
  (refine T_take (i := 13) rfl (by kernel_rfl) (fun _ _ _ _ h => h) hS ?_; apply Exists.intro; refine ⟨.inl ⟨by rfl, fun W hW => ?_⟩, ?_⟩; (next => (obtain ⟨hs1, hs2⟩ := hW; go_simp; first | done | rfl)); simp only [Act.put, List.setIfInBounds_toArray, List.set_cons_zero, List.set_cons_succ])
  (refine T_take (i := 14) rfl (by kernel_rfl) (fun _ _ _ _ h => h) hS ?_; apply Exists.intro; refine ⟨.inl ⟨by rfl, fun W hW => ?_⟩, ?_⟩; (next => (obtain ⟨hs1, hs2⟩ := hW; go_simp; first | done | rfl)); simp only [Act.put, List.setIfInBounds_toArray, List.set_cons_zero, List.set_cons_succ])
  rw [show IntKind.i64.wrap ((k : Int) + 1) = (k : Int) + 1 from by rw [IntKind.wrap_i64]; omega]
  (refine T_take (i := 7) rfl (by kernel_rfl) (fun _ _ _ _ h => h) hS ?_; refine ⟨_, y_slice _ _ _ _ _ (by rfl) (by rfl) (fun W _ => hs1.out W), ?_⟩; simp only [Act.put, List.setIfInBounds_toArray, List.set_cons_zero, List.set_cons_succ])
  (refine T_take (i := 15) rfl (by kernel_rfl) (fun _ _ _ _ h => h) hS ?_; refine ⟨_, y_slice _ _ _ _ _ (by rfl) (by rfl) (fun W _ => hs2.out W), ?_⟩; simp only [Act.put, List.setIfInBounds_toArray, List.set_cons_zero, List.set_cons_succ])
  refine T_all [1] (by kernel_rfl) (by decide) ?_
  intro j hj
  simp only [List.mem_cons, List.mem_nil_iff, or_false, List.not_mem_nil] at hj
  subst hj
  refine T_op rfl (by rfl) ?_
  refine wp_build0 _ 30 (by rfl) 7 Try.underlying22 (by kernel_rfl) w1.heap.size (Nat.le_refl _) ?_
  intro w2 hown hb2 hz2
  have hz2' : w1.heap.size ≤ w2.heap.size := hb2.size
  refine ⟨.inr (HS.out _ hb2), ?_⟩
  simp only [Act.put, List.setIfInBounds_toArray, List.set_cons_zero, List.set_cons_succ]
  refine T_all [8] (by kernel_rfl) (by decide) ?_
  intro j hj
  simp only [List.mem_cons, List.mem_nil_iff, or_false, List.not_mem_nil] at hj
  subst hj
  refine T_op rfl (by rfl) ?_
  refine wp_append_rd _ _ _ (by rfl) w1.heap.size 30 (.agg #[.int .i64 0, .int .i64 0, .int .i64 0, .int .i64 0, .int .i64 0, .int .i64 0, .int .i64 0]) 7 56 Try.underlying22 (by kernel_rfl) ⟨rfl, by decide⟩ (.slice (some ⟨w1.heap.size, 0, none⟩) 0 0) 0 [] (by rfl) hown A1 k cap (L1.map Ord.cells) (by rfl) (hR1.below hb2) ⟨by rw [List.length_map, hl1], ord_ok _⟩ hn1 ⟨by unfold maxLen; omega, by omega⟩ (by omega) ?_
  intro v1 w3 hown1 hb3' hz3 hk3
  have hb3 : Below w1.heap.size w1 w3 := hb2.trans hb3'
  refine ⟨.inr (HS.out _ hb3), ?_⟩
  simp only [Act.put, List.setIfInBounds_toArray, List.set_cons_zero, List.set_cons_succ]
  refine T_all [16] (by kernel_rfl) (by decide) ?_
  intro j hj
  simp only [List.mem_cons, List.mem_nil_iff, or_false, List.not_mem_nil] at hj
  subst hj
  refine T_op rfl (by rfl) ?_
  refine wp_append_rd _ _ _ (by rfl) w1.heap.size 30 (.agg #[.int .i64 0, .int .i64 0, .int .i64 0, .int .i64 0, .int .i64 0, .int .i64 0, .int .i64 0]) 7 56 Try.underlying22 (by kernel_rfl) ⟨rfl, by decide⟩ v1 (0 + k) _ (by rfl) hown1 A2 (n - (k + 1)) (cap - (k + 1)) (L2.map Ord.cells) (by rfl) (hR2.below hb3) ⟨by rw [List.length_map, hl2], ord_ok _⟩ hn2 ⟨by unfold maxLen; omega, by omega⟩ (by omega) ?_
  intro v2 w5 hown2 hb5' hz5 hk5
  have hb5 : Below w1.heap.size w1 w5 := hb3.trans hb5'
  refine ⟨.inr (HS.out _ hb5), ?_⟩
  simp only [Act.put, List.setIfInBounds_toArray, List.set_cons_zero, List.set_cons_succ]
  have hS := HS.out _ hb5
  refine T_all [17] (by kernel_rfl) (by decide) ?_
  intro j hj
  simp only [List.mem_cons, List.mem_nil_iff, or_false, List.not_mem_nil] at hj
  subst hj
  refine T_op rfl (by rfl) (wp_calm (v := .pointer (some ⟨rb, 0, none⟩)) (by go_simp; done) ⟨.inr hS, ?_⟩)
  simp only [Act.put, List.setIfInBounds_toArray, List.set_cons_zero, List.set_cons_succ]
  (refine T_take (i := 18) rfl (by kernel_rfl) (fun _ _ _ _ h => h) hS ?_; apply Exists.intro; refine ⟨.inl ⟨by rfl, fun W hW => ?_⟩, ?_⟩; (next => (obtain ⟨hs1, hs2⟩ := hW; go_simp; first | done | rfl)); simp only [Act.put, List.setIfInBounds_toArray, List.set_cons_zero, List.set_cons_succ])
  refine T_all [19] (by kernel_rfl) (by decide) ?_
  intro j hj
  simp only [List.mem_cons, List.mem_nil_iff, or_false, List.not_mem_nil] at hj
  subst hj
  refine T_op rfl (by rfl) ?_
  have hd5 : Blk w5 rb 96 #[.int .i64 N, .int .i64 most, .slice (some ⟨ab, ao, none⟩) n cap] := hd0.ext hb5
  refine wp_store_fld _ _ _ (by rfl) rb 2 (by rfl) v2 (by rfl) _ _ hd5 (by simp) (by kernel_rfl) (owns_cellsO hown2).1 (owns_cellsO hown2).2 ?_
  intro w6 hst hus
  refine ⟨.inl rfl, ?_⟩
  simp only [Act.put, List.setIfInBounds_toArray, List.set_cons_zero, List.set_cons_succ]
  refine T_done (by kernel_rfl) ?_
  have hbw5 : Below w.heap.size w w5 := hbwd.trans (hb5.mono hbwd.size)
  have hz5w := hbwd.size
  have e1 : (L1 ++ L2).length = 0 + k + (n - (k + 1)) := by simp [hl1, hl2]
  have e2 : flatO (L1 ++ L2) = [] ++ (L1.map Ord.cells).flatten ++ (L2.map Ord.cells).flatten := by simp [flatO]
  have hown3 : w5.ownsRow w1.heap.size 30 7 v2 (L1 ++ L2).length (flatO (L1 ++ L2)) := by rw [e1, e2]; exact hown2
  obtain ⟨A', cap', hv2, k1, k2, k3, k4⟩ := owns_o7 hown3
  subst hv2
  have hZ6 : Blk w6 zb 30 ord0.arr := (hus.block zb (by omega)).trans (hZd.ext hb5)
  have hX6 : Blk w6 xb 30 x.arr := (hus.block xb (by omega)).trans (hXd.ext hb5)
  have hlen2 : (L1 ++ L2).length ≤ 1000 := by omega
  have HQ : Hid (Rb w6 rb (N : Int) (most : Int) (L1 ++ L2) A' cap') := Lib.hid ⟨hst, k1.keep (fun a e => hus.block _ (by have := (k4 a e).1; omega)), k2, k3, fun a e => by have := k4 a e; have := hus.size; omega, hlen2⟩
  have HBL : Hid (ButL [rb] w.heap.size w w6) := Lib.hid ((ButL.of_below hbw5).upd (by simp) hus)
  have HK4 : Hid (∀ a, A' = some a → zb < a.block) := Lib.hid (fun a e => by have := (k4 a e).1; omega)
  clear hst hus k1 k4 hown3 hown2 hd5 hbw5
  go_wp2_with (first | ((with_reducible show wpList _ _ _ (⟨_, .load 30 _, _, _, _, _⟩ :: _) _ _); refine wpList_load_ho 30 _ (by rfl) (by rfl) ?_ (.pointer (some ⟨_, 0, none⟩)) (by rfl) ?_ _ Try.underlying30 rfl ?_ ?_; rotate_left; (next => (repeat (first | (with_reducible refine BlkAt.new _ _ _ _ ?_; ((try simp) <;> omega)) | (with_reducible assumption) | (with_reducible refine Blk.at (t := ?_) ?_; rotate_left; with_reducible assumption) | with_reducible refine BlkAt.alloc ?_ _ | with_reducible refine BlkAt.drew ?_ | (with_reducible refine BlkAt.setSame ?_ _ _) | (with_reducible refine BlkAt.setCell ?_ ?_ _; rotate_left; ((try simp) <;> omega)) | (with_reducible refine BlkAt.ext (w := ?_) ?_ ?_; rotate_left 2; (with_reducible assumption)) | fail))); (next => kernel_rfl)) | ((with_reducible show wpList _ _ _ (⟨_, .store 30 _ _, _, _, _, _⟩ :: _) _ _); refine wpList_store_blk (by rfl) 30 _ _ (by rfl) _ _ (by rfl) (by rfl) _ _ hZ6 (by kernel_rfl) (by rfl) ?_ ?_; (next => first | (simp [Value.oneCell']; done) | (simp [Value.oneCell', Edt.cells]; done) | exact Are.ordArr_one _); intro w8 hZ8 hU8) | fail)
  have hcR : ∀ i, w8.cell? ⟨zb, i, none⟩ = x.arr[i]? := fun i => hZ8.cell i
  have q8 : Rb w8 rb (N : Int) (most : Int) (L1 ++ L2) A' cap' := HQ.out.keep (Nat.le_of_eq hU8.size.symm) (hU8.block rb (by omega)) (fun a e => hU8.block _ (by have := HK4.out a e; omega))
  have hbl8 : ButL [rb] zb w w8 := by
    have h := HBL.out
    rw [hob] at h
    exact ⟨hU8.os.trans h.os, hU8.tape.trans h.tape, hU8.output.trans h.output, by rw [hU8.size]; exact h.size, fun q hq hn => (hU8.block q (by omega)).trans (h.block q hq hn)⟩
  refine bodyPost_ret (v := .tuple #[.agg x.arr, .int .i64 0]) (by simp [results, Try.results46, go_sem, hcR]; first | done | rfl) rfl ⟨rfl, ⟨A', cap', by rw [HL1.out, HL2.out]; exact q8, fun a e => by have := HK4.out a e; omega⟩, by rw [hob]; exact hbl8⟩
theorem rremove_any (q : Rb w rb (N : Int) (most : Int) L A cap) (hn : (L.map (·.id)).Nodup) (id : Int) : Calls Try.prog 46 #[.pointer (some ⟨rb, 0, none⟩), .int .i64 id] w fun e w' => e = .returned (.tuple #[.agg ((fndI id L).getD ord0).arr, .int .i64 (if (fndI id L).isSome then 0 else 5)]) ∧ (∃ A' cap', Rb w' rb (N : Int) (most : Int) (rmI id L) A' cap' ∧ ∀ a, A' = some a → w.heap.size ≤ a.block ∨ A = some a) ∧ ButL [rb] w.heap.size w w' := by
  by_cases h : idxI id L < L.length
  · rw [fnd_yes h, rm_idx hn h]
    refine (rremove_yes q h).mono ?_
    rintro e w' ⟨rfl, ⟨A', cap', h1, h3⟩, h2⟩
    exact ⟨rfl, ⟨A', cap', h1, fun a e => .inl (h3 a e)⟩, h2⟩
  · have hf := fnd_no h
    rw [hf, rm_none hf]
    have hb0 : Below w.heap.size w (w.alloc (.cells #[.int .i64 0, .int .i64 0, .int .i64 0, .int .i64 0, .int .i64 0, .int .i64 0, .int .i64 0] 30)) := by (repeat (first | with_reducible exact Below.refl _ _ | (with_reducible assumption) | (with_reducible refine below_alloc ?_ _) | (with_reducible refine below_ext (w1 := ?_) ?_ ?_; rotate_left 2; (with_reducible assumption)) | (with_reducible refine Below.setCell ?_ ?_ _; rotate_left; ((try simp) <;> omega)) | (with_reducible refine Below.drew ?_) | (with_reducible refine below_drewN ?_ _) | fail))
    have hX0 : Blk (w.alloc (.cells #[.int .i64 0, .int .i64 0, .int .i64 0, .int .i64 0, .int .i64 0, .int .i64 0, .int .i64 0] 30)) w.heap.size 30 ord0.arr := Blk.new _ _ _ _ rfl
    have HF := rfind_any (q.ext hb0) id
    unfold plcI at HF
    rw [if_neg h] at HF
    have HF := Lib.hid HF
    have HQ := Lib.hid (fun (W : World) (hW : Below w.heap.size w W) => q.ext hW)
    generalize hw0 : w.alloc (.cells #[.int .i64 0, .int .i64 0, .int .i64 0, .int .i64 0, .int .i64 0, .int .i64 0, .int .i64 0] 30) = w0 at *
    have HW0 := Lib.hid hw0
    clear hw0 hf h q
    go_enter Try.func46, Try.ntmps46
    go_wp2_with fail
    rw [HW0.out]
    go_wp2_with (first | (go_at_call 72; refine HF.out.mono ?_; rintro e w1 ⟨rfl, rfl⟩) | ((with_reducible show wpList _ _ _ (⟨_, .store 30 _ _, _, _, _, _⟩ :: _) _ _); refine wpList_store_blk (by rfl) 30 _ _ (by rfl) _ _ (by rfl) (by rfl) _ _ hX0 (by kernel_rfl) (by rfl) ?_ ?_; (next => first | (simp [Value.oneCell']; done) | (simp [Value.oneCell', Edt.cells]; done) | exact Are.ordArr_one _); intro w2 hX2 hU2) | fail)
    have hcR : ∀ i, w2.cell? ⟨w.heap.size, i, none⟩ = ord0.arr[i]? := fun i => hX2.cell i
    have hb2 : Below w.heap.size w w2 := below_upd hb0 (Nat.le_refl _) hU2
    refine bodyPost_ret (v := .tuple #[.agg ord0.arr, .int .i64 5]) (by simp [results, Try.results46, go_sem, hcR]; first | done | rfl) rfl ⟨rfl, ⟨A, ⟨cap, HQ.out _ hb2⟩, fun a e => .inr e⟩, ButL.of_below hb2⟩
end
end Rk
end Go.Proofs.Ytdhbioaoholcbaa
