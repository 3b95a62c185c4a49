/- This text proves the contract of damperref13.Remove. It has no conditions but those that it states. This text proves the contract of damperref13.Reduce. It has no conditions but those that it states. This text proves the contract of damperref13.Of: a side's orders, in their order. It has no conditions but those that it states. -/
import Derived.Test.YtbnappiaomiciaaGreatRkA
import Derived.Test.YtbnappiaomiciaaGreatBkV
namespace Go.Proofs.YtbnappiaomiciaaGreat
set_option linter.unusedVariables false
open Go.RowKit
namespace Rk
set_option maxHeartbeats 4000000
set_option maxRecDepth 10000
open Are (ord0)
open Bk (fndI rmI rm_none)
theorem cut_head (A : Option Addr) (len cap k : Nat) (hk : k ≤ cap) (hn : A = none → cap = 0) : ∃ (A' : Option Addr), (A' = none → cap = 0) ∧ (∀ (W : World) (l m : List Ord), Rd W 7 A ((l ++ m).map Ord.cells) → Rd W 7 A' (l.map Ord.cells)) ∧ ∀ W, (Instr.sliceAt 55 (.slice A len cap) none (some (.int .i64 k)) none).run Tryz.prog W = .ok (.slice A' k cap) W := by
  have ht : Tryz.prog.underlying 55 = some (.slice (Tryz.prog.elem 55)) := by kernel_rfl
  have he : Tryz.prog.elem 55 = 30 := by kernel_rfl
  obtain ⟨i, hi, hz, hs, hby⟩ := info_parts (P := Tryz.prog) (e := 30) (z := .agg #[.int .i64 0, .int .i64 0, .int .i64 0, .int .i64 0, .int .i64 0, .int .i64 0, .int .i64 0]) (size := 7) (bytes := 56) (by kernel_rfl)
  refine ⟨A, hn, fun W l m h hne => ?_, fun W => ?_⟩
  · obtain ⟨b1, o1, e1, hc⟩ := h (by intro h0; apply hne; simp at h0; simp [h0.1])
    refine ⟨b1, o1, e1, fun i j u hu => hc i j u ?_⟩
    by_cases hi : i < l.length
    · rw [List.map_append, List.getD_eq_getElem?_getD, List.getElem?_append_left (by simpa using hi), ← List.getD_eq_getElem?_getD]
      exact hu
    · rw [List.getD_eq_getElem?_getD, List.getElem?_eq_none (l := l.map Ord.cells) (i := i) (by simpa using hi)] at hu
      simp at hu
  · rw [run_sliceAt_slice (h := ht), run_slice_h (ht := ht) (kh := .i64) (h := (k : Int)) (cap := cap) (h0 := by omega) (h2 := by omega), he]
    simp only [sizeOf, typeInfo, Sem.run_bind]
    simp [hi, sliced]
    intro _
    cases A with
    | none => rfl
    | some a =>
      obtain ⟨b, o, x⟩ := a
      simp [Addr.add]
theorem cut_tail (A : Option Addr) (len cap k : Nat) (hk : k ≤ len) (hf : len ≤ cap) (hn : A = none → cap = 0) : ∃ (A' : Option Addr), (A' = none → cap - k = 0) ∧ (∀ (W : World) (l m : List Ord), l.length = k → (l ++ m).length = len → Rd W 7 A ((l ++ m).map Ord.cells) → Rd W 7 A' (m.map Ord.cells)) ∧ ∀ W, (Instr.sliceAt 55 (.slice A len cap) (some (.int .i64 k)) none none).run Tryz.prog W = .ok (.slice A' (len - k) (cap - k)) W := by
  have ht : Tryz.prog.underlying 55 = some (.slice (Tryz.prog.elem 55)) := by kernel_rfl
  have he : Tryz.prog.elem 55 = 30 := by kernel_rfl
  obtain ⟨i, hi, hz, hs, hby⟩ := info_parts (P := Tryz.prog) (e := 30) (z := .agg #[.int .i64 0, .int .i64 0, .int .i64 0, .int .i64 0, .int .i64 0, .int .i64 0, .int .i64 0]) (size := 7) (bytes := 56) (by kernel_rfl)
  refine ⟨if cap = k then A else A.map (·.add (k * 7)), ?_, fun W l m hl hlm h hne => ?_, fun W => ?_⟩
  · intro h
    by_cases e : cap = k
    · omega
    · rw [if_neg e] at h
      have := hn (by simpa using h)
      omega
  · by_cases e : cap = k
    · have h0 : m = [] := by
        apply List.eq_nil_of_length_eq_zero
        simp at hlm
        omega
      subst h0
      exact absurd rfl hne
    · rw [if_neg e]
      obtain ⟨b1, o1, rfl, hc⟩ := h (by intro h0; apply hne; simp at h0; simp [h0.2])
      refine ⟨b1, o1 + k * 7, by simp [Addr.add], fun i j u hu => ?_⟩
      have h1 := hc (k + i) j u (by
        rw [List.map_append, List.getD_eq_getElem?_getD, List.getElem?_append_right (by simp; omega)]
        rw [List.getD_eq_getElem?_getD] at hu
        simpa [hl] using hu)
      rw [← h1]
      congr 2
      omega
  · rw [run_sliceAt_slice (h := ht), run_slice_l (ht := ht) (kl := .i64) (l := (k : Int)) (len := len) (h0 := by omega) (h1 := by omega), he]
    simp only [sizeOf, typeInfo, Sem.run_bind]
    simp [hi, sliced, hs]
def SR (rb : Nat) (A : Option Addr) (len cap : Nat) (W : World) : Prop := W.cell? ⟨rb, 2, none⟩ = some (.slice A len cap) ∧ True
theorem rm_idx {id : Int} : ∀ {L : List Ord}, (L.map (·.id)).Nodup → idxI id L < L.length → rmI id L = L.take (idxI id L) ++ L.drop (idxI id L + 1)
  | [], _, h => by simp at h
  | x :: L, hn, h => by
    rw [List.map_cons, List.nodup_cons] at hn
    have ih := rm_idx (id := id) hn.2
    unfold rmI idxI at *
    rw [List.findIdx_cons] at *
    rw [List.filter_cons]
    cases hx : decide (x.id = id) with
    | true =>
      have hxe := of_decide_eq_true hx
      have : L.filter (fun o => !decide (o.id = id)) = L := by
        rw [List.filter_eq_self]
        intro y hy
        have : y.id ≠ id := fun e => hn.1 (by rw [hxe, ← e]; exact List.mem_map_of_mem hy)
        simp [this]
      simp [this]
    | false =>
      rw [hx] at h
      simp only [List.length_cons] at h
      have h2 : L.findIdx (fun o => decide (o.id = id)) < L.length := by simpa using h
      simp [ih h2]
section
variable {w : World} {rb N most : Nat} {L : List Ord} {A : Option Addr} {cap : Nat}
theorem rremove_yes (q : Rb w rb (N : Int) (most : Int) L A cap) {id : Int} (hi : idxI id L < L.length) : Calls Tryz.prog 79 #[.pointer (some ⟨rb, 0, none⟩), .int .i64 id] w fun e w' => e = .returned (.tuple #[.agg (L[idxI id L]).arr, .int .i64 0]) ∧ (∃ A' cap', Rb w' rb (N : Int) (most : Int) (L.take (idxI id L) ++ L.drop (idxI id L + 1)) A' cap' ∧ ∀ a, A' = some a → w.heap.size ≤ a.block) ∧ ButL [rb] w.heap.size w w' := by
  have hrb0 := q.hd.lt
  have hb0 : Below w.heap.size w (w.alloc (.cells #[.int .i64 0, .int .i64 0, .int .i64 0, .int .i64 0, .int .i64 0, .int .i64 0, .int .i64 0] 30)) := by (repeat (first | with_reducible exact Below.refl _ _ | (with_reducible assumption) | (with_reducible refine below_alloc ?_ _) | (with_reducible refine below_ext (w1 := ?_) ?_ ?_; rotate_left 2; (with_reducible assumption)) | (with_reducible refine Below.setCell ?_ ?_ _; rotate_left; ((try simp) <;> omega)) | (with_reducible refine Below.drew ?_) | (with_reducible refine below_drewN ?_ _) | fail))
  have hX0 : Blk (w.alloc (.cells #[.int .i64 0, .int .i64 0, .int .i64 0, .int .i64 0, .int .i64 0, .int .i64 0, .int .i64 0] 30)) w.heap.size 30 ord0.arr := Blk.new _ _ _ _ rfl
  have q0 := q.ext hb0
  have HF := rfind_any q0 id
  unfold plcI at HF
  rw [if_pos hi] at HF
  have HF := Lib.hid HF
  generalize hw0 : w.alloc (.cells #[.int .i64 0, .int .i64 0, .int .i64 0, .int .i64 0, .int .i64 0, .int .i64 0, .int .i64 0] 30) = w0 at *
  have HW0 := Lib.hid hw0
  clear hw0
  have c2 : w0.cell? ⟨rb, 2, none⟩ = some (.slice A L.length cap) := q0.hd.cell 2
  have hrl := q0.hd.lt
  have hlen := q0.len
  obtain ⟨ab, ao, hA, hr⟩ := q0.at hi
  have hal := cell_lt (hr 0 _ rfl)
  obtain ⟨k, hk⟩ : ∃ k, k = idxI id L := ⟨_, rfl⟩
  obtain ⟨x, hx⟩ : ∃ x, x = L[idxI id L] := ⟨_, rfl⟩
  rw [← hx] at hr ⊢
  rw [← hk] at hr HF hi ⊢
  clear hx hk
  have e1 : (k : Int) < (L.length : Int) := by omega
  have hN0 : Blk (w0.alloc (.cells #[.int .i64 0, .int .i64 0, .int .i64 0, .int .i64 0, .int .i64 0, .int .i64 0, .int .i64 0] 30)) w0.heap.size 30 ord0.arr := Blk.new _ _ _ _ rfl
  have hb01 : Below w0.heap.size w0 (w0.alloc (.cells #[.int .i64 0, .int .i64 0, .int .i64 0, .int .i64 0, .int .i64 0, .int .i64 0, .int .i64 0] 30)) := by (repeat (first | with_reducible exact Below.refl _ _ | (with_reducible assumption) | (with_reducible refine below_alloc ?_ _) | (with_reducible refine below_ext (w1 := ?_) ?_ ?_; rotate_left 2; (with_reducible assumption)) | (with_reducible refine Below.setCell ?_ ?_ _; rotate_left; ((try simp) <;> omega)) | (with_reducible refine Below.drew ?_) | (with_reducible refine below_drewN ?_ _) | fail))
  have hzb := hX0.lt
  have HA := Lib.hid hA
  subst hA
  go_enter Tryz.func79, Tryz.ntmps79
  go_wp2_with fail
  rw [HW0.out]
  go_wp2_with (first | (go_at_call 37; refine HF.out.mono ?_; rintro e w1 ⟨rfl, rfl⟩) | (refine wpList_load_mid (by rfl) _ _ (by rfl) _ _ (by rfl) _ _ hr Tryz.underlying30 rfl (by kernel_rfl) ?_) | ((with_reducible show wpList _ _ _ (⟨_, .store 30 _ _, _, _, _, _⟩ :: _) _ _); refine wpList_store_blk (by rfl) 30 _ _ (by rfl) _ _ (by rfl) (by rfl) _ _ hN0 (by kernel_rfl) (by rfl) ?_ ?_; (next => first | (simp [Value.oneCell']; done) | (simp [Value.oneCell', Edt.cells]; done) | exact Are.ordArr_one _); intro w4 hX4 hU4) | fail)
  have hb04 : Below w0.heap.size w0 w4 := below_upd hb01 (Nat.le_refl _) hU4
  have hZ4 := hX0.ext hb04
  have q4 := q0.ext hb04
  have hbw4 := below_ext hb0 hb04
  clear c2 hr hN0 hb01 hU4 hX0 hb04 q0 hb0 HF HW0
  generalize hzb0 : w0.heap.size = xb at *
  generalize hob : w.heap.size = zb at *
  refine wp_region_T (S := SR rb (some ⟨ab, ao, none⟩) L.length cap) 19 (by kernel_rfl) ?_
  have hbd : Below w4.heap.size w4 w4.drew := (Below.refl _ _).drew
  have qd := q4.ext hbd
  have hZd := hZ4.ext hbd
  have hXd := hX4.ext hbd
  have hbwd : Below w.heap.size w w4.drew := by rw [hob]; exact hbw4.trans (hbd.mono (by have := hbw4.size; omega))
  generalize w4.drew = w1 at qd hZd hXd hbwd ⊢
  clear hbd hbw4 q4 hZ4 hX4
  have HS : Hid (∀ W, Below w1.heap.size w1 W → SR rb (some ⟨ab, ao, none⟩) L.length cap W) := Lib.hid (fun W hW => ⟨(qd.ext hW).hd.cell 2, trivial⟩)
  have hrd := qd.rd
  have hnil := qd.nil
  have hfit := qd.fit
  have hd0 := qd.hd
  obtain ⟨A1, hn1, hr1, hs1'⟩ := cut_head (some ⟨ab, ao, none⟩) L.length cap k (by omega) hnil
  obtain ⟨A2, hn2, hr2, hs2'⟩ := cut_tail (some ⟨ab, ao, none⟩) L.length cap (k + 1) (by omega) hfit hnil
  have hs1 := Lib.hid hs1'
  have hs2 := Lib.hid hs2'
  push_cast at hs2
  have hR1 : Rd w1 7 A1 ((L.take k).map Ord.cells) := hr1 w1 (L.take k) (L.drop k) (by rw [List.take_append_drop]; exact hrd)
  have hR2 : Rd w1 7 A2 ((L.drop (k + 1)).map Ord.cells) := hr2 w1 (L.take (k + 1)) (L.drop (k + 1)) (by simp; omega) (by simp) (by rw [List.take_append_drop]; exact hrd)
  have hl1 : (L.take k).length = k := by simp; omega
  have hl2 : (L.drop (k + 1)).length = L.length - (k + 1) := by simp
  generalize hL1 : L.take k = L1 at *
  generalize hL2 : L.drop (k + 1) = L2 at *
  have HL1 := Lib.hid hL1
  have HL2 := Lib.hid hL2
  clear hL1 hL2
  have hzd1 := hZd.lt
  have hrl1 := hd0.lt
  have hS := HS.out _ (Below.refl _ _)
  clear hs1' hs2' hr1 hr2 hrd qd q
  have hk' := hi
  clear hi
  generalize L.length = n at *
  (refine T_take (i := 0) rfl (by kernel_rfl) (fun _ _ _ _ h => h) hS ?_; apply Exists.intro; refine ⟨.inl ⟨by rfl, fun W hW => ?_⟩, ?_⟩; (next => (obtain ⟨hs1, hs2⟩ := hW; go_simp; first | done | rfl)); simp only [Act.put, List.setIfInBounds_toArray, List.set_cons_zero, List.set_cons_succ])
  (refine T_take (i := 2) rfl (by kernel_rfl) (fun _ _ _ _ h => h) hS ?_; apply Exists.intro; refine ⟨.inl ⟨by rfl, fun W hW => ?_⟩, ?_⟩; (next => (obtain ⟨hs1, hs2⟩ := hW; go_simp; first | done | rfl)); simp only [Act.put, List.setIfInBounds_toArray, List.set_cons_zero, List.set_cons_succ])
  (refine T_take (i := 3) rfl (by kernel_rfl) (fun _ _ _ _ h => h) hS ?_; apply Exists.intro; refine ⟨.inl ⟨by rfl, fun W hW => ?_⟩, ?_⟩; (next => (obtain ⟨hs1, hs2⟩ := hW; go_simp; first | done | rfl)); simp only [Act.put, List.setIfInBounds_toArray, List.set_cons_zero, List.set_cons_succ])
  (refine T_take (i := 4) rfl (by kernel_rfl) (fun _ _ _ _ h => h) hS ?_; apply Exists.intro; refine ⟨.inl ⟨by rfl, fun W hW => ?_⟩, ?_⟩; (next => (obtain ⟨hs1, hs2⟩ := hW; go_simp; first | done | rfl)); simp only [Act.put, List.setIfInBounds_toArray, List.set_cons_zero, List.set_cons_succ])
  (refine T_take (i := 5) rfl (by kernel_rfl) (fun _ _ _ _ h => h) hS ?_; apply Exists.intro; refine ⟨.inl ⟨by rfl, fun W hW => ?_⟩, ?_⟩; (next => (obtain ⟨hs1, hs2⟩ := hW; go_simp; first | done | rfl)); simp only [Act.put, List.setIfInBounds_toArray, List.set_cons_zero, List.set_cons_succ])
  (refine T_take (i := 6) rfl (by kernel_rfl) (fun _ _ _ _ h => h) hS ?_; apply Exists.intro; refine ⟨.inl ⟨by rfl, fun W hW => ?_⟩, ?_⟩; (next => (obtain ⟨hs1, hs2⟩ := hW; go_simp; first | done | rfl)); simp only [Act.put, List.setIfInBounds_toArray, List.set_cons_zero, List.set_cons_succ])
  (refine T_take (i := 9) rfl (by kernel_rfl) (fun _ _ _ _ h => h) hS ?_; apply Exists.intro; refine ⟨.inl ⟨by rfl, fun W hW => ?_⟩, ?_⟩; (next => (obtain ⟨hs1, hs2⟩ := hW; go_simp; first | done | rfl)); simp only [Act.put, List.setIfInBounds_toArray, List.set_cons_zero, List.set_cons_succ])
  (refine T_take (i := 10) rfl (by kernel_rfl) (fun _ _ _ _ h => h) hS ?_; apply Exists.intro; refine ⟨.inl ⟨by rfl, fun W hW => ?_⟩, ?_⟩; (next => (obtain ⟨hs1, hs2⟩ := hW; go_simp; first | done | rfl)); simp only [Act.put, List.setIfInBounds_toArray, List.set_cons_zero, List.set_cons_succ])
  (refine T_take (i := 11) rfl (by kernel_rfl) (fun _ _ _ _ h => h) hS ?_; apply Exists.intro; refine ⟨.inl ⟨by rfl, fun W hW => ?_⟩, ?_⟩; (next => (obtain ⟨hs1, hs2⟩ := hW; go_simp; first | done | rfl)); simp only [Act.put, List.setIfInBounds_toArray, List.set_cons_zero, List.set_cons_succ])
  (refine T_take (i := 12) rfl (by kernel_rfl) (fun _ _ _ _ h => h) hS ?_; apply Exists.intro; refine ⟨.inl ⟨by rfl, fun W hW => ?_⟩, ?_⟩; (next => (obtain ⟨hs1, hs2⟩ := hW; go_simp; first | done | rfl)); simp only [Act.put, List.setIfInBounds_toArray, List.set_cons_zero, List.set_cons_succ])
  (refine T_take (i := 13) rfl (by kernel_rfl) (fun _ _ _ _ h => h) hS ?_; apply Exists.intro; refine ⟨.inl ⟨by rfl, fun W hW => ?_⟩, ?_⟩; (next => (obtain ⟨hs1, hs2⟩ := hW; go_simp; first | done | rfl)); simp only [Act.put, List.setIfInBounds_toArray, List.set_cons_zero, List.set_cons_succ])
  (refine T_take (i := 14) rfl (by kernel_rfl) (fun _ _ _ _ h => h) hS ?_; apply Exists.intro; refine ⟨.inl ⟨by rfl, fun W hW => ?_⟩, ?_⟩; (next => (obtain ⟨hs1, hs2⟩ := hW; go_simp; first | done | rfl)); simp only [Act.put, List.setIfInBounds_toArray, List.set_cons_zero, List.set_cons_succ])
  rw [show IntKind.i64.wrap ((k : Int) + 1) = (k : Int) + 1 from by rw [IntKind.wrap_i64]; omega]
  (refine T_take (i := 7) rfl (by kernel_rfl) (fun _ _ _ _ h => h) hS ?_; refine ⟨_, y_slice _ _ _ _ _ (by rfl) (by rfl) (fun W _ => hs1.out W), ?_⟩; simp only [Act.put, List.setIfInBounds_toArray, List.set_cons_zero, List.set_cons_succ])
  (refine T_take (i := 15) rfl (by kernel_rfl) (fun _ _ _ _ h => h) hS ?_; refine ⟨_, y_slice _ _ _ _ _ (by rfl) (by rfl) (fun W _ => hs2.out W), ?_⟩; simp only [Act.put, List.setIfInBounds_toArray, List.set_cons_zero, List.set_cons_succ])
  refine T_all [1] (by kernel_rfl) (by decide) ?_
  intro j hj
  simp only [List.mem_cons, List.mem_nil_iff, or_false, List.not_mem_nil] at hj
  subst hj
  refine T_op rfl (by rfl) ?_
  refine wp_build0 _ 30 (by rfl) 7 Tryz.underlying55 (by kernel_rfl) w1.heap.size (Nat.le_refl _) ?_
  intro w2 hown hb2 hz2
  have hz2' : w1.heap.size ≤ w2.heap.size := hb2.size
  refine ⟨.inr (HS.out _ hb2), ?_⟩
  simp only [Act.put, List.setIfInBounds_toArray, List.set_cons_zero, List.set_cons_succ]
  refine T_all [8] (by kernel_rfl) (by decide) ?_
  intro j hj
  simp only [List.mem_cons, List.mem_nil_iff, or_false, List.not_mem_nil] at hj
  subst hj
  refine T_op rfl (by rfl) ?_
  refine wp_append_rd _ _ _ (by rfl) w1.heap.size 30 (.agg #[.int .i64 0, .int .i64 0, .int .i64 0, .int .i64 0, .int .i64 0, .int .i64 0, .int .i64 0]) 7 56 Tryz.underlying55 (by kernel_rfl) ⟨rfl, by decide⟩ (.slice (some ⟨w1.heap.size, 0, none⟩) 0 0) 0 [] (by rfl) hown A1 k cap (L1.map Ord.cells) (by rfl) (hR1.below hb2) ⟨by rw [List.length_map, hl1], ord_ok _⟩ hn1 ⟨by unfold maxLen; omega, by omega⟩ (by omega) ?_
  intro v1 w3 hown1 hb3' hz3 hk3
  have hb3 : Below w1.heap.size w1 w3 := hb2.trans hb3'
  refine ⟨.inr (HS.out _ hb3), ?_⟩
  simp only [Act.put, List.setIfInBounds_toArray, List.set_cons_zero, List.set_cons_succ]
  refine T_all [16] (by kernel_rfl) (by decide) ?_
  intro j hj
  simp only [List.mem_cons, List.mem_nil_iff, or_false, List.not_mem_nil] at hj
  subst hj
  refine T_op rfl (by rfl) ?_
  refine wp_append_rd _ _ _ (by rfl) w1.heap.size 30 (.agg #[.int .i64 0, .int .i64 0, .int .i64 0, .int .i64 0, .int .i64 0, .int .i64 0, .int .i64 0]) 7 56 Tryz.underlying55 (by kernel_rfl) ⟨rfl, by decide⟩ v1 (0 + k) _ (by rfl) hown1 A2 (n - (k + 1)) (cap - (k + 1)) (L2.map Ord.cells) (by rfl) (hR2.below hb3) ⟨by rw [List.length_map, hl2], ord_ok _⟩ hn2 ⟨by unfold maxLen; omega, by omega⟩ (by omega) ?_
  intro v2 w5 hown2 hb5' hz5 hk5
  have hb5 : Below w1.heap.size w1 w5 := hb3.trans hb5'
  refine ⟨.inr (HS.out _ hb5), ?_⟩
  simp only [Act.put, List.setIfInBounds_toArray, List.set_cons_zero, List.set_cons_succ]
  have hS := HS.out _ hb5
  refine T_all [17] (by kernel_rfl) (by decide) ?_
  intro j hj
  simp only [List.mem_cons, List.mem_nil_iff, or_false, List.not_mem_nil] at hj
  subst hj
  refine T_op rfl (by rfl) (wp_calm (v := .pointer (some ⟨rb, 0, none⟩)) (by go_simp; done) ⟨.inr hS, ?_⟩)
  simp only [Act.put, List.setIfInBounds_toArray, List.set_cons_zero, List.set_cons_succ]
  (refine T_take (i := 18) rfl (by kernel_rfl) (fun _ _ _ _ h => h) hS ?_; apply Exists.intro; refine ⟨.inl ⟨by rfl, fun W hW => ?_⟩, ?_⟩; (next => (obtain ⟨hs1, hs2⟩ := hW; go_simp; first | done | rfl)); simp only [Act.put, List.setIfInBounds_toArray, List.set_cons_zero, List.set_cons_succ])
  refine T_all [19] (by kernel_rfl) (by decide) ?_
  intro j hj
  simp only [List.mem_cons, List.mem_nil_iff, or_false, List.not_mem_nil] at hj
  subst hj
  refine T_op rfl (by rfl) ?_
  have hd5 : Blk w5 rb 57 #[.int .i64 N, .int .i64 most, .slice (some ⟨ab, ao, none⟩) n cap] := hd0.ext hb5
  refine wp_store_fld _ _ _ (by rfl) rb 2 (by rfl) v2 (by rfl) _ _ hd5 (by simp) (by kernel_rfl) (owns_cellsO hown2).1 (owns_cellsO hown2).2 ?_
  intro w6 hst hus
  refine ⟨.inl rfl, ?_⟩
  simp only [Act.put, List.setIfInBounds_toArray, List.set_cons_zero, List.set_cons_succ]
  refine T_done (by kernel_rfl) ?_
  have hbw5 : Below w.heap.size w w5 := hbwd.trans (hb5.mono hbwd.size)
  have hz5w := hbwd.size
  have e1 : (L1 ++ L2).length = 0 + k + (n - (k + 1)) := by simp [hl1, hl2]
  have e2 : flatO (L1 ++ L2) = [] ++ (L1.map Ord.cells).flatten ++ (L2.map Ord.cells).flatten := by simp [flatO]
  have hown3 : w5.ownsRow w1.heap.size 30 7 v2 (L1 ++ L2).length (flatO (L1 ++ L2)) := by rw [e1, e2]; exact hown2
  obtain ⟨A', cap', hv2, k1, k2, k3, k4⟩ := owns_o7 hown3
  subst hv2
  have hZ6 : Blk w6 zb 30 ord0.arr := (hus.block zb (by omega)).trans (hZd.ext hb5)
  have hX6 : Blk w6 xb 30 x.arr := (hus.block xb (by omega)).trans (hXd.ext hb5)
  have hlen2 : (L1 ++ L2).length ≤ 1000 := by omega
  have HQ : Hid (Rb w6 rb (N : Int) (most : Int) (L1 ++ L2) A' cap') := Lib.hid ⟨hst, k1.keep (fun a e => hus.block _ (by have := (k4 a e).1; omega)), k2, k3, fun a e => by have := k4 a e; have := hus.size; omega, hlen2⟩
  have HBL : Hid (ButL [rb] w.heap.size w w6) := Lib.hid ((ButL.of_below hbw5).upd (by simp) hus)
  have HK4 : Hid (∀ a, A' = some a → zb < a.block) := Lib.hid (fun a e => by have := (k4 a e).1; omega)
  clear hst hus k1 k4 hown3 hown2 hd5 hbw5
  go_wp2_with (first | ((with_reducible show wpList _ _ _ (⟨_, .load 30 _, _, _, _, _⟩ :: _) _ _); refine wpList_load_ho 30 _ (by rfl) (by rfl) ?_ (.pointer (some ⟨_, 0, none⟩)) (by rfl) ?_ _ Tryz.underlying30 rfl ?_ ?_; rotate_left; (next => (repeat (first | (with_reducible refine BlkAt.new _ _ _ _ ?_; ((try simp) <;> omega)) | (with_reducible assumption) | (with_reducible refine Blk.at (t := ?_) ?_; rotate_left; with_reducible assumption) | with_reducible refine BlkAt.alloc ?_ _ | with_reducible refine BlkAt.drew ?_ | (with_reducible refine BlkAt.setSame ?_ _ _) | (with_reducible refine BlkAt.setCell ?_ ?_ _; rotate_left; ((try simp) <;> omega)) | (with_reducible refine BlkAt.ext (w := ?_) ?_ ?_; rotate_left 2; (with_reducible assumption)) | fail))); (next => kernel_rfl)) | ((with_reducible show wpList _ _ _ (⟨_, .store 30 _ _, _, _, _, _⟩ :: _) _ _); refine wpList_store_blk (by rfl) 30 _ _ (by rfl) _ _ (by rfl) (by rfl) _ _ hZ6 (by kernel_rfl) (by rfl) ?_ ?_; (next => first | (simp [Value.oneCell']; done) | (simp [Value.oneCell', Edt.cells]; done) | exact Are.ordArr_one _); intro w8 hZ8 hU8) | fail)
  have hcR : ∀ i, w8.cell? ⟨zb, i, none⟩ = x.arr[i]? := fun i => hZ8.cell i
  have q8 : Rb w8 rb (N : Int) (most : Int) (L1 ++ L2) A' cap' := HQ.out.keep (Nat.le_of_eq hU8.size.symm) (hU8.block rb (by omega)) (fun a e => hU8.block _ (by have := HK4.out a e; omega))
  have hbl8 : ButL [rb] zb w w8 := by
    have h := HBL.out
    rw [hob] at h
    exact ⟨hU8.os.trans h.os, hU8.tape.trans h.tape, hU8.output.trans h.output, by rw [hU8.size]; exact h.size, fun q hq hn => (hU8.block q (by omega)).trans (h.block q hq hn)⟩
  refine bodyPost_ret (v := .tuple #[.agg x.arr, .int .i64 0]) (by simp [results, Tryz.results79, go_sem, hcR]; first | done | rfl) rfl ⟨rfl, ⟨A', cap', by rw [HL1.out, HL2.out]; exact q8, fun a e => by have := HK4.out a e; omega⟩, by rw [hob]; exact hbl8⟩
theorem rremove_any (q : Rb w rb (N : Int) (most : Int) L A cap) (hn : (L.map (·.id)).Nodup) (id : Int) : Calls Tryz.prog 79 #[.pointer (some ⟨rb, 0, none⟩), .int .i64 id] w fun e w' => e = .returned (.tuple #[.agg ((fndI id L).getD ord0).arr, .int .i64 (if (fndI id L).isSome then 0 else 5)]) ∧ (∃ A' cap', Rb w' rb (N : Int) (most : Int) (rmI id L) A' cap' ∧ ∀ a, A' = some a → w.heap.size ≤ a.block ∨ A = some a) ∧ ButL [rb] w.heap.size w w' := by
  by_cases h : idxI id L < L.length
  · rw [fnd_yes h, rm_idx hn h]
    refine (rremove_yes q h).mono ?_
    rintro e w' ⟨rfl, ⟨A', cap', h1, h3⟩, h2⟩
    exact ⟨rfl, ⟨A', cap', h1, fun a e => .inl (h3 a e)⟩, h2⟩
  · have hf := fnd_no h
    rw [hf, rm_none hf]
    have hb0 : Below w.heap.size w (w.alloc (.cells #[.int .i64 0, .int .i64 0, .int .i64 0, .int .i64 0, .int .i64 0, .int .i64 0, .int .i64 0] 30)) := by (repeat (first | with_reducible exact Below.refl _ _ | (with_reducible assumption) | (with_reducible refine below_alloc ?_ _) | (with_reducible refine below_ext (w1 := ?_) ?_ ?_; rotate_left 2; (with_reducible assumption)) | (with_reducible refine Below.setCell ?_ ?_ _; rotate_left; ((try simp) <;> omega)) | (with_reducible refine Below.drew ?_) | (with_reducible refine below_drewN ?_ _) | fail))
    have hX0 : Blk (w.alloc (.cells #[.int .i64 0, .int .i64 0, .int .i64 0, .int .i64 0, .int .i64 0, .int .i64 0, .int .i64 0] 30)) w.heap.size 30 ord0.arr := Blk.new _ _ _ _ rfl
    have HF := rfind_any (q.ext hb0) id
    unfold plcI at HF
    rw [if_neg h] at HF
    have HF := Lib.hid HF
    have HQ := Lib.hid (fun (W : World) (hW : Below w.heap.size w W) => q.ext hW)
    generalize hw0 : w.alloc (.cells #[.int .i64 0, .int .i64 0, .int .i64 0, .int .i64 0, .int .i64 0, .int .i64 0, .int .i64 0] 30) = w0 at *
    have HW0 := Lib.hid hw0
    clear hw0 hf h q
    go_enter Tryz.func79, Tryz.ntmps79
    go_wp2_with fail
    rw [HW0.out]
    go_wp2_with (first | (go_at_call 37; refine HF.out.mono ?_; rintro e w1 ⟨rfl, rfl⟩) | ((with_reducible show wpList _ _ _ (⟨_, .store 30 _ _, _, _, _, _⟩ :: _) _ _); refine wpList_store_blk (by rfl) 30 _ _ (by rfl) _ _ (by rfl) (by rfl) _ _ hX0 (by kernel_rfl) (by rfl) ?_ ?_; (next => first | (simp [Value.oneCell']; done) | (simp [Value.oneCell', Edt.cells]; done) | exact Are.ordArr_one _); intro w2 hX2 hU2) | fail)
    have hcR : ∀ i, w2.cell? ⟨w.heap.size, i, none⟩ = ord0.arr[i]? := fun i => hX2.cell i
    have hb2 : Below w.heap.size w w2 := below_upd hb0 (Nat.le_refl _) hU2
    refine bodyPost_ret (v := .tuple #[.agg ord0.arr, .int .i64 5]) (by simp [results, Tryz.results79, go_sem, hcR]; first | done | rfl) rfl ⟨rfl, ⟨A, ⟨cap, HQ.out _ hb2⟩, fun a e => .inr e⟩, ButL.of_below hb2⟩
end
end Rk
end Go.Proofs.YtbnappiaomiciaaGreat
namespace Go.Proofs.YtbnappiaomiciaaGreat
set_option linter.unusedVariables false
open Go.RowKit
namespace Rk
set_option maxHeartbeats 4000000
set_option maxRecDepth 10000
open Are (ord0)
open Bk (fndI rmI rm_none rdI redF redO less)
theorem rd_at {id z : Int} {L : List Ord} (hn : (L.map (·.id)).Nodup) {k : Nat} (hk : k < L.length) (he : L[k].id = id) : rdI id z L = L.set k (less L[k] z) := by
  unfold rdI
  refine List.ext_getElem (by simp) (fun j h1 h2 => ?_)
  have hj : j < L.length := by simpa using h1
  rw [List.getElem_map, List.getElem_set]
  by_cases e : k = j
  · subst e
    simp [he]
  · have hne : L[j].id ≠ id := fun h => by
      have h3 : (L.map (·.id))[j]'(by simpa using hj) = (L.map (·.id))[k]'(by simpa using hk) := by simp [h, he]
      exact e ((List.getElem_inj hn).1 h3).symm
    simp [e, hne]
theorem idx_id {id : Int} {L : List Ord} (h : idxI id L < L.length) : L[idxI id L].id = id := by
  have h2 := List.findIdx_getElem (w := h)
  exact of_decide_eq_true h2
section
variable {w : World} {rb N most : Nat} {L : List Ord} {A : Option Addr} {cap : Nat}
/-- What is refused. -/
theorem rreduce_no (q : Rb w rb (N : Int) (most : Int) L A cap) (id z : Int) (h : ∀ o, fndI id L = some o → z < 1 ∨ o.qty < z) : Calls Tryz.prog 80 #[.pointer (some ⟨rb, 0, none⟩), .int .i64 id, .int .i64 z] w fun e w' => e = .returned (.tuple #[.agg (redF id z L).2.arr, .int .i64 (redF id z L).1]) ∧ Below w.heap.size w w' := by
  have hb0 : Below w.heap.size w (w.alloc (.cells #[.int .i64 0, .int .i64 0, .int .i64 0, .int .i64 0, .int .i64 0, .int .i64 0, .int .i64 0] 30)) := by (repeat (first | with_reducible exact Below.refl _ _ | (with_reducible assumption) | (with_reducible refine below_alloc ?_ _) | (with_reducible refine below_ext (w1 := ?_) ?_ ?_; rotate_left 2; (with_reducible assumption)) | (with_reducible refine Below.setCell ?_ ?_ _; rotate_left; ((try simp) <;> omega)) | (with_reducible refine Below.drew ?_) | (with_reducible refine below_drewN ?_ _) | fail))
  have hX0 : Blk (w.alloc (.cells #[.int .i64 0, .int .i64 0, .int .i64 0, .int .i64 0, .int .i64 0, .int .i64 0, .int .i64 0] 30)) w.heap.size 30 ord0.arr := Blk.new _ _ _ _ rfl
  have q0 := q.ext hb0
  have HF := rfind_any q0 id
  unfold plcI at HF
  generalize hw0 : w.alloc (.cells #[.int .i64 0, .int .i64 0, .int .i64 0, .int .i64 0, .int .i64 0, .int .i64 0, .int .i64 0] 30) = w0 at *
  have HW0 := Lib.hid hw0
  clear hw0
  by_cases hi : idxI id L < L.length
  · rw [if_pos hi] at HF
    have HF := Lib.hid HF
    have hr := h _ (fnd_yes hi)
    have HE : Hid (redF id z L = (9, ord0)) := Lib.hid (by unfold redF; rw [fnd_yes hi]; exact if_pos hr)
    rw [HE.out]
    have c2 : w0.cell? ⟨rb, 2, none⟩ = some (.slice A L.length cap) := q0.hd.cell 2
    have hrl := q0.hd.lt
    have hlen := q0.len
    obtain ⟨ab, ao, rfl, hrg⟩ := q0.at hi
    have hal := cell_lt (hrg 0 _ rfl)
    have e1 : ((idxI id L : Nat) : Int) < (L.length : Int) := by omega
    generalize L[idxI id L] = x at *
    generalize idxI id L = k at *
    have hN0 : Blk (w0.alloc (.cells #[.int .i64 0, .int .i64 0, .int .i64 0, .int .i64 0, .int .i64 0, .int .i64 0, .int .i64 0] 30)) w0.heap.size 30 ord0.arr := Blk.new _ _ _ _ rfl
    have hb01 : Below w0.heap.size w0 (w0.alloc (.cells #[.int .i64 0, .int .i64 0, .int .i64 0, .int .i64 0, .int .i64 0, .int .i64 0, .int .i64 0] 30)) := by (repeat (first | with_reducible exact Below.refl _ _ | (with_reducible assumption) | (with_reducible refine below_alloc ?_ _) | (with_reducible refine below_ext (w1 := ?_) ?_ ?_; rotate_left 2; (with_reducible assumption)) | (with_reducible refine Below.setCell ?_ ?_ _; rotate_left; ((try simp) <;> omega)) | (with_reducible refine Below.drew ?_) | (with_reducible refine below_drewN ?_ _) | fail))
    have hzb := hX0.lt
    clear q q0 h HE
    by_cases hz : z < 1
    · clear hr
      go_enter Tryz.func80, Tryz.ntmps80
      go_wp2_with fail
      rw [HW0.out]
      go_wp2_with (first | (go_at_call 37; refine HF.out.mono ?_; rintro e w1 ⟨rfl, rfl⟩) | (refine wpList_load_mid (by rfl) _ _ (by rfl) _ _ (by rfl) _ _ hrg Tryz.underlying30 rfl (by kernel_rfl) ?_) | (((with_reducible show wpList _ _ _ (⟨_, .store 30 _ _, _, _, _, _⟩ :: _) _ _); refine wpList_store_blk (by rfl) 30 _ _ (by rfl) _ _ (by rfl) (by rfl) _ _ hN0 (by kernel_rfl) (by rfl) ?_ ?_; (next => first | (simp [Value.oneCell']; done) | (simp [Value.oneCell', Edt.cells]; done) | exact Are.ordArr_one _); intro w4 hX4 hU4); have hb04 : Below w0.heap.size w0 w4 := below_upd hb01 (Nat.le_refl _) hU4; have hZ4 := hX0.ext hb04; clear hN0 hU4) | ((with_reducible show wpList _ _ _ (⟨_, .store 30 _ _, _, _, _, _⟩ :: _) _ _); refine wpList_store_blk (by rfl) 30 _ _ (by rfl) _ _ (by rfl) (by rfl) _ _ hZ4 (by kernel_rfl) (by rfl) ?_ ?_; (next => first | (simp [Value.oneCell']; done) | (simp [Value.oneCell', Edt.cells]; done) | exact Are.ordArr_one _); intro w6 hZ6 hU6) | fail)
      have hcR : ∀ i, w6.cell? ⟨w.heap.size, i, none⟩ = ord0.arr[i]? := fun i => hZ6.cell i
      exact bodyPost_ret (v := .tuple #[.agg ord0.arr, .int .i64 9]) (by simp [results, Tryz.results80, go_sem, hcR]; first | done | rfl) rfl ⟨rfl, below_upd (below_ext hb0 hb04) (Nat.le_refl _) hU6⟩
    · have hq : x.qty < z := by omega
      clear hr
      go_enter Tryz.func80, Tryz.ntmps80
      go_wp2_with fail
      rw [HW0.out]
      go_wp2_with (first | (go_at_call 37; refine HF.out.mono ?_; rintro e w1 ⟨rfl, rfl⟩) | (refine wpList_load_mid (by rfl) _ _ (by rfl) _ _ (by rfl) _ _ hrg Tryz.underlying30 rfl (by kernel_rfl) ?_) | (((with_reducible show wpList _ _ _ (⟨_, .store 30 _ _, _, _, _, _⟩ :: _) _ _); refine wpList_store_blk (by rfl) 30 _ _ (by rfl) _ _ (by rfl) (by rfl) _ _ hN0 (by kernel_rfl) (by rfl) ?_ ?_; (next => first | (simp [Value.oneCell']; done) | (simp [Value.oneCell', Edt.cells]; done) | exact Are.ordArr_one _); intro w4 hX4 hU4); have hb04 : Below w0.heap.size w0 w4 := below_upd hb01 (Nat.le_refl _) hU4; have hZ4 := hX0.ext hb04; have c4 : w4.cell? ⟨w0.heap.size, 4, none⟩ = some (.int .i64 x.qty) := hX4.cell 4; clear hN0 hU4) | ((with_reducible show wpList _ _ _ (⟨_, .store 30 _ _, _, _, _, _⟩ :: _) _ _); refine wpList_store_blk (by rfl) 30 _ _ (by rfl) _ _ (by rfl) (by rfl) _ _ hZ4 (by kernel_rfl) (by rfl) ?_ ?_; (next => first | (simp [Value.oneCell']; done) | (simp [Value.oneCell', Edt.cells]; done) | exact Are.ordArr_one _); intro w6 hZ6 hU6) | fail)
      have hcR : ∀ i, w6.cell? ⟨w.heap.size, i, none⟩ = ord0.arr[i]? := fun i => hZ6.cell i
      exact bodyPost_ret (v := .tuple #[.agg ord0.arr, .int .i64 9]) (by simp [results, Tryz.results80, go_sem, hcR]; first | done | rfl) rfl ⟨rfl, below_upd (below_ext hb0 hb04) (Nat.le_refl _) hU6⟩
  · rw [if_neg hi] at HF
    have HE : Hid (redF id z L = (5, ord0)) := Lib.hid (by unfold redF; rw [fnd_no hi])
    rw [HE.out]
    have HF := Lib.hid HF
    clear q q0 h hi HE
    go_enter Tryz.func80, Tryz.ntmps80
    go_wp2_with fail
    rw [HW0.out]
    go_wp2_with (first | (go_at_call 37; refine HF.out.mono ?_; rintro e w1 ⟨rfl, rfl⟩) | ((with_reducible show wpList _ _ _ (⟨_, .store 30 _ _, _, _, _, _⟩ :: _) _ _); refine wpList_store_blk (by rfl) 30 _ _ (by rfl) _ _ (by rfl) (by rfl) _ _ hX0 (by kernel_rfl) (by rfl) ?_ ?_; (next => first | (simp [Value.oneCell']; done) | (simp [Value.oneCell', Edt.cells]; done) | exact Are.ordArr_one _); intro w2 hX2 hU2) | fail)
    have hcR : ∀ i, w2.cell? ⟨w.heap.size, i, none⟩ = ord0.arr[i]? := fun i => hX2.cell i
    exact bodyPost_ret (v := .tuple #[.agg ord0.arr, .int .i64 5]) (by simp [results, Tryz.results80, go_sem, hcR]; first | done | rfl) rfl ⟨rfl, below_upd hb0 (Nat.le_refl _) hU2⟩
theorem rreduce_all (q : Rb w rb (N : Int) (most : Int) L A cap) {id z : Int} (hi : idxI id L < L.length) (hz : 1 ≤ z) (hzq : (L[idxI id L]).qty = z) : Calls Tryz.prog 80 #[.pointer (some ⟨rb, 0, none⟩), .int .i64 id, .int .i64 z] w fun e w' => e = .returned (.tuple #[.agg (less (L[idxI id L]) z).arr, .int .i64 0]) ∧ (∃ A' cap', Rb w' rb (N : Int) (most : Int) (L.take (idxI id L) ++ L.drop (idxI id L + 1)) A' cap' ∧ ∀ a, A' = some a → w.heap.size ≤ a.block) ∧ ButL [rb] w.heap.size w w' := by
  have hrb0 := q.hd.lt
  have hb0 : Below w.heap.size w (w.alloc (.cells #[.int .i64 0, .int .i64 0, .int .i64 0, .int .i64 0, .int .i64 0, .int .i64 0, .int .i64 0] 30)) := by (repeat (first | with_reducible exact Below.refl _ _ | (with_reducible assumption) | (with_reducible refine below_alloc ?_ _) | (with_reducible refine below_ext (w1 := ?_) ?_ ?_; rotate_left 2; (with_reducible assumption)) | (with_reducible refine Below.setCell ?_ ?_ _; rotate_left; ((try simp) <;> omega)) | (with_reducible refine Below.drew ?_) | (with_reducible refine below_drewN ?_ _) | fail))
  have hX0 : Blk (w.alloc (.cells #[.int .i64 0, .int .i64 0, .int .i64 0, .int .i64 0, .int .i64 0, .int .i64 0, .int .i64 0] 30)) w.heap.size 30 ord0.arr := Blk.new _ _ _ _ rfl
  have q0 := q.ext hb0
  have HF := rfind_any q0 id
  unfold plcI at HF
  rw [if_pos hi] at HF
  have HF := Lib.hid HF
  generalize hw0 : w.alloc (.cells #[.int .i64 0, .int .i64 0, .int .i64 0, .int .i64 0, .int .i64 0, .int .i64 0, .int .i64 0] 30) = w0 at *
  have HW0 := Lib.hid hw0
  clear hw0
  have c2 : w0.cell? ⟨rb, 2, none⟩ = some (.slice A L.length cap) := q0.hd.cell 2
  have hrl := q0.hd.lt
  have hlen := q0.len
  have hN0 : Blk (w0.alloc (.cells #[.int .i64 0, .int .i64 0, .int .i64 0, .int .i64 0, .int .i64 0, .int .i64 0, .int .i64 0] 30)) w0.heap.size 30 ord0.arr := Blk.new _ _ _ _ rfl
  have hb01 : Below w0.heap.size w0 (w0.alloc (.cells #[.int .i64 0, .int .i64 0, .int .i64 0, .int .i64 0, .int .i64 0, .int .i64 0, .int .i64 0] 30)) := by (repeat (first | with_reducible exact Below.refl _ _ | (with_reducible assumption) | (with_reducible refine below_alloc ?_ _) | (with_reducible refine below_ext (w1 := ?_) ?_ ?_; rotate_left 2; (with_reducible assumption)) | (with_reducible refine Below.setCell ?_ ?_ _; rotate_left; ((try simp) <;> omega)) | (with_reducible refine Below.drew ?_) | (with_reducible refine below_drewN ?_ _) | fail))
  have hzb := hX0.lt
  obtain ⟨ab, ao, rfl, hrg⟩ := q0.at hi
  have hal := cell_lt (hrg 0 _ rfl)
  have e1 : ((idxI id L : Nat) : Int) < (L.length : Int) := by omega
  have HRM : Hid (∀ W, Below w0.heap.size w0 W → Calls Tryz.prog 79 #[.pointer (some ⟨rb, 0, none⟩), .int .i64 id] W fun e w' => e = .returned (.tuple #[.agg (L[idxI id L]).arr, .int .i64 0]) ∧ (∃ A' cap', Rb w' rb (N : Int) (most : Int) (L.take (idxI id L) ++ L.drop (idxI id L + 1)) A' cap' ∧ ∀ a, A' = some a → W.heap.size ≤ a.block) ∧ ButL [rb] W.heap.size W w') := Lib.hid (fun W hW => rremove_yes (q0.ext hW) hi)
  obtain ⟨R, hR⟩ : ∃ R, R = L.take (idxI id L) ++ L.drop (idxI id L + 1) := ⟨_, rfl⟩
  rw [← hR] at HRM ⊢
  clear hR
  generalize L[idxI id L] = x at *
  generalize idxI id L = k at *
  clear q q0
  have hzn : ¬ z < 1 := by omega
  have HC4 : Hid (∀ W, Blk W w0.heap.size 30 x.arr → W.cell? ⟨w0.heap.size, 4, none⟩ = some (.int .i64 z)) := Lib.hid (fun W hW => by rw [← hzq]; exact hW.cell 4)
  have HZ := Lib.hid hzq
  clear hzq
  go_enter Tryz.func80, Tryz.ntmps80
  go_wp2_with fail
  rw [HW0.out]
  go_wp2_with (first | (go_at_call 37; refine HF.out.mono ?_; rintro e w1 ⟨rfl, rfl⟩) | (refine wpList_load_mid (by rfl) _ _ (by rfl) _ _ (by rfl) _ _ hrg Tryz.underlying30 rfl (by kernel_rfl) ?_) | (((with_reducible show wpList _ _ _ (⟨_, .store 30 _ _, _, _, _, _⟩ :: _) _ _); refine wpList_store_blk (by rfl) 30 _ _ (by rfl) _ _ (by rfl) (by rfl) _ _ hN0 (by kernel_rfl) (by rfl) ?_ ?_; (next => first | (simp [Value.oneCell']; done) | (simp [Value.oneCell', Edt.cells]; done) | exact Are.ordArr_one _); intro w4 hX4 hU4); have hb04 : Below w0.heap.size w0 w4 := below_upd hb01 (Nat.le_refl _) hU4; have hZ4 := hX0.ext hb04; have c4 := HC4.out _ hX4; have f4 : w4.frozen? ⟨w0.heap.size, 4, none⟩ = false := hX4.frozen 4; clear hN0 hU4) | fail)
  have hu5 := Upd.setCell w4 ⟨w0.heap.size, 4, none⟩ (.int .i64 0)
  have hX5 : Blk (w4.setCell ⟨w0.heap.size, 4, none⟩ (.int .i64 0)) w0.heap.size 30 (less x z).arr := by
    have h := hX4.setCell 4 (.int .i64 0)
    have e : x.arr.setIfInBounds 4 (.int .i64 0) = (less x z).arr := by
      have hz0 : x.qty - z = 0 := by have := HZ.out; omega
      simp [less, Ord.arr, Ord.cells, hz0]
    rw [← e]
    exact h
  have hZ5 : Blk (w4.setCell ⟨w0.heap.size, 4, none⟩ (.int .i64 0)) w.heap.size 30 ord0.arr := (hu5.block w.heap.size (by show w.heap.size ≠ w0.heap.size; omega)).trans hZ4
  have hb05 : Below w0.heap.size w0 (w4.setCell ⟨w0.heap.size, 4, none⟩ (.int .i64 0)) := below_upd hb04 (Nat.le_refl _) hu5
  refine (HRM.out _ hb05).mono ?_
  rintro e w6 ⟨rfl, ⟨A', cap', q6, k6⟩, hbl6⟩
  have hX6 : Blk w6 w0.heap.size 30 (less x z).arr := (hbl6.block w0.heap.size hX5.lt (by simp; omega)).trans hX5
  have hZ6 : Blk w6 w.heap.size 30 ord0.arr := (hbl6.block w.heap.size hZ5.lt (by simp; omega)).trans hZ5
  have hz06 := hb05.size
  have HBL : Hid (ButL [rb] w.heap.size w w6) := Lib.hid (by
    have h1 := ButL.of_below (l := [rb]) (below_ext hb0 hb05)
    exact ⟨hbl6.os.trans h1.os, hbl6.tape.trans h1.tape, hbl6.output.trans h1.output, Nat.le_trans h1.size hbl6.size, fun q hq hn => (hbl6.block q (by have := h1.size; omega) hn).trans (h1.block q hq hn)⟩)
  have HQ := Lib.hid q6
  have HK4 : Hid (∀ a, A' = some a → w.heap.size < a.block) := Lib.hid (fun a e => by have := k6 a e; have := hZ5.lt; omega)
  clear hbl6 hX5 hZ5 hb05 hu5 q6 k6 c4 f4 hX4 hZ4
  go_wp2_with (first | ((with_reducible show wpList _ _ _ (⟨_, .load 30 _, _, _, _, _⟩ :: _) _ _); refine wpList_load_ho 30 _ (by rfl) (by rfl) ?_ (.pointer (some ⟨_, 0, none⟩)) (by rfl) ?_ _ Tryz.underlying30 rfl ?_ ?_; rotate_left; (next => (repeat (first | (with_reducible refine BlkAt.new _ _ _ _ ?_; ((try simp) <;> omega)) | (with_reducible assumption) | (with_reducible refine Blk.at (t := ?_) ?_; rotate_left; with_reducible assumption) | with_reducible refine BlkAt.alloc ?_ _ | with_reducible refine BlkAt.drew ?_ | (with_reducible refine BlkAt.setSame ?_ _ _) | (with_reducible refine BlkAt.setCell ?_ ?_ _; rotate_left; ((try simp) <;> omega)) | (with_reducible refine BlkAt.ext (w := ?_) ?_ ?_; rotate_left 2; (with_reducible assumption)) | fail))); (next => kernel_rfl)) | ((with_reducible show wpList _ _ _ (⟨_, .store 30 _ _, _, _, _, _⟩ :: _) _ _); refine wpList_store_blk (by rfl) 30 _ _ (by rfl) _ _ (by rfl) (by rfl) _ _ hZ6 (by kernel_rfl) (by rfl) ?_ ?_; (next => first | (simp [Value.oneCell']; done) | (simp [Value.oneCell', Edt.cells]; done) | exact Are.ordArr_one _); intro w8 hZ8 hU8) | fail)
  have hcR : ∀ i, w8.cell? ⟨w.heap.size, i, none⟩ = (less x z).arr[i]? := fun i => hZ8.cell i
  have q8 : Rb w8 rb (N : Int) (most : Int) R A' cap' := HQ.out.keep (Nat.le_of_eq hU8.size.symm) (hU8.block rb (by omega)) (fun a e => hU8.block _ (by have := HK4.out a e; omega))
  have hbl8 : ButL [rb] w.heap.size w w8 := by
    have h := HBL.out
    exact ⟨hU8.os.trans h.os, hU8.tape.trans h.tape, hU8.output.trans h.output, by rw [hU8.size]; exact h.size, fun q hq hn => (hU8.block q (by omega)).trans (h.block q hq hn)⟩
  exact bodyPost_ret (v := .tuple #[.agg (less x z).arr, .int .i64 0]) (by simp [results, Tryz.results80, go_sem, hcR]; first | done | rfl) rfl ⟨rfl, ⟨A', cap', q8, fun a e => by have := HK4.out a e; omega⟩, hbl8⟩
theorem rd_put {w w' : World} {g : Nat} {cur : Array Value} {L : List Ord} {k : Nat} {y : Ord} (hk : k < L.length) (hG : Blk w g 30 cur) (hR : Rd w 7 (some ⟨g, 0, none⟩) (L.map Ord.cells)) (hs : L.length * 7 ≤ cur.size) (hG' : Blk w' g 30 (putC cur (k * 7) y.cells)) : Rd w' 7 (some ⟨g, 0, none⟩) ((L.set k y).map Ord.cells) := by
  obtain ⟨b, o, e, hc⟩ := hR (by
    intro h
    rw [List.map_eq_nil_iff] at h
    rw [h] at hk
    cases hk)
  cases e
  refine fun _ => ⟨g, 0, rfl, fun i j u hu => ?_⟩
  have hy : y.cells.length = 7 := rfl
  rw [hG'.cell]
  by_cases hik : i = k
  · subst hik
    have hu2 : y.cells[j]? = some u := by
      rw [List.getD_eq_getElem?_getD, List.getElem?_map, List.getElem?_set_self hk] at hu
      exact hu
    have hj : j < 7 := by
      rcases Nat.lt_or_ge j 7 with h | h
      · exact h
      · rw [List.getElem?_eq_none (by omega)] at hu2
        cases hu2
    have h1 := put_in y.cells cur (i * 7) j (by omega) (by omega)
    rw [Nat.zero_add, h1]
    exact hu2
  · have hu2 : ((L.map Ord.cells).getD i [])[j]? = some u := by
      rw [List.getD_eq_getElem?_getD, List.getElem?_map, List.getElem?_set_ne (fun h => hik h.symm)] at hu
      rw [List.getD_eq_getElem?_getD, List.getElem?_map]
      exact hu
    have hj : j < 7 := by
      rcases Nat.lt_or_ge j 7 with h | h
      · exact h
      · rw [List.getD_eq_getElem?_getD, List.getElem?_map] at hu2
        cases hl : L[i]? with
        | none => rw [hl] at hu2; simp at hu2
        | some z =>
          rw [hl] at hu2
          have : z.cells[j]? = none := List.getElem?_eq_none (by have : z.cells.length = 7 := rfl; omega)
          simp [this] at hu2
    have h1 := hc i j u hu2
    rw [hG.cell] at h1
    rw [put_out y.cells cur (k * 7) (0 + (i * 7 + j)) (by omega)]
    exact h1
theorem rreduce_less (q : Rb w rb (N : Int) (most : Int) L A cap) {id z : Int} (hi : idxI id L < L.length) (hz : 1 ≤ z) (hzq : z < (L[idxI id L]).qty) (hq : (L[idxI id L]).qty ≤ 4294967296) : Calls Tryz.prog 80 #[.pointer (some ⟨rb, 0, none⟩), .int .i64 id, .int .i64 z] w fun e w' => e = .returned (.tuple #[.agg (less (L[idxI id L]) z).arr, .int .i64 0]) ∧ (∃ A' cap', Rb w' rb (N : Int) (most : Int) (L.set (idxI id L) (less (L[idxI id L]) z)) A' cap' ∧ ∀ a, A' = some a → w.heap.size ≤ a.block) ∧ ButL [rb] w.heap.size w w' := by
  have hrb0 := q.hd.lt
  have hb0 : Below w.heap.size w (w.alloc (.cells #[.int .i64 0, .int .i64 0, .int .i64 0, .int .i64 0, .int .i64 0, .int .i64 0, .int .i64 0] 30)) := by (repeat (first | with_reducible exact Below.refl _ _ | (with_reducible assumption) | (with_reducible refine below_alloc ?_ _) | (with_reducible refine below_ext (w1 := ?_) ?_ ?_; rotate_left 2; (with_reducible assumption)) | (with_reducible refine Below.setCell ?_ ?_ _; rotate_left; ((try simp) <;> omega)) | (with_reducible refine Below.drew ?_) | (with_reducible refine below_drewN ?_ _) | fail))
  have hX0 : Blk (w.alloc (.cells #[.int .i64 0, .int .i64 0, .int .i64 0, .int .i64 0, .int .i64 0, .int .i64 0, .int .i64 0] 30)) w.heap.size 30 ord0.arr := Blk.new _ _ _ _ rfl
  have q0 := q.ext hb0
  have HF := rfind_any q0 id
  unfold plcI at HF
  rw [if_pos hi] at HF
  have HF := Lib.hid HF
  generalize hw0 : w.alloc (.cells #[.int .i64 0, .int .i64 0, .int .i64 0, .int .i64 0, .int .i64 0, .int .i64 0, .int .i64 0] 30) = w0 at *
  have HW0 := Lib.hid hw0
  clear hw0
  have c2 : w0.cell? ⟨rb, 2, none⟩ = some (.slice A L.length cap) := q0.hd.cell 2
  have hrl := q0.hd.lt
  have hlen := q0.len
  have hN0 : Blk (w0.alloc (.cells #[.int .i64 0, .int .i64 0, .int .i64 0, .int .i64 0, .int .i64 0, .int .i64 0, .int .i64 0] 30)) w0.heap.size 30 ord0.arr := Blk.new _ _ _ _ rfl
  have hb01 : Below w0.heap.size w0 (w0.alloc (.cells #[.int .i64 0, .int .i64 0, .int .i64 0, .int .i64 0, .int .i64 0, .int .i64 0, .int .i64 0] 30)) := by (repeat (first | with_reducible exact Below.refl _ _ | (with_reducible assumption) | (with_reducible refine below_alloc ?_ _) | (with_reducible refine below_ext (w1 := ?_) ?_ ?_; rotate_left 2; (with_reducible assumption)) | (with_reducible refine Below.setCell ?_ ?_ _; rotate_left; ((try simp) <;> omega)) | (with_reducible refine Below.drew ?_) | (with_reducible refine below_drewN ?_ _) | fail))
  have hzb := hX0.lt
  obtain ⟨ab, ao, rfl, hrg⟩ := q0.at hi
  have hal := cell_lt (hrg 0 _ rfl)
  have e1 : ((idxI id L : Nat) : Int) < (L.length : Int) := by omega
  have hrd := q0.rd
  have hnil := q0.nil
  have hd0 := q0.hd
  obtain ⟨x, hx⟩ : ∃ x, x = L[idxI id L] := ⟨_, rfl⟩
  rw [← hx] at hrg hzq hq ⊢
  clear hx
  generalize idxI id L = k at *
  clear q q0
  have hzn : ¬ z < 1 := by omega
  have hqn : ¬ x.qty < z := by omega
  have e0 : (x.qty - z == 0) = false := by
    have : ¬ x.qty - z = 0 := by omega
    simpa using this
  have hz0 : w0.heap.size = w.heap.size + 1 := by
    rw [← HW0.out]
    exact sz_alloc _ _
  have HZ0 := Lib.hid hz0
  clear hz0
  go_enter Tryz.func80, Tryz.ntmps80
  go_wp2_with fail
  rw [HW0.out]
  go_wp2_with (first | (go_at_call 37; refine HF.out.mono ?_; rintro e w1 ⟨rfl, rfl⟩) | (refine wpList_load_mid (by rfl) _ _ (by rfl) _ _ (by rfl) _ _ hrg Tryz.underlying30 rfl (by kernel_rfl) ?_) | (((with_reducible show wpList _ _ _ (⟨_, .store 30 _ _, _, _, _, _⟩ :: _) _ _); refine wpList_store_blk (by rfl) 30 _ _ (by rfl) _ _ (by rfl) (by rfl) _ _ hN0 (by kernel_rfl) (by rfl) ?_ ?_; (next => first | (simp [Value.oneCell']; done) | (simp [Value.oneCell', Edt.cells]; done) | exact Are.ordArr_one _); intro w4 hX4 hU4); have hb04 : Below w0.heap.size w0 w4 := below_upd hb01 (Nat.le_refl _) hU4; have hZ4 := hX0.ext hb04; have c4 : w4.cell? ⟨w0.heap.size, 4, none⟩ = some (.int .i64 x.qty) := hX4.cell 4; have f4 : w4.frozen? ⟨w0.heap.size, 4, none⟩ = false := hX4.frozen 4; have hz4 : w0.heap.size < w4.heap.size := hX4.lt; have k4 : w4.cell? ⟨rb, 2, none⟩ = some (.slice (some ⟨ab, ao, none⟩) L.length cap) := (hb04.cell (p := ⟨rb, 2, none⟩) hrl).trans c2; have hu5 := Upd.setCell w4 ⟨w0.heap.size, 4, none⟩ (.int .i64 (x.qty - z)); have hb05 : Below w0.heap.size w0 (w4.setCell ⟨w0.heap.size, 4, none⟩ (.int .i64 (x.qty - z))) := below_upd hb04 (Nat.le_refl _) hu5; have hz5 : w0.heap.size + 1 ≤ (w4.setCell ⟨w0.heap.size, 4, none⟩ (.int .i64 (x.qty - z))).heap.size := (by rw [hu5.size]; exact hz4); clear hN0 hU4) | (refine wpList_build0 (by rfl) 55 30 (by rfl) 7 Tryz.underlying55 (by kernel_rfl) (w0.heap.size + 1) hz5 ?_; intro w6 hown6 hb6 hz6'; have hz6 := Lib.hid hz6'; clear hz6'; have hb06 : Below w0.heap.size w0 w6 := below_ext hb05 hb6; have c6 : w6.cell? ⟨rb, 2, none⟩ = some (.slice (some ⟨ab, ao, none⟩) L.length cap) := (hb06.cell (p := ⟨rb, 2, none⟩) hrl).trans c2; have hz6b : w0.heap.size + 1 ≤ w6.heap.size := Nat.le_trans hz5 hb6.size; rw [hu5.size] at hown6) | (refine wpList_append_rd (by rfl) _ _ _ (by rfl) (w0.heap.size + 1) 30 (.agg #[.int .i64 0, .int .i64 0, .int .i64 0, .int .i64 0, .int .i64 0, .int .i64 0, .int .i64 0]) 7 56 Tryz.underlying55 (by kernel_rfl) ⟨rfl, by decide⟩ _ 0 [] (by rfl) hown6 (some ⟨ab, ao, none⟩) L.length cap (L.map Ord.cells) (by rfl) (hrd.below hb06) ⟨List.length_map _, ord_ok _⟩ hnil ⟨by unfold maxLen; omega, by omega⟩ hz6b ?_; intro v7 w7 hown7 hb7' hz7 hk7; have hb07 : Below w0.heap.size w0 w7 := hb06.trans (hb7'.mono (Nat.le_succ _)); have hd7 := hd0.ext hb07; have hX7 := hb7'.block w0.heap.size (Nat.lt_succ_self _)) | (refine wpList_store_fld (by rfl) _ _ _ (by rfl) _ _ (by rfl) _ (by rfl) _ _ hd7 ?_ ?_ (owns_cellsO hown7).1 (owns_cellsO hown7).2 ?_; (next => simp); (next => kernel_rfl); intro w8 hd8 hU8) | fail)
  have hX8 : Blk w8 w0.heap.size 30 (less x z).arr := (hU8.block w0.heap.size (by omega)).trans (hX7.trans ((hX4.setCell 4 (.int .i64 (x.qty - z))).ext hb6))
  have hZ8 : Blk w8 w.heap.size 30 ord0.arr := (hU8.block w.heap.size (by omega)).trans (hX0.ext hb07)
  rcases hown7.2 with ⟨_, h0⟩ | ⟨g, capg, cur, rfl, hgb, hg, hr1, hr2, hr3, hr4⟩
  · omega
  have hG8 : Blk w8 g 30 cur := (hU8.block g (by omega)).trans hg
  have c8 : w8.cell? ⟨rb, 2, none⟩ = some (.slice (some ⟨g, 0, none⟩) (0 + L.length) capg) := hd8.cell 2
  have hRd8 : Rd w8 7 (some ⟨g, 0, none⟩) (L.map Ord.cells) := rd_own hG8 (fun r hr => (ord_ok L r hr).1) (n := L.length) (by simpa using hr4)
  have hcs : L.length * 7 ≤ cur.size := by omega
  have hput : k * 7 + 7 ≤ cur.size := by omega
  have hbl8 : ButL [rb] w.heap.size w w8 := (ButL.of_below (below_ext hb0 hb07)).upd (by simp) hU8
  have hd8' : Blk w8 rb 57 #[.int .i64 N, .int .i64 most, .slice (some ⟨g, 0, none⟩) L.length capg] := by
    have h := hd8
    rw [Nat.zero_add] at h
    exact h
  rw [Nat.zero_add] at c8 hr1
  have hrl8 : rb < w8.heap.size := hd8'.lt
  have hxl8 : w0.heap.size < w8.heap.size := hX8.lt
  have HBL := Lib.hid hbl8
  have HR8 := Lib.hid hRd8
  have HD8 := Lib.hid hd8'
  have hgg : w0.heap.size < g := by omega
  clear hbl8 hRd8 hd8' hd8 hU8 hown7 hg hr3 hr4 hd7 hX7 hk7 hb7' hb07 hown6 hb6 hb06 c6 k4 c4 f4 hu5 hb05 hz5 hX4 hZ4 hb04 hd0 hrd hnil hrg
  go_wp2_with fail
  refine wp_region_below_tail 6 (by kernel_rfl) (by kernel_rfl) ?_
  simp only [List.take_succ_cons, List.take_zero, List.drop_succ_cons, List.drop_zero]
  repeat (first | go_big_quiet_skip | (go_big_quiet_want; go_big_quiet_op; go_big_quiet_on) | (refine q_load_blk (by rfl) 30 _ (by rfl) ?_ (.pointer (some ⟨_, 0, none⟩)) (by rfl) ?_ _ (fun _ h => h) Tryz.underlying30 rfl ?_ ?_; rotate_left; (next => (repeat (first | (with_reducible refine BlkAt.new _ _ _ _ ?_; ((try simp) <;> omega)) | (with_reducible assumption) | (with_reducible refine Blk.at (t := ?_) ?_; rotate_left; with_reducible assumption) | with_reducible refine BlkAt.alloc ?_ _ | with_reducible refine BlkAt.drew ?_ | (with_reducible refine BlkAt.setSame ?_ _ _) | (with_reducible refine BlkAt.setCell ?_ ?_ _; rotate_left; ((try simp) <;> omega)) | (with_reducible refine BlkAt.ext (w := ?_) ?_ ?_; rotate_left 2; (with_reducible assumption)) | fail))); (next => kernel_rfl); (try simp only [Act.put, List.setIfInBounds_toArray, List.set_cons_zero, List.set_cons_succ])) | (refine q_load_fld (by rfl) _ _ (by rfl) (fun _ h => h) _ _ (by rfl) ?_ ?_ ?_ ?_ ?_ ?_; rotate_left; (next => (repeat (first | (with_reducible refine BlkAt.new _ _ _ _ ?_; ((try simp) <;> omega)) | (with_reducible assumption) | (with_reducible refine Blk.at (t := ?_) ?_; rotate_left; with_reducible assumption) | with_reducible refine BlkAt.alloc ?_ _ | with_reducible refine BlkAt.drew ?_ | (with_reducible refine BlkAt.setSame ?_ _ _) | (with_reducible refine BlkAt.setCell ?_ ?_ _; rotate_left; ((try simp) <;> omega)) | (with_reducible refine BlkAt.ext (w := ?_) ?_ ?_; rotate_left 2; (with_reducible assumption)) | fail))); rotate_left; (next => first | (simp only [go_sem]; rfl) | rfl); (next => kernel_rfl); (try simp only [Act.put, List.setIfInBounds_toArray, List.set_cons_zero, List.set_cons_succ])) | (refine q_rem (by rfl) _ _ _ _ (by rfl) _ _ (by rfl) (by rfl) (by kernel_rfl) (by kernel_rfl) ?_ ?_; (next => omega); (try simp only [Act.put, List.setIfInBounds_toArray, List.set_cons_zero, List.set_cons_succ])) | (refine q_step_ex (by rfl) ?_; apply Exists.intro; refine ⟨fun W hW => ?_, ?_⟩; (next => (have hWc := fun (b o : Nat) (h : b < _) => (Ext.out hW).cell (p := ⟨b, o, none⟩) h); (try have hLK := HLK.out W (Ext.out hW)); go_simp; first | rfl | fail | fail); (try simp only [Act.put, List.setIfInBounds_toArray, List.set_cons_zero, List.set_cons_succ])) | fail)
  refine wpQuiet_nil ?_
  intro w9 hb9
  have hG9 := hG8.ext hb9
  have hX9 := hX8.ext hb9
  have hZ9 := hZ8.ext hb9
  have hput2 : k * 7 + (less x z).arr.size ≤ cur.size := hput
  go_wp2_with (first | ((with_reducible show wpList _ _ _ (⟨_, .store 30 _ _, _, _, _, _⟩ :: _) _ _); refine wpList_store_put (by rfl) _ _ _ (by rfl) _ _ _ (by rfl) (by rfl) _ _ hG9 ?_ ?_ ?_ ?_; (next => kernel_rfl); (next => exact hput2); (next => first | rfl | exact Are.ordArr_one _ | exact ordArr_one _); intro w10 hG10 hU10; have hX10 : Blk w10 w0.heap.size 30 (less x z).arr := (hU10.block w0.heap.size (by omega)).trans hX9; have hZ10 : Blk w10 w.heap.size 30 ord0.arr := (hU10.block w.heap.size (by omega)).trans hZ9; clear hG9) | ((with_reducible show wpList _ _ _ (⟨_, .load 30 _, _, _, _, _⟩ :: _) _ _); refine wpList_load_ho 30 _ (by rfl) (by rfl) ?_ (.pointer (some ⟨_, 0, none⟩)) (by rfl) ?_ _ Tryz.underlying30 rfl ?_ ?_; rotate_left; (next => (repeat (first | (with_reducible refine BlkAt.new _ _ _ _ ?_; ((try simp) <;> omega)) | (with_reducible assumption) | (with_reducible refine Blk.at (t := ?_) ?_; rotate_left; with_reducible assumption) | with_reducible refine BlkAt.alloc ?_ _ | with_reducible refine BlkAt.drew ?_ | (with_reducible refine BlkAt.setSame ?_ _ _) | (with_reducible refine BlkAt.setCell ?_ ?_ _; rotate_left; ((try simp) <;> omega)) | (with_reducible refine BlkAt.ext (w := ?_) ?_ ?_; rotate_left 2; (with_reducible assumption)) | fail))); (next => kernel_rfl)) | ((with_reducible show wpList _ _ _ (⟨_, .store 30 _ _, _, _, _, _⟩ :: _) _ _); refine wpList_store_blk (by rfl) 30 _ _ (by rfl) _ _ (by rfl) (by rfl) _ _ hZ10 (by kernel_rfl) (by rfl) ?_ ?_; (next => first | (simp [Value.oneCell']; done) | (simp [Value.oneCell', Edt.cells]; done) | exact Are.ordArr_one _); intro w12 hZ12 hU12) | fail)
  have hcR : ∀ i, w12.cell? ⟨w.heap.size, i, none⟩ = (less x z).arr[i]? := fun i => hZ12.cell i
  have hRb9 := HR8.out.below hb9
  have hD9 := HD8.out.ext hb9
  have hsl : (L.set k (less x z)).length = L.length := List.length_set
  have hD12 : Blk w12 rb 57 #[.int .i64 N, .int .i64 most, .slice (some ⟨g, 0, none⟩) (L.set k (less x z)).length capg] := by
    rw [hsl]
    exact (hU12.block rb (by omega)).trans ((hU10.block rb (by omega)).trans hD9)
  have hG12 : Blk w12 g 30 (putC cur (k * 7) (less x z).cells) := (hU12.block g (by omega)).trans hG10
  have hRd12 : Rd w12 7 (some ⟨g, 0, none⟩) ((L.set k (less x z)).map Ord.cells) := rd_put hi (hG8.ext hb9) hRb9 hcs hG12
  have hgl := hG12.lt
  have q12 : Rb w12 rb (N : Int) (most : Int) (L.set k (less x z)) (some ⟨g, 0, none⟩) capg := ⟨hD12, hRd12, by rw [hsl]; exact hr1, (fun e => by cases e), (fun a e => by cases e; exact ⟨by show g ≠ rb; omega, hgl⟩), by rw [hsl]; exact hlen⟩
  have hbl12 : ButL [rb] w.heap.size w w12 := by
    have h := HBL.out
    have h9 := hb9.size
    have h8 := h.size
    exact ⟨hU12.os.trans (hU10.os.trans (hb9.os.trans h.os)), hU12.tape.trans (hU10.tape.trans (hb9.tape.trans h.tape)), hU12.output.trans (hU10.output.trans (hb9.output.trans h.output)), by rw [hU12.size, hU10.size]; omega, fun q hq hn => (hU12.block q (by omega)).trans ((hU10.block q (by omega)).trans ((hb9.block q (by omega)).trans (h.block q hq hn)))⟩
  exact bodyPost_ret (v := .tuple #[.agg (less x z).arr, .int .i64 0]) (by simp [results, Tryz.results80, go_sem, hcR]; first | done | rfl) rfl ⟨rfl, ⟨_, _, q12, fun a e => by cases e; show w.heap.size ≤ g; omega⟩, hbl12⟩
/-- Reduce, whatever is asked. -/
theorem rreduce_any (q : Rb w rb (N : Int) (most : Int) L A cap) (hn : (L.map (·.id)).Nodup) (hok : ∀ o ∈ L, o.qty ≤ 4294967296) (id z : Int) : Calls Tryz.prog 80 #[.pointer (some ⟨rb, 0, none⟩), .int .i64 id, .int .i64 z] w fun e w' => e = .returned (.tuple #[.agg (redF id z L).2.arr, .int .i64 (redF id z L).1]) ∧ (∃ A' cap', Rb w' rb (N : Int) (most : Int) (redO id z L) A' cap' ∧ ∀ a, A' = some a → w.heap.size ≤ a.block ∨ A = some a) ∧ ButL [rb] w.heap.size w w' := by
  have no : (∀ o, fndI id L = some o → z < 1 ∨ o.qty < z) → redO id z L = L → _ := fun h he => by
    refine (rreduce_no q id z h).mono (R' := fun e w' => e = .returned (.tuple #[.agg (redF id z L).2.arr, .int .i64 (redF id z L).1]) ∧ (∃ A' cap', Rb w' rb (N : Int) (most : Int) (redO id z L) A' cap' ∧ ∀ a, A' = some a → w.heap.size ≤ a.block ∨ A = some a) ∧ ButL [rb] w.heap.size w w') ?_
    rintro e w' ⟨rfl, hb⟩
    exact ⟨rfl, ⟨A, cap, by rw [he]; exact q.ext hb, fun a e => .inr e⟩, ButL.of_below hb⟩
  by_cases hi : idxI id L < L.length
  · have hf := fnd_yes hi
    by_cases hr : z < 1 ∨ (L[idxI id L]).qty < z
    · exact no (fun o ho => by rw [hf] at ho; cases ho; exact hr) (by unfold redO; rw [hf]; exact if_pos hr)
    · have e1 : redF id z L = (0, less L[idxI id L] z) := by unfold redF; rw [hf]; exact if_neg hr
      by_cases hz : z = (L[idxI id L]).qty
      · have e2 : redO id z L = L.take (idxI id L) ++ L.drop (idxI id L + 1) := by
          unfold redO
          rw [hf]
          exact (if_neg hr).trans ((if_pos hz).trans (rm_idx hn hi))
        rw [e1, e2]
        refine (rreduce_all q hi (by omega) hz.symm).mono ?_
        rintro e w' ⟨rfl, ⟨A', cap', h1, h2⟩, h3⟩
        exact ⟨rfl, ⟨A', cap', h1, fun a e => .inl (h2 a e)⟩, h3⟩
      · have e2 : redO id z L = L.set (idxI id L) (less L[idxI id L] z) := by
          unfold redO
          rw [hf]
          exact (if_neg hr).trans ((if_neg hz).trans (rd_at hn hi (idx_id hi)))
        rw [e1, e2]
        refine (rreduce_less q hi (by omega) (by omega) (hok _ (List.getElem_mem hi))).mono ?_
        rintro e w' ⟨rfl, ⟨A', cap', h1, h2⟩, h3⟩
        exact ⟨rfl, ⟨A', cap', h1, fun a e => .inl (h2 a e)⟩, h3⟩
  · have hf := fnd_no hi
    exact no (fun o ho => by rw [hf] at ho; cases ho) (by unfold redO; rw [hf])
end
end Rk
end Go.Proofs.YtbnappiaomiciaaGreat
namespace Go.Proofs.YtbnappiaomiciaaGreat
set_option linter.unusedVariables false
open Go.RowKit
namespace Rk
set_option maxHeartbeats 4000000
set_option maxRecDepth 10000
open Bk (bet insO srt sdO srt_snoc ins_perm)
/-- Where an order is put. -/
theorem cutB (n : Int) (o : Ord) : ∀ l : List Ord, ∃ t, t ≤ l.length ∧ (∀ j (h : j < l.length), j < t → bet n o.price l[j].price = false) ∧ (∀ h : t < l.length, bet n o.price l[t].price = true) ∧ insO n o l = l.take t ++ o :: l.drop t
  | [] => ⟨0, Nat.le_refl _, fun j h => by simp at h, fun h => by simp at h, rfl⟩
  | x :: l => by
    cases e : bet n o.price x.price with
    | false =>
      obtain ⟨t, h1, h2, h3, h4⟩ := cutB n o l
      refine ⟨t + 1, by simpa using h1, fun j hj hjt => ?_, fun h => by simpa using h3 (by simpa using h), ?_⟩
      · cases j with
        | zero => simpa using e
        | succ j => simpa using h2 j (by simpa using hj) (by omega)
      · have h5 : insO n o (x :: l) = x :: insO n o l := by simp [insO, e]
        rw [h5, h4]
        simp
    | true => exact ⟨0, Nat.zero_le _, fun j h h0 => by omega, fun h => by simpa using e, by simp [insO, e]⟩
theorem srt_take {n : Int} {L : List Ord} {k : Nat} (hk : k < L.length) : srt n (L.take (k + 1)) = if L[k].side = n then insO n L[k] (srt n (L.take k)) else srt n (L.take k) := by
  rw [List.take_succ_eq_append_getElem hk, srt_snoc]
theorem srt_len (n : Int) (L : List Ord) : (srt n L).length ≤ L.length := by
  rw [(Bk.srt_perm n L).length_eq]
  unfold sdO
  exact List.length_filter_le _ _
theorem owns_mono {W : World} {B B' : Nat} {e : TypeId} {size n : Nat} {v : Value} {xs : List Value} (h : W.ownsRow B' e size v n xs) (hB : B ≤ B') : W.ownsRow B e size v n xs := by
  refine ⟨h.1, ?_⟩
  rcases h.2 with h0 | ⟨g, cap, cur, hv, hb, h1⟩
  · exact .inl h0
  · exact .inr ⟨g, cap, cur, hv, Nat.le_trans hB hb, h1⟩
section
variable {w : World} {rb N most : Nat} {L : List Ord} {A : Option Addr} {cap : Nat}
def SO (rb b o k n cap : Nat) (x : Ord) (W : World) : Prop := W.cell? ⟨rb, 2, none⟩ = some (.slice (some ⟨b, o, none⟩) n cap) ∧ (W.cell? ⟨b, o + k * 7, none⟩ = some (.int .i64 x.id) ∧ W.cell? ⟨b, o + k * 7 + 1, none⟩ = some (.int .i64 x.owner) ∧ W.cell? ⟨b, o + k * 7 + 2, none⟩ = some (.int .i64 x.side) ∧ W.cell? ⟨b, o + k * 7 + 3, none⟩ = some (.int .i64 x.price) ∧ W.cell? ⟨b, o + k * 7 + 4, none⟩ = some (.int .i64 x.qty) ∧ W.cell? ⟨b, o + k * 7 + 5, none⟩ = some (.int .i64 x.flags) ∧ W.cell? ⟨b, o + k * 7 + 6, none⟩ = some (.int .i64 x.seq))
theorem owned_ins {W : World} {B : Nat} {v : Value} {M1 M2 : List Ord} {x : Ord} {t N : Nat} (h : W.ownsRow B 30 7 v (0 + t + 1 + (N - t)) (([] ++ (M1.map Ord.cells).flatten) ++ [x.cells].flatten ++ (M2.map Ord.cells).flatten)) (h1 : M1.length = t) (h2 : M2.length = N - t) : W.ownsRow B 30 7 v (M1 ++ x :: M2).length (flatO (M1 ++ x :: M2)) := by
  have e1 : (M1 ++ x :: M2).length = 0 + t + 1 + (N - t) := by simp [h1, h2]; omega
  have e2 : flatO (M1 ++ x :: M2) = ([] ++ (M1.map Ord.cells).flatten) ++ [x.cells].flatten ++ (M2.map Ord.cells).flatten := by simp [flatO]
  rw [e1, e2]
  exact h
theorem rof_any (q : Rb w rb (N : Int) (most : Int) L A cap) (s : Int) : Calls Tryz.prog 99 #[.pointer (some ⟨rb, 0, none⟩), .int .i64 s] w fun e w' => (∃ v, e = .returned v ∧ w'.ownsRow w.heap.size 30 7 v (srt s L).length (flatO (srt s L))) ∧ Below w.heap.size w w' := by
  have hlen := q.len
  have hrl := q.hd.lt
  go_enter Tryz.func99, Tryz.ntmps99
  go_wp2_with fail
  go_loopw [5, 6] (fun v i wr => ∃ (k : Nat) (vv : Value), v = vv ∧ i = .int .i64 k ∧ k ≤ L.length ∧ wr.ownsRow w.heap.size 30 7 vv (srt s (L.take k)).length (flatO (srt s (L.take k))) ∧ Below w.heap.size w wr) (fun _ i _ => L.length - (intOf i).toNat)
  case atStart => exact ⟨0, _, rfl, rfl, Nat.zero_le _, World.ownsRow_nil _ _ _ _, Below.refl _ _⟩
  case round =>
    obtain ⟨k, vv, rfl, rfl, hk, hown, hb⟩ := hrel
    have qr := q.ext hb
    have c0 : wr.cell? ⟨rb, 2, none⟩ = some (.slice A L.length cap) := qr.hd.cell 2
    have hll : (srt s (L.take k)).length ≤ 1000 := Nat.le_trans (srt_len _ _) (by simp; omega)
    by_cases hlt : k < L.length
    · have e1 : (k : Int) < (L.length : Int) := by omega
      obtain ⟨b, o, rfl, hrg⟩ := qr.at hlt
      have h0 : wr.cell? ⟨b, o + k * 7 + 2, none⟩ = some (.int .i64 L[k].side) := hrg 2 _ rfl
      have h1 : wr.cell? ⟨b, o + k * 7 + 3, none⟩ = some (.int .i64 L[k].price) := hrg 3 _ rfl
      by_cases hs : L[k].side = s
      · have H1 := Lib.hid ((srt_take hlt).trans (if_pos hs))
        rw [hs] at h0
        obtain ⟨A0, cap1, rfl, hrd, hfit, hnil, hfar⟩ := owns_o7 hown
        obtain ⟨t, ht1, ht2, ht3, ht4⟩ := cutB s L[k] (srt s (L.take k))
        obtain ⟨b9, o9, e9, hrg9⟩ := q.at hlt
        cases e9
        have g0 : w.cell? ⟨b, o + k * 7, none⟩ = some (.int .i64 L[k].id) := hrg9 0 _ rfl
        have g1 : w.cell? ⟨b, o + k * 7 + 1, none⟩ = some (.int .i64 L[k].owner) := hrg9 1 _ rfl
        have g2 : w.cell? ⟨b, o + k * 7 + 2, none⟩ = some (.int .i64 L[k].side) := hrg9 2 _ rfl
        have g3 : w.cell? ⟨b, o + k * 7 + 3, none⟩ = some (.int .i64 L[k].price) := hrg9 3 _ rfl
        have g4 : w.cell? ⟨b, o + k * 7 + 4, none⟩ = some (.int .i64 L[k].qty) := hrg9 4 _ rfl
        have g5 : w.cell? ⟨b, o + k * 7 + 5, none⟩ = some (.int .i64 L[k].flags) := hrg9 5 _ rfl
        have g6 : w.cell? ⟨b, o + k * 7 + 6, none⟩ = some (.int .i64 L[k].seq) := hrg9 6 _ rfl
        have hbl := cell_lt g0
        have H4 := Lib.hid ht4
        have hz0 := hb.size
        clear ht4 hown
        generalize srt s (L.take k) = M at *
        have hx1 : L[k].side = s := hs
        generalize L[k] = x at *
        go_wp2_with fail
        obtain ⟨wo, hwo⟩ : ∃ W, W = wr := ⟨_, rfl⟩
        subst hwo
        go_loopw [7] (fun j wj => ∃ m : Nat, j = .int .i64 m ∧ m ≤ t ∧ Below wo.heap.size wo wj) (fun j _ => t + 1 - (intOf j).toNat)
        case atStart => exact ⟨0, rfl, Nat.zero_le _, Below.refl _ _⟩
        case round =>
          obtain ⟨m, rfl, hm, hbj⟩ := hrel
          have hzj := hbj.size
          have c0j : wr.cell? ⟨rb, 2, none⟩ = some (.slice (some ⟨b, o, none⟩) L.length cap) := ((q.ext hb).ext hbj).hd.cell 2
          have h1j : wr.cell? ⟨b, o + k * 7 + 3, none⟩ = some (.int .i64 x.price) := (hbj.cell (p := ⟨b, o + k * 7 + 3, none⟩) (cell_lt h1)).trans h1
          have lj1 : rb < wr.heap.size := by omega
          have lj2 : b < wr.heap.size := by omega
          by_cases hmt : m < t
          · have hmM : m < M.length := by omega
            obtain ⟨b1, o1, rfl, hc1⟩ := hrd.at hmM
            have hi0 : wo.cell? ⟨b1, o1 + m * 7 + 3, none⟩ = some (.int .i64 M[m].price) := by have := hc1 3 _ rfl; rwa [← Nat.add_assoc] at this
            have hi1 : wr.cell? ⟨b1, o1 + m * 7 + 3, none⟩ = some (.int .i64 M[m].price) := (hbj.cell (p := ⟨b1, o1 + m * 7 + 3, none⟩) (cell_lt hi0)).trans hi0
            have lj3 : b1 < wr.heap.size := cell_lt hi1
            have e2 : (m : Int) < (M.length : Int) := by omega
            have e3 := ht2 m hmM hmt
            have HBt := Lib.hid (fun W => by have h := Bk.rbetter_any s x.price M[m].price W; rw [e3] at h; exact h)
            have e5 : decide ((m : Int) < (M.length : Int)) = true := decide_eq_true e2
            clear hc1 hi0
            go_wp2_with fail
            refine wp_region_below_lit (by kernel_rfl) (by kernel_rfl) ?_
            repeat (first | go_big_quiet_skip | (go_big_quiet_want; go_big_quiet_op; go_big_quiet_on) | (refine q_load_fld (by rfl) _ _ (by rfl) (fun _ h => h) _ _ (by rfl) ?_ ?_ ?_ ?_ ?_ ?_; rotate_left; (next => (repeat (first | (with_reducible refine BlkAt.new _ _ _ _ ?_; ((try simp) <;> omega)) | (with_reducible assumption) | (with_reducible refine Blk.at (t := ?_) ?_; rotate_left; with_reducible assumption) | with_reducible refine BlkAt.alloc ?_ _ | with_reducible refine BlkAt.drew ?_ | (with_reducible refine BlkAt.setSame ?_ _ _) | (with_reducible refine BlkAt.setCell ?_ ?_ _; rotate_left; ((try simp) <;> omega)) | (with_reducible refine BlkAt.ext (w := ?_) ?_ ?_; rotate_left 2; (with_reducible assumption)) | fail))); rotate_left; (next => first | (simp only [go_sem]; rfl) | rfl); (next => kernel_rfl); (try simp only [Act.put, List.setIfInBounds_toArray, List.set_cons_zero, List.set_cons_succ])) | (refine q_rem (by rfl) _ _ _ _ (by rfl) _ _ (by rfl) (by rfl) (by kernel_rfl) (by kernel_rfl) ?_ ?_; (next => omega); (try simp only [Act.put, List.setIfInBounds_toArray, List.set_cons_zero, List.set_cons_succ])) | (refine q_step_ex (by rfl) ?_; apply Exists.intro; refine ⟨fun W hW => ?_, ?_⟩; (next => (have hWc := fun (b o : Nat) (h : b < _) => (Ext.out hW).cell (p := ⟨b, o, none⟩) h); (try have hLK := HLK.out W (Ext.out hW)); go_simp; first | rfl | (go_at_call 100; refine (HBt.out _).mono ?_; rintro e w'' ⟨rfl, rfl⟩; exact ⟨rfl, hW⟩) | fail); (try simp only [Act.put, List.setIfInBounds_toArray, List.set_cons_zero, List.set_cons_succ])) | fail)
            refine wpQuiet_nil ?_
            intro w8 hb8
            go_wp2_with fail
            go_roundw
            case rel => exact ⟨m + 1, by go_num, by omega, below_ext hbj hb8⟩
            case measure => simp [intOf]; omega
          · obtain rfl : m = t := by omega
            by_cases hmM : m < M.length
            · obtain ⟨b1, o1, rfl, hc1⟩ := hrd.at hmM
              have hi0 : wo.cell? ⟨b1, o1 + m * 7 + 3, none⟩ = some (.int .i64 M[m].price) := by have := hc1 3 _ rfl; rwa [← Nat.add_assoc] at this
              have hi1 : wr.cell? ⟨b1, o1 + m * 7 + 3, none⟩ = some (.int .i64 M[m].price) := (hbj.cell (p := ⟨b1, o1 + m * 7 + 3, none⟩) (cell_lt hi0)).trans hi0
              have lj3 : b1 < wr.heap.size := cell_lt hi1
              have e2 : (m : Int) < (M.length : Int) := by omega
              have e3 := ht3 hmM
              have HBt := Lib.hid (fun W => by have h := Bk.rbetter_any s x.price M[m].price W; rw [e3] at h; exact h)
              have e5 : decide ((m : Int) < (M.length : Int)) = true := decide_eq_true e2
              clear hc1 hi0
              go_wp2_with fail
              refine wp_region_below_lit (by kernel_rfl) (by kernel_rfl) ?_
              repeat (first | go_big_quiet_skip | (go_big_quiet_want; go_big_quiet_op; go_big_quiet_on) | (refine q_load_fld (by rfl) _ _ (by rfl) (fun _ h => h) _ _ (by rfl) ?_ ?_ ?_ ?_ ?_ ?_; rotate_left; (next => (repeat (first | (with_reducible refine BlkAt.new _ _ _ _ ?_; ((try simp) <;> omega)) | (with_reducible assumption) | (with_reducible refine Blk.at (t := ?_) ?_; rotate_left; with_reducible assumption) | with_reducible refine BlkAt.alloc ?_ _ | with_reducible refine BlkAt.drew ?_ | (with_reducible refine BlkAt.setSame ?_ _ _) | (with_reducible refine BlkAt.setCell ?_ ?_ _; rotate_left; ((try simp) <;> omega)) | (with_reducible refine BlkAt.ext (w := ?_) ?_ ?_; rotate_left 2; (with_reducible assumption)) | fail))); rotate_left; (next => first | (simp only [go_sem]; rfl) | rfl); (next => kernel_rfl); (try simp only [Act.put, List.setIfInBounds_toArray, List.set_cons_zero, List.set_cons_succ])) | (refine q_rem (by rfl) _ _ _ _ (by rfl) _ _ (by rfl) (by rfl) (by kernel_rfl) (by kernel_rfl) ?_ ?_; (next => omega); (try simp only [Act.put, List.setIfInBounds_toArray, List.set_cons_zero, List.set_cons_succ])) | (refine q_step_ex (by rfl) ?_; apply Exists.intro; refine ⟨fun W hW => ?_, ?_⟩; (next => (have hWc := fun (b o : Nat) (h : b < _) => (Ext.out hW).cell (p := ⟨b, o, none⟩) h); (try have hLK := HLK.out W (Ext.out hW)); go_simp; first | rfl | (go_at_call 100; refine (HBt.out _).mono ?_; rintro e w'' ⟨rfl, rfl⟩; exact ⟨rfl, hW⟩) | fail); (try simp only [Act.put, List.setIfInBounds_toArray, List.set_cons_zero, List.set_cons_succ])) | fail)
              refine wpQuiet_nil ?_
              intro w8 hb8
              go_wp2_with fail
              have hb08 := below_ext hbj hb8
              obtain ⟨A1, hn1, hr1, hs1'⟩ := cut_head (some ⟨b1, o1, none⟩) M.length cap1 m (by omega) hnil
              obtain ⟨A2, hn2, hr2, hs2'⟩ := cut_tail (some ⟨b1, o1, none⟩) M.length cap1 m (by omega) hfit hnil
              have hs1 := Lib.hid hs1'
              have hs2 := Lib.hid hs2'
              have hl1 : (M.take m).length = m := by simp; omega
              have hl2 : (M.drop m).length = M.length - m := by simp
              have HT : Hid (insO s x M = M.take m ++ x :: M.drop m) := H4
              have hbd : Below wo.heap.size wo w8.drew := hb08.drew
              have hzd : w8.drew.heap.size = w8.heap.size := rfl
              refine wp_region_T (S := SO rb b o k L.length cap x) 18 (by kernel_rfl) ?_
              generalize w8.drew = w1 at hbd hzd ⊢
              have hzo := hbd.size
              have hbw : Below w.heap.size w w1 := hb.trans (hbd.mono hz0)
              have hwz1 : w.heap.size ≤ w1.heap.size := hbw.size
              have HR1 : Hid (∀ W, Below w1.heap.size w1 W → Rd W 7 A1 ((M.take m).map Ord.cells)) := Lib.hid (fun W hW => hr1 W (M.take m) (M.drop m) (by rw [List.take_append_drop]; exact (hrd.below hbd).below hW))
              have HR2 : Hid (∀ W, Below w1.heap.size w1 W → Rd W 7 A2 ((M.drop m).map Ord.cells)) := Lib.hid (fun W hW => hr2 W (M.take m) (M.drop m) hl1 (by rw [List.take_append_drop]) (by rw [List.take_append_drop]; exact (hrd.below hbd).below hW))
              have HS : Hid (∀ W, Below w1.heap.size w1 W → SO rb b o k L.length cap x W) := Lib.hid (fun W hW => ⟨((q.ext hbw).ext hW).hd.cell 2, ((hbw.trans (hW.mono hwz1)).cell (p := ⟨b, o + k * 7, none⟩) (cell_lt g0)).trans g0, ((hbw.trans (hW.mono hwz1)).cell (p := ⟨b, o + k * 7 + 1, none⟩) (cell_lt g1)).trans g1, ((hbw.trans (hW.mono hwz1)).cell (p := ⟨b, o + k * 7 + 2, none⟩) (cell_lt g2)).trans g2, ((hbw.trans (hW.mono hwz1)).cell (p := ⟨b, o + k * 7 + 3, none⟩) (cell_lt g3)).trans g3, ((hbw.trans (hW.mono hwz1)).cell (p := ⟨b, o + k * 7 + 4, none⟩) (cell_lt g4)).trans g4, ((hbw.trans (hW.mono hwz1)).cell (p := ⟨b, o + k * 7 + 5, none⟩) (cell_lt g5)).trans g5, ((hbw.trans (hW.mono hwz1)).cell (p := ⟨b, o + k * 7 + 6, none⟩) (cell_lt g6)).trans g6⟩)
              have hbw1 : Below w1.heap.size w1 w1 := Below.refl _ _
              have hzw1 : w1.heap.size ≤ w1.heap.size := Nat.le_refl _
              generalize M.take m = M1 at *
              generalize M.drop m = M2 at *
              clear hs1' hs2' hr1 hr2 c0j h1j hrg hrg9 c0 h0 h1 qr hs hx1
              have hS := HS.out _ hbw1
              (refine T_take (i := 1) rfl (by kernel_rfl) (fun _ _ _ _ h => h) hS ?_; apply Exists.intro; refine ⟨.inl ⟨by rfl, fun W hW => ?_⟩, ?_⟩; (next => (obtain ⟨hs1, hs2⟩ := hW; go_simp; first | done | rfl)); simp only [Act.put, List.setIfInBounds_toArray, List.set_cons_zero, List.set_cons_succ])
              (refine T_take (i := 2) rfl (by kernel_rfl) (fun _ _ _ _ h => h) hS ?_; apply Exists.intro; refine ⟨.inl ⟨by rfl, fun W hW => ?_⟩, ?_⟩; (next => (obtain ⟨hs1, hs2⟩ := hW; go_simp; first | done | rfl)); simp only [Act.put, List.setIfInBounds_toArray, List.set_cons_zero, List.set_cons_succ])
              (refine T_take (i := 5) rfl (by kernel_rfl) (fun _ _ _ _ h => h) hS ?_; apply Exists.intro; refine ⟨.inl ⟨by rfl, fun W hW => ?_⟩, ?_⟩; (next => (obtain ⟨hs1, hs2⟩ := hW; go_simp; first | done | rfl)); simp only [Act.put, List.setIfInBounds_toArray, List.set_cons_zero, List.set_cons_succ])
              (refine T_take (i := 6) rfl (by kernel_rfl) (fun _ _ _ _ h => h) hS ?_; apply Exists.intro; refine ⟨.inl ⟨by rfl, fun W hW => ?_⟩, ?_⟩; (next => (obtain ⟨hs1, hs2⟩ := hW; go_simp; first | done | rfl)); simp only [Act.put, List.setIfInBounds_toArray, List.set_cons_zero, List.set_cons_succ])
              (refine T_take (i := 7) rfl (by kernel_rfl) (fun _ _ _ _ h => h) hS ?_; apply Exists.intro; refine ⟨.inl ⟨by rfl, fun W hW => ?_⟩, ?_⟩; (next => (obtain ⟨hs1, hs2⟩ := hW; go_simp; first | done | rfl)); simp only [Act.put, List.setIfInBounds_toArray, List.set_cons_zero, List.set_cons_succ])
              (refine T_take (i := 8) rfl (by kernel_rfl) (fun _ _ _ _ h => h) hS ?_; apply Exists.intro; refine ⟨.inl ⟨by rfl, fun W hW => ?_⟩, ?_⟩; (next => (obtain ⟨hs1, hs2⟩ := hW; go_simp; first | done | rfl)); simp only [Act.put, List.setIfInBounds_toArray, List.set_cons_zero, List.set_cons_succ])
              (refine T_take (i := 9) rfl (by kernel_rfl) (fun _ _ _ _ h => h) hS ?_; apply Exists.intro; refine ⟨.inl ⟨by rfl, fun W hW => ?_⟩, ?_⟩; (next => (obtain ⟨hs1, hs2⟩ := hW; go_simp; first | done | rfl)); simp only [Act.put, List.setIfInBounds_toArray, List.set_cons_zero, List.set_cons_succ])
              (refine T_take (i := 10) rfl (by kernel_rfl) (fun _ _ _ _ h => h) hS ?_; apply Exists.intro; refine ⟨.inl ⟨by rfl, fun W hW => ?_⟩, ?_⟩; (next => (obtain ⟨hs1, hs2⟩ := hW; go_simp; first | done | rfl)); simp only [Act.put, List.setIfInBounds_toArray, List.set_cons_zero, List.set_cons_succ])
              (refine T_take (i := 11) rfl (by kernel_rfl) (fun _ _ _ _ h => h) hS ?_; apply Exists.intro; refine ⟨.inl ⟨by rfl, fun W hW => ?_⟩, ?_⟩; (next => (obtain ⟨hs1, hs2⟩ := hW; go_simp; first | done | rfl)); simp only [Act.put, List.setIfInBounds_toArray, List.set_cons_zero, List.set_cons_succ])
              (refine T_take (i := 14) rfl (by kernel_rfl) (fun _ _ _ _ h => h) hS ?_; apply Exists.intro; refine ⟨.inl ⟨by rfl, fun W hW => ?_⟩, ?_⟩; (next => (obtain ⟨hs1, hs2⟩ := hW; go_simp; first | done | rfl)); simp only [Act.put, List.setIfInBounds_toArray, List.set_cons_zero, List.set_cons_succ])
              (refine T_take (i := 15) rfl (by kernel_rfl) (fun _ _ _ _ h => h) hS ?_; apply Exists.intro; refine ⟨.inl ⟨by rfl, fun W hW => ?_⟩, ?_⟩; (next => (obtain ⟨hs1, hs2⟩ := hW; go_simp; first | done | rfl)); simp only [Act.put, List.setIfInBounds_toArray, List.set_cons_zero, List.set_cons_succ])
              (refine T_take (i := 3) rfl (by kernel_rfl) (fun _ _ _ _ h => h) hS ?_; refine ⟨_, y_slice _ _ _ _ _ (by rfl) (by rfl) (fun W _ => hs1.out W), ?_⟩; simp only [Act.put, List.setIfInBounds_toArray, List.set_cons_zero, List.set_cons_succ])
              (refine T_take (i := 16) rfl (by kernel_rfl) (fun _ _ _ _ h => h) hS ?_; refine ⟨_, y_slice _ _ _ _ _ (by rfl) (by rfl) (fun W _ => hs2.out W), ?_⟩; simp only [Act.put, List.setIfInBounds_toArray, List.set_cons_zero, List.set_cons_succ])
              refine T_all [0, 12] (by kernel_rfl) (by decide) ?_
              intro j hj
              simp only [List.mem_cons, List.mem_nil_iff, or_false, List.not_mem_nil] at hj
              rcases hj with rfl | rfl
              · refine T_op rfl (by rfl) ?_
                refine wp_build0 _ 30 (by rfl) 7 Tryz.underlying55 (by kernel_rfl) w1.heap.size hzw1 ?_
                intro wa hown0 hbswa hzswa
                have hbwa : Below w1.heap.size w1 wa := hbw1.trans (hbswa.mono hzw1)
                have hzwa : w1.heap.size ≤ wa.heap.size := hbwa.size
                refine ⟨.inr (HS.out _ hbwa), ?_⟩
                simp only [Act.put, List.setIfInBounds_toArray, List.set_cons_zero, List.set_cons_succ]
                refine T_all [4, 12] (by kernel_rfl) (by decide) ?_
                intro j hj
                simp only [List.mem_cons, List.mem_nil_iff, or_false, List.not_mem_nil] at hj
                rcases hj with rfl | rfl
                · refine T_op rfl (by rfl) ?_
                  refine wp_append_rd _ _ _ (by rfl) w1.heap.size 30 (.agg #[.int .i64 0, .int .i64 0, .int .i64 0, .int .i64 0, .int .i64 0, .int .i64 0, .int .i64 0]) 7 56 Tryz.underlying55 (by kernel_rfl) ⟨rfl, by decide⟩ _ 0 [] (by rfl) hown0 A1 m cap1 (M1.map Ord.cells) (by rfl) (HR1.out _ hbwa) ⟨by rw [List.length_map, hl1], ord_ok _⟩ hn1 ⟨by unfold maxLen; omega, by omega⟩ hzwa ?_
                  intro v1 wb hown1 hbswb hzswb hkwb
                  have hbwb : Below w1.heap.size w1 wb := hbwa.trans hbswb
                  have hzwb : w1.heap.size ≤ wb.heap.size := hbwb.size
                  refine ⟨.inr (HS.out _ hbwb), ?_⟩
                  simp only [Act.put, List.setIfInBounds_toArray, List.set_cons_zero, List.set_cons_succ]
                  refine T_all [12] (by kernel_rfl) (by decide) ?_
                  intro j hj
                  simp only [List.mem_cons, List.mem_nil_iff, or_false, List.not_mem_nil] at hj
                  subst hj
                  refine T_op rfl (by rfl) ?_
                  refine wp_build1 _ 30 _ (by rfl) (.agg #[.int .i64 0, .int .i64 0, .int .i64 0, .int .i64 0, .int .i64 0, .int .i64 0, .int .i64 0]) 7 Tryz.underlying55 (by kernel_rfl) ⟨by decide, by decide⟩ (.agg x.arr) (by rfl) x.arr (by kernel_rfl) ?_
                  intro wc hX hbswc hzswc
                  have hbwc : Below w1.heap.size w1 wc := hbwb.trans (hbswc.mono hzwb)
                  have hzwc : w1.heap.size ≤ wc.heap.size := hbwc.size
                  refine ⟨.inr (HS.out _ hbwc), ?_⟩
                  simp only [Act.put, List.setIfInBounds_toArray, List.set_cons_zero, List.set_cons_succ]
                  have hown1c := owns_ext hown1 hbswc
                  refine T_all [13] (by kernel_rfl) (by decide) ?_
                  intro j hj
                  simp only [List.mem_cons, List.mem_nil_iff, or_false, List.not_mem_nil] at hj
                  subst hj
                  refine T_op rfl (by rfl) ?_
                  refine wp_append_rd _ _ _ (by rfl) w1.heap.size 30 (.agg #[.int .i64 0, .int .i64 0, .int .i64 0, .int .i64 0, .int .i64 0, .int .i64 0, .int .i64 0]) 7 56 Tryz.underlying55 (by kernel_rfl) ⟨rfl, by decide⟩ v1 (0 + m) _ (by rfl) hown1c (some ⟨wb.heap.size, 0, none⟩) 1 1 [x.cells] (by rfl) (rd_own hX (by simp [Ord.cells, Ord.arr]) (n := 1) (by simp [Ord.cells, Ord.arr])) ⟨rfl, by simp [Ord.cells, Value.oneCell']⟩ (fun e => by cases e) ⟨by unfold maxLen; omega, by omega⟩ hzwc ?_
                  intro v2 wy hown2 hbsy hzsy hky
                  have hby : Below w1.heap.size w1 wy := hbwc.trans hbsy
                  have hzy : w1.heap.size ≤ wy.heap.size := hby.size
                  refine ⟨.inr (HS.out _ hby), ?_⟩
                  simp only [Act.put, List.setIfInBounds_toArray, List.set_cons_zero, List.set_cons_succ]
                  refine T_all [17] (by kernel_rfl) (by decide) ?_
                  intro j hj
                  simp only [List.mem_cons, List.mem_nil_iff, or_false, List.not_mem_nil] at hj
                  subst hj
                  refine T_op rfl (by rfl) ?_
                  refine wp_append_rd _ _ _ (by rfl) w1.heap.size 30 (.agg #[.int .i64 0, .int .i64 0, .int .i64 0, .int .i64 0, .int .i64 0, .int .i64 0, .int .i64 0]) 7 56 Tryz.underlying55 (by kernel_rfl) ⟨rfl, by decide⟩ v2 (0 + m + 1) _ (by rfl) hown2 A2 (M.length - m) (cap1 - m) (M2.map Ord.cells) (by rfl) (HR2.out _ hby) ⟨by rw [List.length_map, hl2], ord_ok _⟩ hn2 ⟨by unfold maxLen; omega, by omega⟩ hzy ?_
                  intro v3 wz hown3 hbsz hzsz hkz
                  have hbz : Below w1.heap.size w1 wz := hby.trans hbsz
                  have hzz : w1.heap.size ≤ wz.heap.size := hbz.size
                  refine ⟨.inr (HS.out _ hbz), ?_⟩
                  simp only [Act.put, List.setIfInBounds_toArray, List.set_cons_zero, List.set_cons_succ]
                  refine T_all [18] (by kernel_rfl) (by decide) ?_
                  intro j hj
                  simp only [List.mem_cons, List.mem_nil_iff, or_false, List.not_mem_nil] at hj
                  subst hj
                  refine T_op rfl (by rfl) (wp_calm (v := v3) (by go_simp; first | done | rfl) ⟨.inl rfl, ?_⟩)
                  simp only [Act.put, List.setIfInBounds_toArray, List.set_cons_zero, List.set_cons_succ]
                  refine T_done (by kernel_rfl) ?_
                  go_wp2_with fail
                  go_roundw
                  case rel => exact ⟨k + 1, _, rfl, by go_num, by omega, by rw [H1.out, HT.out]; exact owns_mono (owned_ins hown3 hl1 hl2) hwz1, hbw.trans (hbz.mono hwz1)⟩
                  case measure => simp [intOf]; omega
                · refine T_op rfl (by rfl) ?_
                  refine wp_build1 _ 30 _ (by rfl) (.agg #[.int .i64 0, .int .i64 0, .int .i64 0, .int .i64 0, .int .i64 0, .int .i64 0, .int .i64 0]) 7 Tryz.underlying55 (by kernel_rfl) ⟨by decide, by decide⟩ (.agg x.arr) (by rfl) x.arr (by kernel_rfl) ?_
                  intro wb hX hbswb hzswb
                  have hbwb : Below w1.heap.size w1 wb := hbwa.trans (hbswb.mono hzwa)
                  have hzwb : w1.heap.size ≤ wb.heap.size := hbwb.size
                  refine ⟨.inr (HS.out _ hbwb), ?_⟩
                  simp only [Act.put, List.setIfInBounds_toArray, List.set_cons_zero, List.set_cons_succ]
                  have hown0b := owns_ext hown0 hbswb
                  refine T_all [4] (by kernel_rfl) (by decide) ?_
                  intro j hj
                  simp only [List.mem_cons, List.mem_nil_iff, or_false, List.not_mem_nil] at hj
                  subst hj
                  refine T_op rfl (by rfl) ?_
                  refine wp_append_rd _ _ _ (by rfl) w1.heap.size 30 (.agg #[.int .i64 0, .int .i64 0, .int .i64 0, .int .i64 0, .int .i64 0, .int .i64 0, .int .i64 0]) 7 56 Tryz.underlying55 (by kernel_rfl) ⟨rfl, by decide⟩ _ 0 [] (by rfl) hown0b A1 m cap1 (M1.map Ord.cells) (by rfl) (HR1.out _ hbwb) ⟨by rw [List.length_map, hl1], ord_ok _⟩ hn1 ⟨by unfold maxLen; omega, by omega⟩ hzwb ?_
                  intro v1 wc hown1 hbswc hzswc hkwc
                  have hbwc : Below w1.heap.size w1 wc := hbwb.trans hbswc
                  have hzwc : w1.heap.size ≤ wc.heap.size := hbwc.size
                  refine ⟨.inr (HS.out _ hbwc), ?_⟩
                  simp only [Act.put, List.setIfInBounds_toArray, List.set_cons_zero, List.set_cons_succ]
                  have hXc : Blk wc wa.heap.size 30 _ := (hkwc _ (by have := hX.lt; omega) (fun e => by simp [Value.ownBlock] at e; omega)).trans hX
                  refine T_all [13] (by kernel_rfl) (by decide) ?_
                  intro j hj
                  simp only [List.mem_cons, List.mem_nil_iff, or_false, List.not_mem_nil] at hj
                  subst hj
                  refine T_op rfl (by rfl) ?_
                  refine wp_append_rd _ _ _ (by rfl) w1.heap.size 30 (.agg #[.int .i64 0, .int .i64 0, .int .i64 0, .int .i64 0, .int .i64 0, .int .i64 0, .int .i64 0]) 7 56 Tryz.underlying55 (by kernel_rfl) ⟨rfl, by decide⟩ v1 (0 + m) _ (by rfl) hown1 (some ⟨wa.heap.size, 0, none⟩) 1 1 [x.cells] (by rfl) (rd_own hXc (by simp [Ord.cells, Ord.arr]) (n := 1) (by simp [Ord.cells, Ord.arr])) ⟨rfl, by simp [Ord.cells, Value.oneCell']⟩ (fun e => by cases e) ⟨by unfold maxLen; omega, by omega⟩ hzwc ?_
                  intro v2 wy hown2 hbsy hzsy hky
                  have hby : Below w1.heap.size w1 wy := hbwc.trans hbsy
                  have hzy : w1.heap.size ≤ wy.heap.size := hby.size
                  refine ⟨.inr (HS.out _ hby), ?_⟩
                  simp only [Act.put, List.setIfInBounds_toArray, List.set_cons_zero, List.set_cons_succ]
                  refine T_all [17] (by kernel_rfl) (by decide) ?_
                  intro j hj
                  simp only [List.mem_cons, List.mem_nil_iff, or_false, List.not_mem_nil] at hj
                  subst hj
                  refine T_op rfl (by rfl) ?_
                  refine wp_append_rd _ _ _ (by rfl) w1.heap.size 30 (.agg #[.int .i64 0, .int .i64 0, .int .i64 0, .int .i64 0, .int .i64 0, .int .i64 0, .int .i64 0]) 7 56 Tryz.underlying55 (by kernel_rfl) ⟨rfl, by decide⟩ v2 (0 + m + 1) _ (by rfl) hown2 A2 (M.length - m) (cap1 - m) (M2.map Ord.cells) (by rfl) (HR2.out _ hby) ⟨by rw [List.length_map, hl2], ord_ok _⟩ hn2 ⟨by unfold maxLen; omega, by omega⟩ hzy ?_
                  intro v3 wz hown3 hbsz hzsz hkz
                  have hbz : Below w1.heap.size w1 wz := hby.trans hbsz
                  have hzz : w1.heap.size ≤ wz.heap.size := hbz.size
                  refine ⟨.inr (HS.out _ hbz), ?_⟩
                  simp only [Act.put, List.setIfInBounds_toArray, List.set_cons_zero, List.set_cons_succ]
                  refine T_all [18] (by kernel_rfl) (by decide) ?_
                  intro j hj
                  simp only [List.mem_cons, List.mem_nil_iff, or_false, List.not_mem_nil] at hj
                  subst hj
                  refine T_op rfl (by rfl) (wp_calm (v := v3) (by go_simp; first | done | rfl) ⟨.inl rfl, ?_⟩)
                  simp only [Act.put, List.setIfInBounds_toArray, List.set_cons_zero, List.set_cons_succ]
                  refine T_done (by kernel_rfl) ?_
                  go_wp2_with fail
                  go_roundw
                  case rel => exact ⟨k + 1, _, rfl, by go_num, by omega, by rw [H1.out, HT.out]; exact owns_mono (owned_ins hown3 hl1 hl2) hwz1, hbw.trans (hbz.mono hwz1)⟩
                  case measure => simp [intOf]; omega
              · refine T_op rfl (by rfl) ?_
                refine wp_build1 _ 30 _ (by rfl) (.agg #[.int .i64 0, .int .i64 0, .int .i64 0, .int .i64 0, .int .i64 0, .int .i64 0, .int .i64 0]) 7 Tryz.underlying55 (by kernel_rfl) ⟨by decide, by decide⟩ (.agg x.arr) (by rfl) x.arr (by kernel_rfl) ?_
                intro wa hX hbswa hzswa
                have hbwa : Below w1.heap.size w1 wa := hbw1.trans (hbswa.mono hzw1)
                have hzwa : w1.heap.size ≤ wa.heap.size := hbwa.size
                refine ⟨.inr (HS.out _ hbwa), ?_⟩
                simp only [Act.put, List.setIfInBounds_toArray, List.set_cons_zero, List.set_cons_succ]
                refine T_all [0] (by kernel_rfl) (by decide) ?_
                intro j hj
                simp only [List.mem_cons, List.mem_nil_iff, or_false, List.not_mem_nil] at hj
                subst hj
                refine T_op rfl (by rfl) ?_
                refine wp_build0 _ 30 (by rfl) 7 Tryz.underlying55 (by kernel_rfl) w1.heap.size hzwa ?_
                intro wb hown0 hbswb hzswb
                have hbwb : Below w1.heap.size w1 wb := hbwa.trans (hbswb.mono hzwa)
                have hzwb : w1.heap.size ≤ wb.heap.size := hbwb.size
                refine ⟨.inr (HS.out _ hbwb), ?_⟩
                simp only [Act.put, List.setIfInBounds_toArray, List.set_cons_zero, List.set_cons_succ]
                have hXb := hX.ext hbswb
                refine T_all [4] (by kernel_rfl) (by decide) ?_
                intro j hj
                simp only [List.mem_cons, List.mem_nil_iff, or_false, List.not_mem_nil] at hj
                subst hj
                refine T_op rfl (by rfl) ?_
                refine wp_append_rd _ _ _ (by rfl) w1.heap.size 30 (.agg #[.int .i64 0, .int .i64 0, .int .i64 0, .int .i64 0, .int .i64 0, .int .i64 0, .int .i64 0]) 7 56 Tryz.underlying55 (by kernel_rfl) ⟨rfl, by decide⟩ _ 0 [] (by rfl) hown0 A1 m cap1 (M1.map Ord.cells) (by rfl) (HR1.out _ hbwb) ⟨by rw [List.length_map, hl1], ord_ok _⟩ hn1 ⟨by unfold maxLen; omega, by omega⟩ hzwb ?_
                intro v1 wc hown1 hbswc hzswc hkwc
                have hbwc : Below w1.heap.size w1 wc := hbwb.trans hbswc
                have hzwc : w1.heap.size ≤ wc.heap.size := hbwc.size
                refine ⟨.inr (HS.out _ hbwc), ?_⟩
                simp only [Act.put, List.setIfInBounds_toArray, List.set_cons_zero, List.set_cons_succ]
                have hXc : Blk wc w1.heap.size 30 _ := (hkwc _ (by have := hXb.lt; omega) (fun e => by simp [Value.ownBlock] at e; omega)).trans hXb
                refine T_all [13] (by kernel_rfl) (by decide) ?_
                intro j hj
                simp only [List.mem_cons, List.mem_nil_iff, or_false, List.not_mem_nil] at hj
                subst hj
                refine T_op rfl (by rfl) ?_
                refine wp_append_rd _ _ _ (by rfl) w1.heap.size 30 (.agg #[.int .i64 0, .int .i64 0, .int .i64 0, .int .i64 0, .int .i64 0, .int .i64 0, .int .i64 0]) 7 56 Tryz.underlying55 (by kernel_rfl) ⟨rfl, by decide⟩ v1 (0 + m) _ (by rfl) hown1 (some ⟨w1.heap.size, 0, none⟩) 1 1 [x.cells] (by rfl) (rd_own hXc (by simp [Ord.cells, Ord.arr]) (n := 1) (by simp [Ord.cells, Ord.arr])) ⟨rfl, by simp [Ord.cells, Value.oneCell']⟩ (fun e => by cases e) ⟨by unfold maxLen; omega, by omega⟩ hzwc ?_
                intro v2 wy hown2 hbsy hzsy hky
                have hby : Below w1.heap.size w1 wy := hbwc.trans hbsy
                have hzy : w1.heap.size ≤ wy.heap.size := hby.size
                refine ⟨.inr (HS.out _ hby), ?_⟩
                simp only [Act.put, List.setIfInBounds_toArray, List.set_cons_zero, List.set_cons_succ]
                refine T_all [17] (by kernel_rfl) (by decide) ?_
                intro j hj
                simp only [List.mem_cons, List.mem_nil_iff, or_false, List.not_mem_nil] at hj
                subst hj
                refine T_op rfl (by rfl) ?_
                refine wp_append_rd _ _ _ (by rfl) w1.heap.size 30 (.agg #[.int .i64 0, .int .i64 0, .int .i64 0, .int .i64 0, .int .i64 0, .int .i64 0, .int .i64 0]) 7 56 Tryz.underlying55 (by kernel_rfl) ⟨rfl, by decide⟩ v2 (0 + m + 1) _ (by rfl) hown2 A2 (M.length - m) (cap1 - m) (M2.map Ord.cells) (by rfl) (HR2.out _ hby) ⟨by rw [List.length_map, hl2], ord_ok _⟩ hn2 ⟨by unfold maxLen; omega, by omega⟩ hzy ?_
                intro v3 wz hown3 hbsz hzsz hkz
                have hbz : Below w1.heap.size w1 wz := hby.trans hbsz
                have hzz : w1.heap.size ≤ wz.heap.size := hbz.size
                refine ⟨.inr (HS.out _ hbz), ?_⟩
                simp only [Act.put, List.setIfInBounds_toArray, List.set_cons_zero, List.set_cons_succ]
                refine T_all [18] (by kernel_rfl) (by decide) ?_
                intro j hj
                simp only [List.mem_cons, List.mem_nil_iff, or_false, List.not_mem_nil] at hj
                subst hj
                refine T_op rfl (by rfl) (wp_calm (v := v3) (by go_simp; first | done | rfl) ⟨.inl rfl, ?_⟩)
                simp only [Act.put, List.setIfInBounds_toArray, List.set_cons_zero, List.set_cons_succ]
                refine T_done (by kernel_rfl) ?_
                go_wp2_with fail
                go_roundw
                case rel => exact ⟨k + 1, _, rfl, by go_num, by omega, by rw [H1.out, HT.out]; exact owns_mono (owned_ins hown3 hl1 hl2) hwz1, hbw.trans (hbz.mono hwz1)⟩
                case measure => simp [intOf]; omega
            · have e2 : ¬ (m : Int) < (M.length : Int) := by omega
              have e5 : decide ((m : Int) < (M.length : Int)) = false := decide_eq_false e2
              go_wp2_with fail
              refine wp_region_below_lit (by kernel_rfl) (by kernel_rfl) ?_
              repeat (first | go_big_quiet_skip | (go_big_quiet_want; go_big_quiet_op; go_big_quiet_on) | (refine q_load_fld (by rfl) _ _ (by rfl) (fun _ h => h) _ _ (by rfl) ?_ ?_ ?_ ?_ ?_ ?_; rotate_left; (next => (repeat (first | (with_reducible refine BlkAt.new _ _ _ _ ?_; ((try simp) <;> omega)) | (with_reducible assumption) | (with_reducible refine Blk.at (t := ?_) ?_; rotate_left; with_reducible assumption) | with_reducible refine BlkAt.alloc ?_ _ | with_reducible refine BlkAt.drew ?_ | (with_reducible refine BlkAt.setSame ?_ _ _) | (with_reducible refine BlkAt.setCell ?_ ?_ _; rotate_left; ((try simp) <;> omega)) | (with_reducible refine BlkAt.ext (w := ?_) ?_ ?_; rotate_left 2; (with_reducible assumption)) | fail))); rotate_left; (next => first | (simp only [go_sem]; rfl) | rfl); (next => kernel_rfl); (try simp only [Act.put, List.setIfInBounds_toArray, List.set_cons_zero, List.set_cons_succ])) | (refine q_rem (by rfl) _ _ _ _ (by rfl) _ _ (by rfl) (by rfl) (by kernel_rfl) (by kernel_rfl) ?_ ?_; (next => omega); (try simp only [Act.put, List.setIfInBounds_toArray, List.set_cons_zero, List.set_cons_succ])) | (refine q_step_ex (by rfl) ?_; apply Exists.intro; refine ⟨fun W hW => ?_, ?_⟩; (next => (have hWc := fun (b o : Nat) (h : b < _) => (Ext.out hW).cell (p := ⟨b, o, none⟩) h); (try have hLK := HLK.out W (Ext.out hW)); go_simp; first | rfl | fail | fail); (try simp only [Act.put, List.setIfInBounds_toArray, List.set_cons_zero, List.set_cons_succ])) | fail)
              refine wpQuiet_nil ?_
              intro w8 hb8
              go_wp2_with fail
              have hb08 := below_ext hbj hb8
              obtain ⟨A1, hn1, hr1, hs1'⟩ := cut_head A0 M.length cap1 m (by omega) hnil
              obtain ⟨A2, hn2, hr2, hs2'⟩ := cut_tail A0 M.length cap1 m (by omega) hfit hnil
              have hs1 := Lib.hid hs1'
              have hs2 := Lib.hid hs2'
              have hl1 : (M.take m).length = m := by simp; omega
              have hl2 : (M.drop m).length = M.length - m := by simp
              have HT : Hid (insO s x M = M.take m ++ x :: M.drop m) := H4
              have hbd : Below wo.heap.size wo w8.drew := hb08.drew
              have hzd : w8.drew.heap.size = w8.heap.size := rfl
              refine wp_region_T (S := SO rb b o k L.length cap x) 18 (by kernel_rfl) ?_
              generalize w8.drew = w1 at hbd hzd ⊢
              have hzo := hbd.size
              have hbw : Below w.heap.size w w1 := hb.trans (hbd.mono hz0)
              have hwz1 : w.heap.size ≤ w1.heap.size := hbw.size
              have HR1 : Hid (∀ W, Below w1.heap.size w1 W → Rd W 7 A1 ((M.take m).map Ord.cells)) := Lib.hid (fun W hW => hr1 W (M.take m) (M.drop m) (by rw [List.take_append_drop]; exact (hrd.below hbd).below hW))
              have HR2 : Hid (∀ W, Below w1.heap.size w1 W → Rd W 7 A2 ((M.drop m).map Ord.cells)) := Lib.hid (fun W hW => hr2 W (M.take m) (M.drop m) hl1 (by rw [List.take_append_drop]) (by rw [List.take_append_drop]; exact (hrd.below hbd).below hW))
              have HS : Hid (∀ W, Below w1.heap.size w1 W → SO rb b o k L.length cap x W) := Lib.hid (fun W hW => ⟨((q.ext hbw).ext hW).hd.cell 2, ((hbw.trans (hW.mono hwz1)).cell (p := ⟨b, o + k * 7, none⟩) (cell_lt g0)).trans g0, ((hbw.trans (hW.mono hwz1)).cell (p := ⟨b, o + k * 7 + 1, none⟩) (cell_lt g1)).trans g1, ((hbw.trans (hW.mono hwz1)).cell (p := ⟨b, o + k * 7 + 2, none⟩) (cell_lt g2)).trans g2, ((hbw.trans (hW.mono hwz1)).cell (p := ⟨b, o + k * 7 + 3, none⟩) (cell_lt g3)).trans g3, ((hbw.trans (hW.mono hwz1)).cell (p := ⟨b, o + k * 7 + 4, none⟩) (cell_lt g4)).trans g4, ((hbw.trans (hW.mono hwz1)).cell (p := ⟨b, o + k * 7 + 5, none⟩) (cell_lt g5)).trans g5, ((hbw.trans (hW.mono hwz1)).cell (p := ⟨b, o + k * 7 + 6, none⟩) (cell_lt g6)).trans g6⟩)
              have hbw1 : Below w1.heap.size w1 w1 := Below.refl _ _
              have hzw1 : w1.heap.size ≤ w1.heap.size := Nat.le_refl _
              generalize M.take m = M1 at *
              generalize M.drop m = M2 at *
              clear hs1' hs2' hr1 hr2 c0j h1j hrg hrg9 c0 h0 h1 qr hs hx1
              have hS := HS.out _ hbw1
              (refine T_take (i := 1) rfl (by kernel_rfl) (fun _ _ _ _ h => h) hS ?_; apply Exists.intro; refine ⟨.inl ⟨by rfl, fun W hW => ?_⟩, ?_⟩; (next => (obtain ⟨hs1, hs2⟩ := hW; go_simp; first | done | rfl)); simp only [Act.put, List.setIfInBounds_toArray, List.set_cons_zero, List.set_cons_succ])
              (refine T_take (i := 2) rfl (by kernel_rfl) (fun _ _ _ _ h => h) hS ?_; apply Exists.intro; refine ⟨.inl ⟨by rfl, fun W hW => ?_⟩, ?_⟩; (next => (obtain ⟨hs1, hs2⟩ := hW; go_simp; first | done | rfl)); simp only [Act.put, List.setIfInBounds_toArray, List.set_cons_zero, List.set_cons_succ])
              (refine T_take (i := 5) rfl (by kernel_rfl) (fun _ _ _ _ h => h) hS ?_; apply Exists.intro; refine ⟨.inl ⟨by rfl, fun W hW => ?_⟩, ?_⟩; (next => (obtain ⟨hs1, hs2⟩ := hW; go_simp; first | done | rfl)); simp only [Act.put, List.setIfInBounds_toArray, List.set_cons_zero, List.set_cons_succ])
              (refine T_take (i := 6) rfl (by kernel_rfl) (fun _ _ _ _ h => h) hS ?_; apply Exists.intro; refine ⟨.inl ⟨by rfl, fun W hW => ?_⟩, ?_⟩; (next => (obtain ⟨hs1, hs2⟩ := hW; go_simp; first | done | rfl)); simp only [Act.put, List.setIfInBounds_toArray, List.set_cons_zero, List.set_cons_succ])
              (refine T_take (i := 7) rfl (by kernel_rfl) (fun _ _ _ _ h => h) hS ?_; apply Exists.intro; refine ⟨.inl ⟨by rfl, fun W hW => ?_⟩, ?_⟩; (next => (obtain ⟨hs1, hs2⟩ := hW; go_simp; first | done | rfl)); simp only [Act.put, List.setIfInBounds_toArray, List.set_cons_zero, List.set_cons_succ])
              (refine T_take (i := 8) rfl (by kernel_rfl) (fun _ _ _ _ h => h) hS ?_; apply Exists.intro; refine ⟨.inl ⟨by rfl, fun W hW => ?_⟩, ?_⟩; (next => (obtain ⟨hs1, hs2⟩ := hW; go_simp; first | done | rfl)); simp only [Act.put, List.setIfInBounds_toArray, List.set_cons_zero, List.set_cons_succ])
              (refine T_take (i := 9) rfl (by kernel_rfl) (fun _ _ _ _ h => h) hS ?_; apply Exists.intro; refine ⟨.inl ⟨by rfl, fun W hW => ?_⟩, ?_⟩; (next => (obtain ⟨hs1, hs2⟩ := hW; go_simp; first | done | rfl)); simp only [Act.put, List.setIfInBounds_toArray, List.set_cons_zero, List.set_cons_succ])
              (refine T_take (i := 10) rfl (by kernel_rfl) (fun _ _ _ _ h => h) hS ?_; apply Exists.intro; refine ⟨.inl ⟨by rfl, fun W hW => ?_⟩, ?_⟩; (next => (obtain ⟨hs1, hs2⟩ := hW; go_simp; first | done | rfl)); simp only [Act.put, List.setIfInBounds_toArray, List.set_cons_zero, List.set_cons_succ])
              (refine T_take (i := 11) rfl (by kernel_rfl) (fun _ _ _ _ h => h) hS ?_; apply Exists.intro; refine ⟨.inl ⟨by rfl, fun W hW => ?_⟩, ?_⟩; (next => (obtain ⟨hs1, hs2⟩ := hW; go_simp; first | done | rfl)); simp only [Act.put, List.setIfInBounds_toArray, List.set_cons_zero, List.set_cons_succ])
              (refine T_take (i := 14) rfl (by kernel_rfl) (fun _ _ _ _ h => h) hS ?_; apply Exists.intro; refine ⟨.inl ⟨by rfl, fun W hW => ?_⟩, ?_⟩; (next => (obtain ⟨hs1, hs2⟩ := hW; go_simp; first | done | rfl)); simp only [Act.put, List.setIfInBounds_toArray, List.set_cons_zero, List.set_cons_succ])
              (refine T_take (i := 15) rfl (by kernel_rfl) (fun _ _ _ _ h => h) hS ?_; apply Exists.intro; refine ⟨.inl ⟨by rfl, fun W hW => ?_⟩, ?_⟩; (next => (obtain ⟨hs1, hs2⟩ := hW; go_simp; first | done | rfl)); simp only [Act.put, List.setIfInBounds_toArray, List.set_cons_zero, List.set_cons_succ])
              (refine T_take (i := 3) rfl (by kernel_rfl) (fun _ _ _ _ h => h) hS ?_; refine ⟨_, y_slice _ _ _ _ _ (by rfl) (by rfl) (fun W _ => hs1.out W), ?_⟩; simp only [Act.put, List.setIfInBounds_toArray, List.set_cons_zero, List.set_cons_succ])
              (refine T_take (i := 16) rfl (by kernel_rfl) (fun _ _ _ _ h => h) hS ?_; refine ⟨_, y_slice _ _ _ _ _ (by rfl) (by rfl) (fun W _ => hs2.out W), ?_⟩; simp only [Act.put, List.setIfInBounds_toArray, List.set_cons_zero, List.set_cons_succ])
              refine T_all [0, 12] (by kernel_rfl) (by decide) ?_
              intro j hj
              simp only [List.mem_cons, List.mem_nil_iff, or_false, List.not_mem_nil] at hj
              rcases hj with rfl | rfl
              · refine T_op rfl (by rfl) ?_
                refine wp_build0 _ 30 (by rfl) 7 Tryz.underlying55 (by kernel_rfl) w1.heap.size hzw1 ?_
                intro wa hown0 hbswa hzswa
                have hbwa : Below w1.heap.size w1 wa := hbw1.trans (hbswa.mono hzw1)
                have hzwa : w1.heap.size ≤ wa.heap.size := hbwa.size
                refine ⟨.inr (HS.out _ hbwa), ?_⟩
                simp only [Act.put, List.setIfInBounds_toArray, List.set_cons_zero, List.set_cons_succ]
                refine T_all [4, 12] (by kernel_rfl) (by decide) ?_
                intro j hj
                simp only [List.mem_cons, List.mem_nil_iff, or_false, List.not_mem_nil] at hj
                rcases hj with rfl | rfl
                · refine T_op rfl (by rfl) ?_
                  refine wp_append_rd _ _ _ (by rfl) w1.heap.size 30 (.agg #[.int .i64 0, .int .i64 0, .int .i64 0, .int .i64 0, .int .i64 0, .int .i64 0, .int .i64 0]) 7 56 Tryz.underlying55 (by kernel_rfl) ⟨rfl, by decide⟩ _ 0 [] (by rfl) hown0 A1 m cap1 (M1.map Ord.cells) (by rfl) (HR1.out _ hbwa) ⟨by rw [List.length_map, hl1], ord_ok _⟩ hn1 ⟨by unfold maxLen; omega, by omega⟩ hzwa ?_
                  intro v1 wb hown1 hbswb hzswb hkwb
                  have hbwb : Below w1.heap.size w1 wb := hbwa.trans hbswb
                  have hzwb : w1.heap.size ≤ wb.heap.size := hbwb.size
                  refine ⟨.inr (HS.out _ hbwb), ?_⟩
                  simp only [Act.put, List.setIfInBounds_toArray, List.set_cons_zero, List.set_cons_succ]
                  refine T_all [12] (by kernel_rfl) (by decide) ?_
                  intro j hj
                  simp only [List.mem_cons, List.mem_nil_iff, or_false, List.not_mem_nil] at hj
                  subst hj
                  refine T_op rfl (by rfl) ?_
                  refine wp_build1 _ 30 _ (by rfl) (.agg #[.int .i64 0, .int .i64 0, .int .i64 0, .int .i64 0, .int .i64 0, .int .i64 0, .int .i64 0]) 7 Tryz.underlying55 (by kernel_rfl) ⟨by decide, by decide⟩ (.agg x.arr) (by rfl) x.arr (by kernel_rfl) ?_
                  intro wc hX hbswc hzswc
                  have hbwc : Below w1.heap.size w1 wc := hbwb.trans (hbswc.mono hzwb)
                  have hzwc : w1.heap.size ≤ wc.heap.size := hbwc.size
                  refine ⟨.inr (HS.out _ hbwc), ?_⟩
                  simp only [Act.put, List.setIfInBounds_toArray, List.set_cons_zero, List.set_cons_succ]
                  have hown1c := owns_ext hown1 hbswc
                  refine T_all [13] (by kernel_rfl) (by decide) ?_
                  intro j hj
                  simp only [List.mem_cons, List.mem_nil_iff, or_false, List.not_mem_nil] at hj
                  subst hj
                  refine T_op rfl (by rfl) ?_
                  refine wp_append_rd _ _ _ (by rfl) w1.heap.size 30 (.agg #[.int .i64 0, .int .i64 0, .int .i64 0, .int .i64 0, .int .i64 0, .int .i64 0, .int .i64 0]) 7 56 Tryz.underlying55 (by kernel_rfl) ⟨rfl, by decide⟩ v1 (0 + m) _ (by rfl) hown1c (some ⟨wb.heap.size, 0, none⟩) 1 1 [x.cells] (by rfl) (rd_own hX (by simp [Ord.cells, Ord.arr]) (n := 1) (by simp [Ord.cells, Ord.arr])) ⟨rfl, by simp [Ord.cells, Value.oneCell']⟩ (fun e => by cases e) ⟨by unfold maxLen; omega, by omega⟩ hzwc ?_
                  intro v2 wy hown2 hbsy hzsy hky
                  have hby : Below w1.heap.size w1 wy := hbwc.trans hbsy
                  have hzy : w1.heap.size ≤ wy.heap.size := hby.size
                  refine ⟨.inr (HS.out _ hby), ?_⟩
                  simp only [Act.put, List.setIfInBounds_toArray, List.set_cons_zero, List.set_cons_succ]
                  refine T_all [17] (by kernel_rfl) (by decide) ?_
                  intro j hj
                  simp only [List.mem_cons, List.mem_nil_iff, or_false, List.not_mem_nil] at hj
                  subst hj
                  refine T_op rfl (by rfl) ?_
                  refine wp_append_rd _ _ _ (by rfl) w1.heap.size 30 (.agg #[.int .i64 0, .int .i64 0, .int .i64 0, .int .i64 0, .int .i64 0, .int .i64 0, .int .i64 0]) 7 56 Tryz.underlying55 (by kernel_rfl) ⟨rfl, by decide⟩ v2 (0 + m + 1) _ (by rfl) hown2 A2 (M.length - m) (cap1 - m) (M2.map Ord.cells) (by rfl) (HR2.out _ hby) ⟨by rw [List.length_map, hl2], ord_ok _⟩ hn2 ⟨by unfold maxLen; omega, by omega⟩ hzy ?_
                  intro v3 wz hown3 hbsz hzsz hkz
                  have hbz : Below w1.heap.size w1 wz := hby.trans hbsz
                  have hzz : w1.heap.size ≤ wz.heap.size := hbz.size
                  refine ⟨.inr (HS.out _ hbz), ?_⟩
                  simp only [Act.put, List.setIfInBounds_toArray, List.set_cons_zero, List.set_cons_succ]
                  refine T_all [18] (by kernel_rfl) (by decide) ?_
                  intro j hj
                  simp only [List.mem_cons, List.mem_nil_iff, or_false, List.not_mem_nil] at hj
                  subst hj
                  refine T_op rfl (by rfl) (wp_calm (v := v3) (by go_simp; first | done | rfl) ⟨.inl rfl, ?_⟩)
                  simp only [Act.put, List.setIfInBounds_toArray, List.set_cons_zero, List.set_cons_succ]
                  refine T_done (by kernel_rfl) ?_
                  go_wp2_with fail
                  go_roundw
                  case rel => exact ⟨k + 1, _, rfl, by go_num, by omega, by rw [H1.out, HT.out]; exact owns_mono (owned_ins hown3 hl1 hl2) hwz1, hbw.trans (hbz.mono hwz1)⟩
                  case measure => simp [intOf]; omega
                · refine T_op rfl (by rfl) ?_
                  refine wp_build1 _ 30 _ (by rfl) (.agg #[.int .i64 0, .int .i64 0, .int .i64 0, .int .i64 0, .int .i64 0, .int .i64 0, .int .i64 0]) 7 Tryz.underlying55 (by kernel_rfl) ⟨by decide, by decide⟩ (.agg x.arr) (by rfl) x.arr (by kernel_rfl) ?_
                  intro wb hX hbswb hzswb
                  have hbwb : Below w1.heap.size w1 wb := hbwa.trans (hbswb.mono hzwa)
                  have hzwb : w1.heap.size ≤ wb.heap.size := hbwb.size
                  refine ⟨.inr (HS.out _ hbwb), ?_⟩
                  simp only [Act.put, List.setIfInBounds_toArray, List.set_cons_zero, List.set_cons_succ]
                  have hown0b := owns_ext hown0 hbswb
                  refine T_all [4] (by kernel_rfl) (by decide) ?_
                  intro j hj
                  simp only [List.mem_cons, List.mem_nil_iff, or_false, List.not_mem_nil] at hj
                  subst hj
                  refine T_op rfl (by rfl) ?_
                  refine wp_append_rd _ _ _ (by rfl) w1.heap.size 30 (.agg #[.int .i64 0, .int .i64 0, .int .i64 0, .int .i64 0, .int .i64 0, .int .i64 0, .int .i64 0]) 7 56 Tryz.underlying55 (by kernel_rfl) ⟨rfl, by decide⟩ _ 0 [] (by rfl) hown0b A1 m cap1 (M1.map Ord.cells) (by rfl) (HR1.out _ hbwb) ⟨by rw [List.length_map, hl1], ord_ok _⟩ hn1 ⟨by unfold maxLen; omega, by omega⟩ hzwb ?_
                  intro v1 wc hown1 hbswc hzswc hkwc
                  have hbwc : Below w1.heap.size w1 wc := hbwb.trans hbswc
                  have hzwc : w1.heap.size ≤ wc.heap.size := hbwc.size
                  refine ⟨.inr (HS.out _ hbwc), ?_⟩
                  simp only [Act.put, List.setIfInBounds_toArray, List.set_cons_zero, List.set_cons_succ]
                  have hXc : Blk wc wa.heap.size 30 _ := (hkwc _ (by have := hX.lt; omega) (fun e => by simp [Value.ownBlock] at e; omega)).trans hX
                  refine T_all [13] (by kernel_rfl) (by decide) ?_
                  intro j hj
                  simp only [List.mem_cons, List.mem_nil_iff, or_false, List.not_mem_nil] at hj
                  subst hj
                  refine T_op rfl (by rfl) ?_
                  refine wp_append_rd _ _ _ (by rfl) w1.heap.size 30 (.agg #[.int .i64 0, .int .i64 0, .int .i64 0, .int .i64 0, .int .i64 0, .int .i64 0, .int .i64 0]) 7 56 Tryz.underlying55 (by kernel_rfl) ⟨rfl, by decide⟩ v1 (0 + m) _ (by rfl) hown1 (some ⟨wa.heap.size, 0, none⟩) 1 1 [x.cells] (by rfl) (rd_own hXc (by simp [Ord.cells, Ord.arr]) (n := 1) (by simp [Ord.cells, Ord.arr])) ⟨rfl, by simp [Ord.cells, Value.oneCell']⟩ (fun e => by cases e) ⟨by unfold maxLen; omega, by omega⟩ hzwc ?_
                  intro v2 wy hown2 hbsy hzsy hky
                  have hby : Below w1.heap.size w1 wy := hbwc.trans hbsy
                  have hzy : w1.heap.size ≤ wy.heap.size := hby.size
                  refine ⟨.inr (HS.out _ hby), ?_⟩
                  simp only [Act.put, List.setIfInBounds_toArray, List.set_cons_zero, List.set_cons_succ]
                  refine T_all [17] (by kernel_rfl) (by decide) ?_
                  intro j hj
                  simp only [List.mem_cons, List.mem_nil_iff, or_false, List.not_mem_nil] at hj
                  subst hj
                  refine T_op rfl (by rfl) ?_
                  refine wp_append_rd _ _ _ (by rfl) w1.heap.size 30 (.agg #[.int .i64 0, .int .i64 0, .int .i64 0, .int .i64 0, .int .i64 0, .int .i64 0, .int .i64 0]) 7 56 Tryz.underlying55 (by kernel_rfl) ⟨rfl, by decide⟩ v2 (0 + m + 1) _ (by rfl) hown2 A2 (M.length - m) (cap1 - m) (M2.map Ord.cells) (by rfl) (HR2.out _ hby) ⟨by rw [List.length_map, hl2], ord_ok _⟩ hn2 ⟨by unfold maxLen; omega, by omega⟩ hzy ?_
                  intro v3 wz hown3 hbsz hzsz hkz
                  have hbz : Below w1.heap.size w1 wz := hby.trans hbsz
                  have hzz : w1.heap.size ≤ wz.heap.size := hbz.size
                  refine ⟨.inr (HS.out _ hbz), ?_⟩
                  simp only [Act.put, List.setIfInBounds_toArray, List.set_cons_zero, List.set_cons_succ]
                  refine T_all [18] (by kernel_rfl) (by decide) ?_
                  intro j hj
                  simp only [List.mem_cons, List.mem_nil_iff, or_false, List.not_mem_nil] at hj
                  subst hj
                  refine T_op rfl (by rfl) (wp_calm (v := v3) (by go_simp; first | done | rfl) ⟨.inl rfl, ?_⟩)
                  simp only [Act.put, List.setIfInBounds_toArray, List.set_cons_zero, List.set_cons_succ]
                  refine T_done (by kernel_rfl) ?_
                  go_wp2_with fail
                  go_roundw
                  case rel => exact ⟨k + 1, _, rfl, by go_num, by omega, by rw [H1.out, HT.out]; exact owns_mono (owned_ins hown3 hl1 hl2) hwz1, hbw.trans (hbz.mono hwz1)⟩
                  case measure => simp [intOf]; omega
              · refine T_op rfl (by rfl) ?_
                refine wp_build1 _ 30 _ (by rfl) (.agg #[.int .i64 0, .int .i64 0, .int .i64 0, .int .i64 0, .int .i64 0, .int .i64 0, .int .i64 0]) 7 Tryz.underlying55 (by kernel_rfl) ⟨by decide, by decide⟩ (.agg x.arr) (by rfl) x.arr (by kernel_rfl) ?_
                intro wa hX hbswa hzswa
                have hbwa : Below w1.heap.size w1 wa := hbw1.trans (hbswa.mono hzw1)
                have hzwa : w1.heap.size ≤ wa.heap.size := hbwa.size
                refine ⟨.inr (HS.out _ hbwa), ?_⟩
                simp only [Act.put, List.setIfInBounds_toArray, List.set_cons_zero, List.set_cons_succ]
                refine T_all [0] (by kernel_rfl) (by decide) ?_
                intro j hj
                simp only [List.mem_cons, List.mem_nil_iff, or_false, List.not_mem_nil] at hj
                subst hj
                refine T_op rfl (by rfl) ?_
                refine wp_build0 _ 30 (by rfl) 7 Tryz.underlying55 (by kernel_rfl) w1.heap.size hzwa ?_
                intro wb hown0 hbswb hzswb
                have hbwb : Below w1.heap.size w1 wb := hbwa.trans (hbswb.mono hzwa)
                have hzwb : w1.heap.size ≤ wb.heap.size := hbwb.size
                refine ⟨.inr (HS.out _ hbwb), ?_⟩
                simp only [Act.put, List.setIfInBounds_toArray, List.set_cons_zero, List.set_cons_succ]
                have hXb := hX.ext hbswb
                refine T_all [4] (by kernel_rfl) (by decide) ?_
                intro j hj
                simp only [List.mem_cons, List.mem_nil_iff, or_false, List.not_mem_nil] at hj
                subst hj
                refine T_op rfl (by rfl) ?_
                refine wp_append_rd _ _ _ (by rfl) w1.heap.size 30 (.agg #[.int .i64 0, .int .i64 0, .int .i64 0, .int .i64 0, .int .i64 0, .int .i64 0, .int .i64 0]) 7 56 Tryz.underlying55 (by kernel_rfl) ⟨rfl, by decide⟩ _ 0 [] (by rfl) hown0 A1 m cap1 (M1.map Ord.cells) (by rfl) (HR1.out _ hbwb) ⟨by rw [List.length_map, hl1], ord_ok _⟩ hn1 ⟨by unfold maxLen; omega, by omega⟩ hzwb ?_
                intro v1 wc hown1 hbswc hzswc hkwc
                have hbwc : Below w1.heap.size w1 wc := hbwb.trans hbswc
                have hzwc : w1.heap.size ≤ wc.heap.size := hbwc.size
                refine ⟨.inr (HS.out _ hbwc), ?_⟩
                simp only [Act.put, List.setIfInBounds_toArray, List.set_cons_zero, List.set_cons_succ]
                have hXc : Blk wc w1.heap.size 30 _ := (hkwc _ (by have := hXb.lt; omega) (fun e => by simp [Value.ownBlock] at e; omega)).trans hXb
                refine T_all [13] (by kernel_rfl) (by decide) ?_
                intro j hj
                simp only [List.mem_cons, List.mem_nil_iff, or_false, List.not_mem_nil] at hj
                subst hj
                refine T_op rfl (by rfl) ?_
                refine wp_append_rd _ _ _ (by rfl) w1.heap.size 30 (.agg #[.int .i64 0, .int .i64 0, .int .i64 0, .int .i64 0, .int .i64 0, .int .i64 0, .int .i64 0]) 7 56 Tryz.underlying55 (by kernel_rfl) ⟨rfl, by decide⟩ v1 (0 + m) _ (by rfl) hown1 (some ⟨w1.heap.size, 0, none⟩) 1 1 [x.cells] (by rfl) (rd_own hXc (by simp [Ord.cells, Ord.arr]) (n := 1) (by simp [Ord.cells, Ord.arr])) ⟨rfl, by simp [Ord.cells, Value.oneCell']⟩ (fun e => by cases e) ⟨by unfold maxLen; omega, by omega⟩ hzwc ?_
                intro v2 wy hown2 hbsy hzsy hky
                have hby : Below w1.heap.size w1 wy := hbwc.trans hbsy
                have hzy : w1.heap.size ≤ wy.heap.size := hby.size
                refine ⟨.inr (HS.out _ hby), ?_⟩
                simp only [Act.put, List.setIfInBounds_toArray, List.set_cons_zero, List.set_cons_succ]
                refine T_all [17] (by kernel_rfl) (by decide) ?_
                intro j hj
                simp only [List.mem_cons, List.mem_nil_iff, or_false, List.not_mem_nil] at hj
                subst hj
                refine T_op rfl (by rfl) ?_
                refine wp_append_rd _ _ _ (by rfl) w1.heap.size 30 (.agg #[.int .i64 0, .int .i64 0, .int .i64 0, .int .i64 0, .int .i64 0, .int .i64 0, .int .i64 0]) 7 56 Tryz.underlying55 (by kernel_rfl) ⟨rfl, by decide⟩ v2 (0 + m + 1) _ (by rfl) hown2 A2 (M.length - m) (cap1 - m) (M2.map Ord.cells) (by rfl) (HR2.out _ hby) ⟨by rw [List.length_map, hl2], ord_ok _⟩ hn2 ⟨by unfold maxLen; omega, by omega⟩ hzy ?_
                intro v3 wz hown3 hbsz hzsz hkz
                have hbz : Below w1.heap.size w1 wz := hby.trans hbsz
                have hzz : w1.heap.size ≤ wz.heap.size := hbz.size
                refine ⟨.inr (HS.out _ hbz), ?_⟩
                simp only [Act.put, List.setIfInBounds_toArray, List.set_cons_zero, List.set_cons_succ]
                refine T_all [18] (by kernel_rfl) (by decide) ?_
                intro j hj
                simp only [List.mem_cons, List.mem_nil_iff, or_false, List.not_mem_nil] at hj
                subst hj
                refine T_op rfl (by rfl) (wp_calm (v := v3) (by go_simp; first | done | rfl) ⟨.inl rfl, ?_⟩)
                simp only [Act.put, List.setIfInBounds_toArray, List.set_cons_zero, List.set_cons_succ]
                refine T_done (by kernel_rfl) ?_
                go_wp2_with fail
                go_roundw
                case rel => exact ⟨k + 1, _, rfl, by go_num, by omega, by rw [H1.out, HT.out]; exact owns_mono (owned_ins hown3 hl1 hl2) hwz1, hbw.trans (hbz.mono hwz1)⟩
                case measure => simp [intOf]; omega
      · have H1 := Lib.hid ((srt_take hlt).trans (if_neg hs))
        have hne : (L[k].side == s) = false := by simpa using hs
        go_wp2_with fail
        go_roundw
        case rel => exact ⟨k + 1, _, rfl, by go_num, by omega, by rw [H1.out]; exact hown, hb⟩
        case measure => simp [intOf]; omega
    · have ht : L.take k = L := List.take_of_length_le (by omega)
      rw [ht] at hown
      go_wp2_with fail
      go_ret
      exact ⟨⟨_, rfl, hown⟩, hb⟩
end
end Rk
end Go.Proofs.YtbnappiaomiciaaGreat
