/- This text proves contracts over lists of nodes: contracts of the package fifo: New, Push, Front, Pop, Remove, Of, Len, over links that are held as data. It has no conditions but those that they state. -/
import Derived.Test.YtgaialcbpglhaaaFifoRem
namespace Go.Proofs.Ytgaialcbpglhaaa
set_option linter.unusedVariables false
open Go.RowKit
namespace Fif
set_option maxHeartbeats 1000000
set_option maxRecDepth 10000

/-- Queues that hold these lists. -/
def Fq (w : World) (g bn be N Q : Nat) (L : Nat → List Nat) : Prop := ∃ s cn ce, FH w g bn be N Q s cn ce ∧ Inv N Q s L
section
variable {w : World} {g bn be N Q : Nat} {L : Nat → List Nat}
theorem Fq.ext {w' : World} (h : Fq w g bn be N Q L) (hb : Below w.heap.size w w') : Fq w' g bn be N Q L := by
  obtain ⟨s, cn, ce, f, I⟩ := h
  exact ⟨s, cn, ce, f.ext hb, I⟩
theorem Fq.lt (h : Fq w g bn be N Q L) : g < w.heap.size ∧ bn < w.heap.size ∧ be < w.heap.size := by
  obtain ⟨s, cn, ce, f, I⟩ := h
  exact ⟨f.hd.lt, f.fbn.lt, f.fbe.lt⟩
theorem Inv.len {N Q : Nat} {s : Fs} {L : Nat → List Nat} (I : Inv N Q s L) {i : Nat} (hi : i < Q) : (L i).length ≤ N := len_le N _ (I.nodup i hi) (I.lt i hi)
/-- Not in any queue. -/
def free (Q : Nat) (L : Nat → List Nat) (n : Nat) : Prop := ∀ j, j < Q → n ∉ L j
theorem q_push_yes (h : Fq w g bn be N Q L) (i n : Nat) (hi : i < Q) (hn : n < N) (hl : free Q L n) :
    Calls Try.prog 73 #[.pointer (some ⟨g, 0, none⟩), .int .i64 i, .int .i64 n] w fun e w' => e = .returned (.bool true) ∧ Fq w' g bn be N Q (up L i (L i ++ [n])) ∧ ButL [bn, be] w.heap.size w w' := by
  obtain ⟨s, cn, ce, f, I⟩ := h
  refine (push_yes f I i n hi hn hl (Nat.le_trans (I.len hi) f.lim.1)).mono ?_
  rintro e w' ⟨h1, ⟨cn', ce', f'⟩, h2⟩
  exact ⟨h1, ⟨_, cn', ce', f', I.push hi hn hl⟩, h2⟩
theorem q_push_busy (h : Fq w g bn be N Q L) (i j n : Nat) (hi : i < Q) (hj : j < Q) (hn : n ∈ L j) :
    Calls Try.prog 73 #[.pointer (some ⟨g, 0, none⟩), .int .i64 i, .int .i64 n] w fun e w' => e = .returned (.bool false) ∧ Below w.heap.size w w' := by
  obtain ⟨s, cn, ce, f, I⟩ := h
  have hN := I.lt j hj n hn
  have hq := I.q hj hn
  have hmid := f.rn hN
  rw [hq] at hmid
  have e1 : (((j : Nat) : Int) == -1) = false := by simp
  have e2 : (s.na n == -1 && (s.nb n == -1 && ((j : Nat) : Int) == -1)) = false := by simp [e1]
  clear hq I
  go_enter Try.func73, Try.ntmps73
  go_wp2_with (first | (go_at_call 112; refine (queue_yes f.hd f.lim i hi).mono ?_; rintro e w' ⟨rfl, rfl⟩) | (go_at_call 113; refine (node_yes f.hd f.lim n hN).mono ?_; rintro e w' ⟨rfl, rfl⟩) | fail)
  refine wp_region_below_lit (by kernel_rfl) (by kernel_rfl) ?_
  repeat (first | go_big_quiet_skip | (go_big_quiet_want; go_big_quiet_op; go_big_quiet_on) | (refine q_load_mid (by rfl) _ _ (by rfl) (fun _ h => h) _ _ (by rfl) _ _ hmid Try.underlying190 rfl (by kernel_rfl) ?_; (try simp only [Act.put, List.setIfInBounds_toArray, List.set_cons_zero, List.set_cons_succ])) | (refine q_nes (by rfl) _ _ _ _ (by rfl) guardLink _ _ _ (by rfl) (by rfl) (fun w => eqLink _ _ _ _ _ _ w) ?_; (try simp only [Act.put, List.setIfInBounds_toArray, List.set_cons_zero, List.set_cons_succ])) | (refine q_load_fld (by rfl) _ _ (by rfl) (fun _ h => h) _ _ (by rfl) ?_ ?_ ?_ ?_ ?_ ?_; rotate_left; (next => (repeat (first | (with_reducible refine BlkAt.new _ _ _ _ ?_; ((try simp) <;> omega)) | (with_reducible assumption) | (with_reducible refine Blk.at (t := ?_) ?_; rotate_left; with_reducible assumption) | with_reducible refine BlkAt.alloc ?_ _ | with_reducible refine BlkAt.drew ?_ | (with_reducible refine BlkAt.setSame ?_ _ _) | (with_reducible refine BlkAt.setCell ?_ ?_ _; rotate_left; ((try simp) <;> omega)) | (with_reducible refine BlkAt.ext (w := ?_) ?_ ?_; rotate_left 2; (with_reducible assumption)) | fail))); rotate_left; (next => first | (simp only [go_sem]; rfl) | rfl); (next => kernel_rfl); (try simp only [Act.put, List.setIfInBounds_toArray, List.set_cons_zero, List.set_cons_succ])) | (refine q_rem (by rfl) _ _ _ _ (by rfl) _ _ (by rfl) (by rfl) (by kernel_rfl) (by kernel_rfl) ?_ ?_; (next => omega); (try simp only [Act.put, List.setIfInBounds_toArray, List.set_cons_zero, List.set_cons_succ])) | (refine q_step_ex (by rfl) ?_; apply Exists.intro; refine ⟨fun W hW => ?_, ?_⟩; (next => (have hWc := fun (b o : Nat) (h : b < _) => (Ext.out hW).cell (p := ⟨b, o, none⟩) h); (try have hLK := HLK.out W (Ext.out hW)); go_simp; first | rfl | (go_at_call 105; refine (loose_any _).mono ?_; rintro e w'' ⟨rfl, hb3⟩; exact ⟨rfl, below_ext hW hb3⟩) | fail); (try simp only [Act.put, List.setIfInBounds_toArray, List.set_cons_zero, List.set_cons_succ])) | fail)
  refine wpQuiet_nil ?_
  intro wq hbq
  go_wp2_with fail
  go_ret
  exact ⟨rfl, by (repeat (first | with_reducible exact Below.refl _ _ | (with_reducible assumption) | (with_reducible refine below_alloc ?_ _) | (with_reducible refine below_ext (w1 := ?_) ?_ ?_; rotate_left 2; (with_reducible assumption)) | (with_reducible refine Below.setCell ?_ ?_ _; rotate_left; ((try simp) <;> omega)) | (with_reducible refine Below.drew ?_) | (with_reducible refine below_drewN ?_ _) | fail))⟩
theorem q_push_node (h : Fq w g bn be N Q L) (i : Nat) (n : Int) (hi : i < Q) (hn : n < 0 ∨ (N : Int) ≤ n) :
    Calls Try.prog 73 #[.pointer (some ⟨g, 0, none⟩), .int .i64 i, .int .i64 n] w fun e w' => e = .returned (.bool false) ∧ Below w.heap.size w w' := by
  obtain ⟨s, cn, ce, f, I⟩ := h
  have HN := Lib.hid hn
  clear I hn
  go_enter Try.func73, Try.ntmps73
  go_wp2_with (first | (go_at_call 112; refine (queue_yes f.hd f.lim i hi).mono ?_; rintro e w' ⟨rfl, rfl⟩) | (go_at_call 113; refine (node_no f.hd f.lim n HN.out).mono ?_; rintro e w' ⟨rfl, rfl⟩) | fail)
  refine wp_region_below_lit (by kernel_rfl) (by kernel_rfl) ?_
  repeat (first | go_big_quiet_skip | (go_big_quiet_want; go_big_quiet_op; go_big_quiet_on) | (refine q_load_fld (by rfl) _ _ (by rfl) (fun _ h => h) _ _ (by rfl) ?_ ?_ ?_ ?_ ?_ ?_; rotate_left; (next => (repeat (first | (with_reducible refine BlkAt.new _ _ _ _ ?_; ((try simp) <;> omega)) | (with_reducible assumption) | (with_reducible refine Blk.at (t := ?_) ?_; rotate_left; with_reducible assumption) | with_reducible refine BlkAt.alloc ?_ _ | with_reducible refine BlkAt.drew ?_ | (with_reducible refine BlkAt.setSame ?_ _ _) | (with_reducible refine BlkAt.setCell ?_ ?_ _; rotate_left; ((try simp) <;> omega)) | (with_reducible refine BlkAt.ext (w := ?_) ?_ ?_; rotate_left 2; (with_reducible assumption)) | fail))); rotate_left; (next => first | (simp only [go_sem]; rfl) | rfl); (next => kernel_rfl); (try simp only [Act.put, List.setIfInBounds_toArray, List.set_cons_zero, List.set_cons_succ])) | (refine q_rem (by rfl) _ _ _ _ (by rfl) _ _ (by rfl) (by rfl) (by kernel_rfl) (by kernel_rfl) ?_ ?_; (next => omega); (try simp only [Act.put, List.setIfInBounds_toArray, List.set_cons_zero, List.set_cons_succ])) | (refine q_step_ex (by rfl) ?_; apply Exists.intro; refine ⟨fun W hW => ?_, ?_⟩; (next => (have hWc := fun (b o : Nat) (h : b < _) => (Ext.out hW).cell (p := ⟨b, o, none⟩) h); (try have hLK := HLK.out W (Ext.out hW)); go_simp; first | rfl | fail); (try simp only [Act.put, List.setIfInBounds_toArray, List.set_cons_zero, List.set_cons_succ])) | fail)
  refine wpQuiet_nil ?_
  intro wq hbq
  go_wp2_with fail
  go_ret
  exact ⟨rfl, by (repeat (first | with_reducible exact Below.refl _ _ | (with_reducible assumption) | (with_reducible refine below_alloc ?_ _) | (with_reducible refine below_ext (w1 := ?_) ?_ ?_; rotate_left 2; (with_reducible assumption)) | (with_reducible refine Below.setCell ?_ ?_ _; rotate_left; ((try simp) <;> omega)) | (with_reducible refine Below.drew ?_) | (with_reducible refine below_drewN ?_ _) | fail))⟩
theorem node_some (h : Fq w g bn be N Q L) (n : Int) : ∃ v : Option Addr, Calls Try.prog 113 #[.pointer (some ⟨g, 0, none⟩), .int .i64 n] w fun e w' => e = .returned (.pointer v) ∧ w = w' := by
  obtain ⟨s, cn, ce, f, I⟩ := h
  by_cases hn : n < 0 ∨ (N : Int) ≤ n
  · exact ⟨_, node_no f.hd f.lim n hn⟩
  · obtain ⟨n, rfl⟩ : ∃ m : Nat, n = m := ⟨n.toNat, by omega⟩
    exact ⟨_, node_yes f.hd f.lim n (by omega)⟩
theorem q_push_queue (h : Fq w g bn be N Q L) (i n : Int) (hi : i < 0 ∨ (Q : Int) ≤ i) :
    Calls Try.prog 73 #[.pointer (some ⟨g, 0, none⟩), .int .i64 i, .int .i64 n] w fun e w' => e = .returned (.bool false) ∧ Below w.heap.size w w' := by
  obtain ⟨v, hv⟩ := node_some h n
  obtain ⟨s, cn, ce, f, I⟩ := h
  have HI := Lib.hid hi
  have HV := Lib.hid hv
  clear I hi hv
  go_enter Try.func73, Try.ntmps73
  go_wp2_with (first | (go_at_call 112; refine (queue_no f.hd f.lim i HI.out).mono ?_; rintro e w' ⟨rfl, rfl⟩) | (go_at_call 113; refine HV.out.mono ?_; rintro e w' ⟨rfl, rfl⟩) | fail)
  refine wp_region_below_lit (by kernel_rfl) (by kernel_rfl) ?_
  repeat (first | go_big_quiet_skip | (go_big_quiet_want; go_big_quiet_op; go_big_quiet_on) | (refine q_load_fld (by rfl) _ _ (by rfl) (fun _ h => h) _ _ (by rfl) ?_ ?_ ?_ ?_ ?_ ?_; rotate_left; (next => (repeat (first | (with_reducible refine BlkAt.new _ _ _ _ ?_; ((try simp) <;> omega)) | (with_reducible assumption) | (with_reducible refine Blk.at (t := ?_) ?_; rotate_left; with_reducible assumption) | with_reducible refine BlkAt.alloc ?_ _ | with_reducible refine BlkAt.drew ?_ | (with_reducible refine BlkAt.setSame ?_ _ _) | (with_reducible refine BlkAt.setCell ?_ ?_ _; rotate_left; ((try simp) <;> omega)) | (with_reducible refine BlkAt.ext (w := ?_) ?_ ?_; rotate_left 2; (with_reducible assumption)) | fail))); rotate_left; (next => first | (simp only [go_sem]; rfl) | rfl); (next => kernel_rfl); (try simp only [Act.put, List.setIfInBounds_toArray, List.set_cons_zero, List.set_cons_succ])) | (refine q_rem (by rfl) _ _ _ _ (by rfl) _ _ (by rfl) (by rfl) (by kernel_rfl) (by kernel_rfl) ?_ ?_; (next => omega); (try simp only [Act.put, List.setIfInBounds_toArray, List.set_cons_zero, List.set_cons_succ])) | (refine q_step_ex (by rfl) ?_; apply Exists.intro; refine ⟨fun W hW => ?_, ?_⟩; (next => (have hWc := fun (b o : Nat) (h : b < _) => (Ext.out hW).cell (p := ⟨b, o, none⟩) h); (try have hLK := HLK.out W (Ext.out hW)); go_simp; first | rfl | fail); (try simp only [Act.put, List.setIfInBounds_toArray, List.set_cons_zero, List.set_cons_succ])) | fail)
  refine wpQuiet_nil ?_
  intro wq hbq
  go_wp2_with fail
  go_ret
  exact ⟨rfl, by (repeat (first | with_reducible exact Below.refl _ _ | (with_reducible assumption) | (with_reducible refine below_alloc ?_ _) | (with_reducible refine below_ext (w1 := ?_) ?_ ?_; rotate_left 2; (with_reducible assumption)) | (with_reducible refine Below.setCell ?_ ?_ _; rotate_left; ((try simp) <;> omega)) | (with_reducible refine Below.drew ?_) | (with_reducible refine below_drewN ?_ _) | fail))⟩
theorem q_remove_yes (h : Fq w g bn be N Q L) (i n : Nat) (a b : List Nat) (hi : i < Q) (he : L i = a ++ n :: b) :
    Calls Try.prog 118 #[.pointer (some ⟨g, 0, none⟩), .int .i64 n] w fun e w' => e = .returned (.tuple #[.int .i64 i, .bool true]) ∧ Fq w' g bn be N Q (up L i (a ++ b)) ∧ ButL [bn, be] w.heap.size w w' := by
  obtain ⟨s, cn, ce, f, I⟩ := h
  have hlen := Nat.le_trans (I.len hi) f.lim.1
  have main : Calls Try.prog 118 #[.pointer (some ⟨g, 0, none⟩), .int .i64 n] w fun e w' => e = .returned (.tuple #[.int .i64 i, .bool true]) ∧ (∃ cn' ce', FH w' g bn be N Q (remS s i n a b) cn' ce') ∧ ButL [bn, be] w.heap.size w w' := by
    by_cases ha : a = []
    · cases b with
      | nil => exact rem_nn f I i n a [] hi he ha rfl hlen
      | cons y b0 => exact rem_nb f I i n a (y :: b0) hi he ha y b0 rfl hlen
    · obtain ⟨a0, p, ha'⟩ := snoc_of ha
      cases b with
      | nil => exact rem_an f I i n a [] hi he p a0 ha' rfl hlen
      | cons y b0 => exact rem_ab f I i n a (y :: b0) hi he p a0 ha' y b0 rfl hlen
  refine main.mono ?_
  rintro e w' ⟨h1, ⟨cn', ce', f'⟩, h2⟩
  exact ⟨h1, ⟨_, cn', ce', f', I.remove hi he⟩, h2⟩
theorem q_remove_none (h : Fq w g bn be N Q L) (n : Int) (hn : ∀ k : Nat, n = k → free Q L k) :
    Calls Try.prog 118 #[.pointer (some ⟨g, 0, none⟩), .int .i64 n] w fun e w' => e = .returned (.tuple #[.int .i64 0, .bool false]) ∧ w = w' := by
  obtain ⟨s, cn, ce, f, I⟩ := h
  have HO : Hid (Calls Try.prog 149 #[.pointer (some ⟨g, 0, none⟩), .int .i64 n] w fun e w' => e = .returned (.tuple #[.int .i64 0, .bool false]) ∧ w = w') := by
    refine Lib.hid ?_
    by_cases hr : n < 0 ∨ (N : Int) ≤ n
    · exact of_no f n hr
    · obtain ⟨n, rfl⟩ : ∃ m : Nat, n = m := ⟨n.toNat, by omega⟩
      exact of_loose f n (by omega) (I.loose n (by omega) (hn n rfl)).2.2
  clear hn I
  go_enter Try.func118, Try.ntmps118
  go_wp2_with (first | (go_at_call 149; refine HO.out.mono ?_; rintro e w' ⟨rfl, rfl⟩) | fail)
  go_ret2
  exact ⟨rfl, rfl⟩
end
end Fif
end Go.Proofs.Ytgaialcbpglhaaa
