/- This text proves the contract of fifo's Remove, case by case: contracts of the package fifo: New, Push, Front, Pop, Remove, Of, Len, over links that are held as data. It has no conditions but those that they state. This text proves contracts over lists of nodes: contracts of the package fifo: New, Push, Front, Pop, Remove, Of, Len, over links that are held as data. It has no conditions but those that they state. This text proves how queues are made, and the chapter's example: contracts of the package fifo: New, Push, Front, Pop, Remove, Of, Len, over links that are held as data. It has no conditions but those that they state. -/
import Derived.Test.YtacpjpkhmdcagaaGreatFifo
namespace Go.Proofs.YtacpjpkhmdcagaaGreat
set_option linter.unusedVariables false
open Go.RowKit
namespace Fif
set_option maxHeartbeats 4000000
set_option maxRecDepth 10000
/-! ### Remove -/
section
variable {w : World} {g bn be N Q : Nat} {s : Fs} {cn ce : Array Value} {L : Nat → List Nat}
end
end Fif
end Go.Proofs.YtacpjpkhmdcagaaGreat
namespace Go.Proofs.YtacpjpkhmdcagaaGreat
set_option linter.unusedVariables false
open Go.RowKit
namespace Fif
set_option maxHeartbeats 1000000
set_option maxRecDepth 10000

/-- Queues that hold these lists. -/
def Fq (w : World) (g bn be N Q : Nat) (L : Nat → List Nat) : Prop := ∃ s cn ce, FH w g bn be N Q s cn ce ∧ Inv N Q s L
section
variable {w : World} {g bn be N Q : Nat} {L : Nat → List Nat}
theorem Fq.ext {w' : World} (h : Fq w g bn be N Q L) (hb : Below w.heap.size w w') : Fq w' g bn be N Q L := by
  obtain ⟨s, cn, ce, f, I⟩ := h
  exact ⟨s, cn, ce, f.ext hb, I⟩
theorem Fq.lt (h : Fq w g bn be N Q L) : g < w.heap.size ∧ bn < w.heap.size ∧ be < w.heap.size := by
  obtain ⟨s, cn, ce, f, I⟩ := h
  exact ⟨f.hd.lt, f.fbn.lt, f.fbe.lt⟩
theorem Inv.len {N Q : Nat} {s : Fs} {L : Nat → List Nat} (I : Inv N Q s L) {i : Nat} (hi : i < Q) : (L i).length ≤ N := len_le N _ (I.nodup i hi) (I.lt i hi)
/-- Not in any queue. -/
def free (Q : Nat) (L : Nat → List Nat) (n : Nat) : Prop := ∀ j, j < Q → n ∉ L j
theorem q_push_yes (h : Fq w g bn be N Q L) (i n : Nat) (hi : i < Q) (hn : n < N) (hl : free Q L n) :
    Calls Tryz.prog 51 #[.pointer (some ⟨g, 0, none⟩), .int .i64 i, .int .i64 n] w fun e w' => e = .returned (.bool true) ∧ Fq w' g bn be N Q (up L i (L i ++ [n])) ∧ ButL [bn, be] w.heap.size w w' := by
  obtain ⟨s, cn, ce, f, I⟩ := h
  refine (push_yes f I i n hi hn hl (Nat.le_trans (I.len hi) f.lim.1)).mono ?_
  rintro e w' ⟨h1, ⟨cn', ce', f'⟩, h2⟩
  exact ⟨h1, ⟨_, cn', ce', f', I.push hi hn hl⟩, h2⟩
theorem q_push_busy (h : Fq w g bn be N Q L) (i j n : Nat) (hi : i < Q) (hj : j < Q) (hn : n ∈ L j) :
    Calls Tryz.prog 51 #[.pointer (some ⟨g, 0, none⟩), .int .i64 i, .int .i64 n] w fun e w' => e = .returned (.bool false) ∧ Below w.heap.size w w' := by
  obtain ⟨s, cn, ce, f, I⟩ := h
  have hN := I.lt j hj n hn
  have hq := I.q hj hn
  have hmid := f.rn hN
  rw [hq] at hmid
  have e1 : (((j : Nat) : Int) == -1) = false := by simp
  have e2 : (s.na n == -1 && (s.nb n == -1 && ((j : Nat) : Int) == -1)) = false := by simp [e1]
  clear hq I
  go_enter Tryz.func51, Tryz.ntmps51
  go_wp2_with (first | (go_at_call 76; refine (queue_yes f.hd f.lim i hi).mono ?_; rintro e w' ⟨rfl, rfl⟩) | (go_at_call 77; refine (node_yes f.hd f.lim n hN).mono ?_; rintro e w' ⟨rfl, rfl⟩) | fail)
  refine wp_region_below_lit (by kernel_rfl) (by kernel_rfl) ?_
  repeat (first | go_big_quiet_skip | (go_big_quiet_want; go_big_quiet_op; go_big_quiet_on) | (refine q_load_mid (by rfl) _ _ (by rfl) (fun _ h => h) _ _ (by rfl) _ _ hmid Tryz.underlying148 rfl (by kernel_rfl) ?_; (try simp only [Act.put, List.setIfInBounds_toArray, List.set_cons_zero, List.set_cons_succ])) | (refine q_nes (by rfl) _ _ _ _ (by rfl) guardLink _ _ _ (by rfl) (by rfl) (fun w => eqLink _ _ _ _ _ _ w) ?_; (try simp only [Act.put, List.setIfInBounds_toArray, List.set_cons_zero, List.set_cons_succ])) | (refine q_load_fld (by rfl) _ _ (by rfl) (fun _ h => h) _ _ (by rfl) ?_ ?_ ?_ ?_ ?_ ?_; rotate_left; (next => (repeat (first | (with_reducible refine BlkAt.new _ _ _ _ ?_; ((try simp) <;> omega)) | (with_reducible assumption) | (with_reducible refine Blk.at (t := ?_) ?_; rotate_left; with_reducible assumption) | with_reducible refine BlkAt.alloc ?_ _ | with_reducible refine BlkAt.drew ?_ | (with_reducible refine BlkAt.setSame ?_ _ _) | (with_reducible refine BlkAt.setCell ?_ ?_ _; rotate_left; ((try simp) <;> omega)) | (with_reducible refine BlkAt.ext (w := ?_) ?_ ?_; rotate_left 2; (with_reducible assumption)) | fail))); rotate_left; (next => first | (simp only [go_sem]; rfl) | rfl); (next => kernel_rfl); (try simp only [Act.put, List.setIfInBounds_toArray, List.set_cons_zero, List.set_cons_succ])) | (refine q_rem (by rfl) _ _ _ _ (by rfl) _ _ (by rfl) (by rfl) (by kernel_rfl) (by kernel_rfl) ?_ ?_; (next => omega); (try simp only [Act.put, List.setIfInBounds_toArray, List.set_cons_zero, List.set_cons_succ])) | (refine q_step_ex (by rfl) ?_; apply Exists.intro; refine ⟨fun W hW => ?_, ?_⟩; (next => (have hWc := fun (b o : Nat) (h : b < _) => (Ext.out hW).cell (p := ⟨b, o, none⟩) h); (try have hLK := HLK.out W (Ext.out hW)); go_simp; first | rfl | (go_at_call 68; refine (loose_any _).mono ?_; rintro e w'' ⟨rfl, hb3⟩; exact ⟨rfl, below_ext hW hb3⟩) | fail); (try simp only [Act.put, List.setIfInBounds_toArray, List.set_cons_zero, List.set_cons_succ])) | fail)
  refine wpQuiet_nil ?_
  intro wq hbq
  go_wp2_with fail
  go_ret
  exact ⟨rfl, by (repeat (first | with_reducible exact Below.refl _ _ | (with_reducible assumption) | (with_reducible refine below_alloc ?_ _) | (with_reducible refine below_ext (w1 := ?_) ?_ ?_; rotate_left 2; (with_reducible assumption)) | (with_reducible refine Below.setCell ?_ ?_ _; rotate_left; ((try simp) <;> omega)) | (with_reducible refine Below.drew ?_) | (with_reducible refine below_drewN ?_ _) | fail))⟩
theorem q_push_node (h : Fq w g bn be N Q L) (i : Nat) (n : Int) (hi : i < Q) (hn : n < 0 ∨ (N : Int) ≤ n) :
    Calls Tryz.prog 51 #[.pointer (some ⟨g, 0, none⟩), .int .i64 i, .int .i64 n] w fun e w' => e = .returned (.bool false) ∧ Below w.heap.size w w' := by
  obtain ⟨s, cn, ce, f, I⟩ := h
  have HN := Lib.hid hn
  clear I hn
  go_enter Tryz.func51, Tryz.ntmps51
  go_wp2_with (first | (go_at_call 76; refine (queue_yes f.hd f.lim i hi).mono ?_; rintro e w' ⟨rfl, rfl⟩) | (go_at_call 77; refine (node_no f.hd f.lim n HN.out).mono ?_; rintro e w' ⟨rfl, rfl⟩) | fail)
  refine wp_region_below_lit (by kernel_rfl) (by kernel_rfl) ?_
  repeat (first | go_big_quiet_skip | (go_big_quiet_want; go_big_quiet_op; go_big_quiet_on) | (refine q_load_fld (by rfl) _ _ (by rfl) (fun _ h => h) _ _ (by rfl) ?_ ?_ ?_ ?_ ?_ ?_; rotate_left; (next => (repeat (first | (with_reducible refine BlkAt.new _ _ _ _ ?_; ((try simp) <;> omega)) | (with_reducible assumption) | (with_reducible refine Blk.at (t := ?_) ?_; rotate_left; with_reducible assumption) | with_reducible refine BlkAt.alloc ?_ _ | with_reducible refine BlkAt.drew ?_ | (with_reducible refine BlkAt.setSame ?_ _ _) | (with_reducible refine BlkAt.setCell ?_ ?_ _; rotate_left; ((try simp) <;> omega)) | (with_reducible refine BlkAt.ext (w := ?_) ?_ ?_; rotate_left 2; (with_reducible assumption)) | fail))); rotate_left; (next => first | (simp only [go_sem]; rfl) | rfl); (next => kernel_rfl); (try simp only [Act.put, List.setIfInBounds_toArray, List.set_cons_zero, List.set_cons_succ])) | (refine q_rem (by rfl) _ _ _ _ (by rfl) _ _ (by rfl) (by rfl) (by kernel_rfl) (by kernel_rfl) ?_ ?_; (next => omega); (try simp only [Act.put, List.setIfInBounds_toArray, List.set_cons_zero, List.set_cons_succ])) | (refine q_step_ex (by rfl) ?_; apply Exists.intro; refine ⟨fun W hW => ?_, ?_⟩; (next => (have hWc := fun (b o : Nat) (h : b < _) => (Ext.out hW).cell (p := ⟨b, o, none⟩) h); (try have hLK := HLK.out W (Ext.out hW)); go_simp; first | rfl | fail); (try simp only [Act.put, List.setIfInBounds_toArray, List.set_cons_zero, List.set_cons_succ])) | fail)
  refine wpQuiet_nil ?_
  intro wq hbq
  go_wp2_with fail
  go_ret
  exact ⟨rfl, by (repeat (first | with_reducible exact Below.refl _ _ | (with_reducible assumption) | (with_reducible refine below_alloc ?_ _) | (with_reducible refine below_ext (w1 := ?_) ?_ ?_; rotate_left 2; (with_reducible assumption)) | (with_reducible refine Below.setCell ?_ ?_ _; rotate_left; ((try simp) <;> omega)) | (with_reducible refine Below.drew ?_) | (with_reducible refine below_drewN ?_ _) | fail))⟩
theorem node_some (h : Fq w g bn be N Q L) (n : Int) : ∃ v : Option Addr, Calls Tryz.prog 77 #[.pointer (some ⟨g, 0, none⟩), .int .i64 n] w fun e w' => e = .returned (.pointer v) ∧ w = w' := by
  obtain ⟨s, cn, ce, f, I⟩ := h
  by_cases hn : n < 0 ∨ (N : Int) ≤ n
  · exact ⟨_, node_no f.hd f.lim n hn⟩
  · obtain ⟨n, rfl⟩ : ∃ m : Nat, n = m := ⟨n.toNat, by omega⟩
    exact ⟨_, node_yes f.hd f.lim n (by omega)⟩
theorem q_push_queue (h : Fq w g bn be N Q L) (i n : Int) (hi : i < 0 ∨ (Q : Int) ≤ i) :
    Calls Tryz.prog 51 #[.pointer (some ⟨g, 0, none⟩), .int .i64 i, .int .i64 n] w fun e w' => e = .returned (.bool false) ∧ Below w.heap.size w w' := by
  obtain ⟨v, hv⟩ := node_some h n
  obtain ⟨s, cn, ce, f, I⟩ := h
  have HI := Lib.hid hi
  have HV := Lib.hid hv
  clear I hi hv
  go_enter Tryz.func51, Tryz.ntmps51
  go_wp2_with (first | (go_at_call 76; refine (queue_no f.hd f.lim i HI.out).mono ?_; rintro e w' ⟨rfl, rfl⟩) | (go_at_call 77; refine HV.out.mono ?_; rintro e w' ⟨rfl, rfl⟩) | fail)
  refine wp_region_below_lit (by kernel_rfl) (by kernel_rfl) ?_
  repeat (first | go_big_quiet_skip | (go_big_quiet_want; go_big_quiet_op; go_big_quiet_on) | (refine q_load_fld (by rfl) _ _ (by rfl) (fun _ h => h) _ _ (by rfl) ?_ ?_ ?_ ?_ ?_ ?_; rotate_left; (next => (repeat (first | (with_reducible refine BlkAt.new _ _ _ _ ?_; ((try simp) <;> omega)) | (with_reducible assumption) | (with_reducible refine Blk.at (t := ?_) ?_; rotate_left; with_reducible assumption) | with_reducible refine BlkAt.alloc ?_ _ | with_reducible refine BlkAt.drew ?_ | (with_reducible refine BlkAt.setSame ?_ _ _) | (with_reducible refine BlkAt.setCell ?_ ?_ _; rotate_left; ((try simp) <;> omega)) | (with_reducible refine BlkAt.ext (w := ?_) ?_ ?_; rotate_left 2; (with_reducible assumption)) | fail))); rotate_left; (next => first | (simp only [go_sem]; rfl) | rfl); (next => kernel_rfl); (try simp only [Act.put, List.setIfInBounds_toArray, List.set_cons_zero, List.set_cons_succ])) | (refine q_rem (by rfl) _ _ _ _ (by rfl) _ _ (by rfl) (by rfl) (by kernel_rfl) (by kernel_rfl) ?_ ?_; (next => omega); (try simp only [Act.put, List.setIfInBounds_toArray, List.set_cons_zero, List.set_cons_succ])) | (refine q_step_ex (by rfl) ?_; apply Exists.intro; refine ⟨fun W hW => ?_, ?_⟩; (next => (have hWc := fun (b o : Nat) (h : b < _) => (Ext.out hW).cell (p := ⟨b, o, none⟩) h); (try have hLK := HLK.out W (Ext.out hW)); go_simp; first | rfl | fail); (try simp only [Act.put, List.setIfInBounds_toArray, List.set_cons_zero, List.set_cons_succ])) | fail)
  refine wpQuiet_nil ?_
  intro wq hbq
  go_wp2_with fail
  go_ret
  exact ⟨rfl, by (repeat (first | with_reducible exact Below.refl _ _ | (with_reducible assumption) | (with_reducible refine below_alloc ?_ _) | (with_reducible refine below_ext (w1 := ?_) ?_ ?_; rotate_left 2; (with_reducible assumption)) | (with_reducible refine Below.setCell ?_ ?_ _; rotate_left; ((try simp) <;> omega)) | (with_reducible refine Below.drew ?_) | (with_reducible refine below_drewN ?_ _) | fail))⟩
end
end Fif
end Go.Proofs.YtacpjpkhmdcagaaGreat
namespace Go.Proofs.YtacpjpkhmdcagaaGreat
set_option linter.unusedVariables false
open Go.RowKit
namespace Fif
set_option maxHeartbeats 1000000
set_option maxRecDepth 10000

def zz (k : Nat) : Nat → Int := fun j => if j < k then -1 else 0
theorem zz_succ (k : Nat) : up (zz k) k (-1) = zz (k + 1) := by
  funext i
  by_cases e : i = k
  · subst e; simp [up_same, zz]
  · rw [up_ne _ _ e]
    unfold zz
    by_cases h : i < k
    · rw [if_pos h, if_pos (by omega)]
    · rw [if_neg h, if_neg (by omega)]
theorem up_zero (k : Nat) : up (fun _ => (0 : Int)) k 0 = fun _ => 0 := by
  funext i
  unfold up
  split <;> rfl
theorem tri_zero (n : Nat) : Tri (madeCells #[.int .i64 0, .int .i64 0, .int .i64 0] (n * 3)) n (zz 0) (zz 0) (fun _ => 0) := by
  have h : ∀ k, k < n * 3 → (madeCells #[.int .i64 0, .int .i64 0, .int .i64 0] (n * 3))[k]? = some (Value.int .i64 0) := fun k hk =>
    madeCells_all (fun i hi => by
      match i, hi with
      | 0, _ => rfl
      | 1, _ => rfl
      | 2, _ => rfl) (by decide) _ _ hk
  exact ⟨size_madeCells _ _, fun k hk => ⟨h _ (by omega), h _ (by omega), h _ (by omega)⟩⟩
theorem Tri.full {cs : Array Value} {n : Nat} (t : Tri cs n (zz n) (zz n) (zz n)) : Tri cs n fs0.na fs0.nb fs0.nq := by
  refine ⟨t.1, fun k hk => ?_⟩
  have h := t.2 k hk
  simp only [zz, if_pos hk] at h
  exact h
theorem Tri.full0 {cs : Array Value} {n : Nat} (t : Tri cs n (zz n) (zz n) (fun _ => 0)) : Tri cs n fs0.ef fs0.el fs0.en := by
  refine ⟨t.1, fun k hk => ?_⟩
  have h := t.2 k hk
  simp only [zz, if_pos hk] at h
  exact h
theorem fnew_bad (n q : Int) (w : World) (h : ¬ ((1 ≤ n ∧ n ≤ 500) ∧ 1 ≤ q ∧ q ≤ 400)) :
    Calls Tryz.prog 44 #[.int .i64 n, .int .i64 q] w fun e w' => e = .returned (.tuple #[.pointer none, .int .i64 9]) ∧ w = w' := by
  by_cases h0 : n < 1
  · clear h
    go_enter Tryz.func44, Tryz.ntmps44
    go_wp2_with fail
    go_ret2
    exact ⟨rfl, rfl⟩
  · by_cases h1 : 500 < n
    · clear h
      go_enter Tryz.func44, Tryz.ntmps44
      go_wp2_with fail
      go_ret2
      exact ⟨rfl, rfl⟩
    · by_cases h2 : q < 1
      · clear h
        go_enter Tryz.func44, Tryz.ntmps44
        go_wp2_with fail
        go_ret2
        exact ⟨rfl, rfl⟩
      · have h3 : 400 < q := by omega
        clear h
        go_enter Tryz.func44, Tryz.ntmps44
        go_wp2_with fail
        go_ret2
        exact ⟨rfl, rfl⟩
def FNewPost (N Q : Nat) (w : World) (e : Ending) (w' : World) : Prop :=
  ∃ g bn be, e = .returned (.tuple #[.pointer (some ⟨g, 0, none⟩), .int .i64 0]) ∧ (w.heap.size ≤ g ∧ w.heap.size ≤ bn ∧ w.heap.size ≤ be) ∧ Fq w' g bn be N Q (fun _ => []) ∧ Below w.heap.size w w'
theorem fnew_any (N Q : Nat) (w : World) (h1 : 1 ≤ N ∧ N ≤ 500) (h2 : 1 ≤ Q ∧ Q ≤ 400) :
    Calls Tryz.prog 44 #[.int .i64 N, .int .i64 Q] w (FNewPost N Q w) := by
  obtain ⟨h1a, h1b⟩ := h1
  obtain ⟨h2a, h2b⟩ := h2
  have hm1 : ∀ W : World, (Instr.makeSlice 143 (.int .i64 N) (.int .i64 N)).run Tryz.prog W = .ok (.slice (some ⟨W.heap.size, 0, none⟩) N N) (W.alloc (.cells (madeCells #[.int .i64 0, .int .i64 0, .int .i64 0] (N * 3)) 148)) := fun W => by
    obtain ⟨i, hi, hz, hs, hby⟩ := info_parts (P := Tryz.prog) (e := 148) (z := .agg #[.int .i64 0, .int .i64 0, .int .i64 0]) (size := 3) (bytes := 24) (by kernel_rfl)
    have hr := run_make (P := Tryz.prog) W 143 148 i _ Tryz.underlying143 hi hz .i64 .i64 N N (by omega) (Int.le_refl _) (by rw [hby]; omega) (by omega)
    rw [hs] at hr
    simp only [Int.toNat_natCast] at hr
    exact hr
  have hm2 : ∀ W : World, (Instr.makeSlice 144 (.int .i64 Q) (.int .i64 Q)).run Tryz.prog W = .ok (.slice (some ⟨W.heap.size, 0, none⟩) Q Q) (W.alloc (.cells (madeCells #[.int .i64 0, .int .i64 0, .int .i64 0] (Q * 3)) 151)) := fun W => by
    obtain ⟨i, hi, hz, hs, hby⟩ := info_parts (P := Tryz.prog) (e := 151) (z := .agg #[.int .i64 0, .int .i64 0, .int .i64 0]) (size := 3) (bytes := 24) (by kernel_rfl)
    have hr := run_make (P := Tryz.prog) W 144 151 i _ Tryz.underlying144 hi hz .i64 .i64 Q Q (by omega) (Int.le_refl _) (by rw [hby]; omega) (by omega)
    rw [hs] at hr
    simp only [Int.toNat_natCast] at hr
    exact hr
  go_enter Tryz.func44, Tryz.ntmps44
  go_wp2_with fail
  go_region_with fail
  · have hG : Blk (((w.alloc (.cells (madeCells #[.int .i64 0, .int .i64 0, .int .i64 0] (N * 3)) 148)).alloc (.cells (madeCells #[.int .i64 0, .int .i64 0, .int .i64 0] (Q * 3)) 151)).alloc (.cells #[.slice (some ⟨w.heap.size, 0, none⟩) N N, .slice (some ⟨w.heap.size + 1, 0, none⟩) Q Q] 146)).drew (w.heap.size + 1 + 1) 146 #[.slice (some ⟨w.heap.size, 0, none⟩) N N, .slice (some ⟨w.heap.size + 1, 0, none⟩) Q Q] := (Blk.new _ _ _ _ (by rw [sz_alloc, sz_alloc])).drew
    have hX : Blk (((w.alloc (.cells (madeCells #[.int .i64 0, .int .i64 0, .int .i64 0] (N * 3)) 148)).alloc (.cells (madeCells #[.int .i64 0, .int .i64 0, .int .i64 0] (Q * 3)) 151)).alloc (.cells #[.slice (some ⟨w.heap.size, 0, none⟩) N N, .slice (some ⟨w.heap.size + 1, 0, none⟩) Q Q] 146)).drew w.heap.size 148 (madeCells #[.int .i64 0, .int .i64 0, .int .i64 0] (N * 3)) := (((Blk.new w _ _ _ rfl).alloc _).alloc _).drew
    have hY : Blk (((w.alloc (.cells (madeCells #[.int .i64 0, .int .i64 0, .int .i64 0] (N * 3)) 148)).alloc (.cells (madeCells #[.int .i64 0, .int .i64 0, .int .i64 0] (Q * 3)) 151)).alloc (.cells #[.slice (some ⟨w.heap.size, 0, none⟩) N N, .slice (some ⟨w.heap.size + 1, 0, none⟩) Q Q] 146)).drew (w.heap.size + 1) 151 (madeCells #[.int .i64 0, .int .i64 0, .int .i64 0] (Q * 3)) := ((Blk.new _ _ _ _ (sz_alloc _ _)).alloc _).drew
    have hb0 : Below w.heap.size w (((w.alloc (.cells (madeCells #[.int .i64 0, .int .i64 0, .int .i64 0] (N * 3)) 148)).alloc (.cells (madeCells #[.int .i64 0, .int .i64 0, .int .i64 0] (Q * 3)) 151)).alloc (.cells #[.slice (some ⟨w.heap.size, 0, none⟩) N N, .slice (some ⟨w.heap.size + 1, 0, none⟩) Q Q] 146)).drew := by (repeat (first | with_reducible exact Below.refl _ _ | (with_reducible assumption) | (with_reducible refine below_alloc ?_ _) | (with_reducible refine below_ext (w1 := ?_) ?_ ?_; rotate_left 2; (with_reducible assumption)) | (with_reducible refine Below.setCell ?_ ?_ _; rotate_left; ((try simp) <;> omega)) | (with_reducible refine Below.drew ?_) | (with_reducible refine below_drewN ?_ _) | fail))
    generalize (((w.alloc (.cells (madeCells #[.int .i64 0, .int .i64 0, .int .i64 0] (N * 3)) 148)).alloc (.cells (madeCells #[.int .i64 0, .int .i64 0, .int .i64 0] (Q * 3)) 151)).alloc (.cells #[.slice (some ⟨w.heap.size, 0, none⟩) N N, .slice (some ⟨w.heap.size + 1, 0, none⟩) Q Q] 146)).drew = w0 at *
    have c0 : w0.cell? ⟨w.heap.size + 1 + 1, 0, none⟩ = some (.slice (some ⟨w.heap.size, 0, none⟩) N N) := hG.cell 0
    have zn := tri_zero N
    have ze := tri_zero Q
    go_wp2_with fail
    go_loopw [34] (fun a wr => ∃ k : Nat, a = .int .i64 k ∧ k ≤ N ∧ (∃ cn, Blk wr w.heap.size 148 cn ∧ Tri cn N (zz k) (zz k) (zz k)) ∧ Blk wr (w.heap.size + 1) 151 (madeCells #[.int .i64 0, .int .i64 0, .int .i64 0] (Q * 3)) ∧ Blk wr (w.heap.size + 1 + 1) 146 #[.slice (some ⟨w.heap.size, 0, none⟩) N N, .slice (some ⟨w.heap.size + 1, 0, none⟩) Q Q] ∧ Below w.heap.size w wr) (fun a _ => N - (intOf a).toNat)
    case atStart => exact ⟨0, rfl, Nat.zero_le _, ⟨_, hX, zn⟩, hY, hG, hb0⟩
    case round =>
      obtain ⟨k, rfl, hk, ⟨cn, hbn, tn⟩, hbe, hg, hb⟩ := hrel
      by_cases hlt : k < N
      · have hcn := tn.1
        have e1 : (k : Int) < (N : Int) := by omega
        go_wp2_with fail
        refine wp_region_below_tail 7 (by kernel_rfl) (by kernel_rfl) ?_
        simp only [List.take_succ_cons, List.take_zero, List.drop_succ_cons, List.drop_zero]
        repeat (first | go_big_quiet_skip | (go_big_quiet_want; go_big_quiet_op; go_big_quiet_on) | (refine q_load_fld (by rfl) _ _ (by rfl) (fun _ h => h) _ _ (by rfl) ?_ ?_ ?_ ?_ ?_ ?_; rotate_left; (next => (repeat (first | (with_reducible refine BlkAt.new _ _ _ _ ?_; ((try simp) <;> omega)) | (with_reducible assumption) | (with_reducible refine Blk.at (t := ?_) ?_; rotate_left; with_reducible assumption) | with_reducible refine BlkAt.alloc ?_ _ | with_reducible refine BlkAt.drew ?_ | (with_reducible refine BlkAt.setSame ?_ _ _) | (with_reducible refine BlkAt.setCell ?_ ?_ _; rotate_left; ((try simp) <;> omega)) | (with_reducible refine BlkAt.ext (w := ?_) ?_ ?_; rotate_left 2; (with_reducible assumption)) | fail))); rotate_left; (next => first | (simp only [go_sem]; rfl) | rfl); (next => kernel_rfl); (try simp only [Act.put, List.setIfInBounds_toArray, List.set_cons_zero, List.set_cons_succ])) | (refine q_rem (by rfl) _ _ _ _ (by rfl) _ _ (by rfl) (by rfl) (by kernel_rfl) (by kernel_rfl) ?_ ?_; (next => omega); (try simp only [Act.put, List.setIfInBounds_toArray, List.set_cons_zero, List.set_cons_succ])) | (refine q_step_ex (by rfl) ?_; apply Exists.intro; refine ⟨fun W hW => ?_, ?_⟩; (next => (have hWc := fun (b o : Nat) (h : b < _) => (Ext.out hW).cell (p := ⟨b, o, none⟩) h); (try have hLK := HLK.out W (Ext.out hW)); go_simp; first | rfl | (go_at_call 68; refine (loose_any _).mono ?_; rintro e w'' ⟨rfl, hb3⟩; exact ⟨rfl, below_ext hW hb3⟩) | fail); (try simp only [Act.put, List.setIfInBounds_toArray, List.set_cons_zero, List.set_cons_succ])) | fail)
        refine wpQuiet_nil ?_
        intro wq hbq
        have hbn2 := hbn.ext hbq
        ((with_reducible show wpList _ _ _ (⟨_, .store _ _ _, _, _, _, _⟩ :: _) _ _); refine wpList_store_put (by rfl) _ _ _ (by rfl) _ _ _ (by rfl) (by rfl) _ _ hbn2 ?_ ?_ ?_ ?_; (next => kernel_rfl); (next => rw [rfl3]; omega); (next => first | exact slotArr_one _ _ | exact ordArr_one _ | (simp [Value.oneCell']; done)); intro w5 hbn5 hU5)
        go_wp2_with fail
        have hz := hbq.size
        have hgl := hg.lt
        go_roundw
        case rel => exact ⟨k + 1, by go_num, by omega, ⟨_, hbn5, (tn.all hlt (-1) (-1) (-1)).eq (zz_succ k) (zz_succ k) (zz_succ k)⟩, (hbe.ext hbq).upd (by omega) hU5, (hg.ext hbq).upd (by omega) hU5, below_upd (below_ext hb hbq) (by omega) hU5⟩
        case measure => simp [intOf]; omega
      · have hkN : k = N := by omega
        subst hkN
        have c1 : wr.cell? ⟨w.heap.size + 1 + 1, 1, none⟩ = some (.slice (some ⟨w.heap.size + 1, 0, none⟩) Q Q) := hg.cell 1
        go_wp2_with fail
        obtain ⟨wo, rfl⟩ : ∃ wo : World, wo = wr := ⟨_, rfl⟩
        go_loopw [50] (fun a wr => ∃ j : Nat, a = .int .i64 j ∧ j ≤ Q ∧ Blk wr w.heap.size 148 cn ∧ (∃ ce, Blk wr (w.heap.size + 1) 151 ce ∧ Tri ce Q (zz j) (zz j) (fun _ => 0)) ∧ Blk wr (w.heap.size + 1 + 1) 146 #[.slice (some ⟨w.heap.size, 0, none⟩) k k, .slice (some ⟨w.heap.size + 1, 0, none⟩) Q Q] ∧ Below w.heap.size w wr) (fun a _ => Q - (intOf a).toNat)
        case atStart => exact ⟨0, rfl, Nat.zero_le _, hbn, ⟨_, hbe, ze⟩, hg, hb⟩
        case round =>
          obtain ⟨j, rfl, hj, hbn1, ⟨ce, hbe1, te⟩, hg1, hb1⟩ := hrel
          by_cases hlt2 : j < Q
          · have hce := te.1
            have e1 : (j : Int) < (Q : Int) := by omega
            go_wp2_with fail
            refine wp_region_below_tail 7 (by kernel_rfl) (by kernel_rfl) ?_
            simp only [List.take_succ_cons, List.take_zero, List.drop_succ_cons, List.drop_zero]
            repeat (first | go_big_quiet_skip | (go_big_quiet_want; go_big_quiet_op; go_big_quiet_on) | (refine q_load_fld (by rfl) _ _ (by rfl) (fun _ h => h) _ _ (by rfl) ?_ ?_ ?_ ?_ ?_ ?_; rotate_left; (next => (repeat (first | (with_reducible refine BlkAt.new _ _ _ _ ?_; ((try simp) <;> omega)) | (with_reducible assumption) | (with_reducible refine Blk.at (t := ?_) ?_; rotate_left; with_reducible assumption) | with_reducible refine BlkAt.alloc ?_ _ | with_reducible refine BlkAt.drew ?_ | (with_reducible refine BlkAt.setSame ?_ _ _) | (with_reducible refine BlkAt.setCell ?_ ?_ _; rotate_left; ((try simp) <;> omega)) | (with_reducible refine BlkAt.ext (w := ?_) ?_ ?_; rotate_left 2; (with_reducible assumption)) | fail))); rotate_left; (next => first | (simp only [go_sem]; rfl) | rfl); (next => kernel_rfl); (try simp only [Act.put, List.setIfInBounds_toArray, List.set_cons_zero, List.set_cons_succ])) | (refine q_rem (by rfl) _ _ _ _ (by rfl) _ _ (by rfl) (by rfl) (by kernel_rfl) (by kernel_rfl) ?_ ?_; (next => omega); (try simp only [Act.put, List.setIfInBounds_toArray, List.set_cons_zero, List.set_cons_succ])) | (refine q_step_ex (by rfl) ?_; apply Exists.intro; refine ⟨fun W hW => ?_, ?_⟩; (next => (have hWc := fun (b o : Nat) (h : b < _) => (Ext.out hW).cell (p := ⟨b, o, none⟩) h); (try have hLK := HLK.out W (Ext.out hW)); go_simp; first | rfl | (go_at_call 69; refine (empty_any _).mono ?_; rintro e w'' ⟨rfl, hb3⟩; exact ⟨rfl, below_ext hW hb3⟩) | fail); (try simp only [Act.put, List.setIfInBounds_toArray, List.set_cons_zero, List.set_cons_succ])) | fail)
            refine wpQuiet_nil ?_
            intro wq hbq
            have hbe2 := hbe1.ext hbq
            ((with_reducible show wpList _ _ _ (⟨_, .store _ _ _, _, _, _, _⟩ :: _) _ _); refine wpList_store_put (by rfl) _ _ _ (by rfl) _ _ _ (by rfl) (by rfl) _ _ hbe2 ?_ ?_ ?_ ?_; (next => kernel_rfl); (next => rw [rfl3]; omega); (next => first | exact slotArr_one _ _ | exact ordArr_one _ | (simp [Value.oneCell']; done)); intro w5 hbe5 hU5)
            go_wp2_with fail
            have hz := hbq.size
            have hgl := hg1.lt
            go_roundw
            case rel => exact ⟨j + 1, by go_num, by omega, (hbn1.ext hbq).upd (by omega) hU5, ⟨_, hbe5, (te.all hlt2 (-1) (-1) 0).eq (zz_succ j) (zz_succ j) (up_zero j)⟩, (hg1.ext hbq).upd (by omega) hU5, below_upd (below_ext hb1 hbq) (by omega) hU5⟩
            case measure => simp [intOf]; omega
          · have hjQ : j = Q := by omega
            subst hjQ
            go_wp2_with fail
            go_ret2
            exact ⟨_, _, _, rfl, by omega, ⟨fs0, _, _, ⟨hg1, hbn1, hbe1, tn.full, te.full0, by omega, by omega⟩, inv0 _ _⟩, hb1⟩
  · have hG : Blk (((w.alloc (.cells (madeCells #[.int .i64 0, .int .i64 0, .int .i64 0] (Q * 3)) 151)).alloc (.cells (madeCells #[.int .i64 0, .int .i64 0, .int .i64 0] (N * 3)) 148)).alloc (.cells #[.slice (some ⟨w.heap.size + 1, 0, none⟩) N N, .slice (some ⟨w.heap.size, 0, none⟩) Q Q] 146)).drew (w.heap.size + 1 + 1) 146 #[.slice (some ⟨w.heap.size + 1, 0, none⟩) N N, .slice (some ⟨w.heap.size, 0, none⟩) Q Q] := (Blk.new _ _ _ _ (by rw [sz_alloc, sz_alloc])).drew
    have hX : Blk (((w.alloc (.cells (madeCells #[.int .i64 0, .int .i64 0, .int .i64 0] (Q * 3)) 151)).alloc (.cells (madeCells #[.int .i64 0, .int .i64 0, .int .i64 0] (N * 3)) 148)).alloc (.cells #[.slice (some ⟨w.heap.size + 1, 0, none⟩) N N, .slice (some ⟨w.heap.size, 0, none⟩) Q Q] 146)).drew w.heap.size 151 (madeCells #[.int .i64 0, .int .i64 0, .int .i64 0] (Q * 3)) := (((Blk.new w _ _ _ rfl).alloc _).alloc _).drew
    have hY : Blk (((w.alloc (.cells (madeCells #[.int .i64 0, .int .i64 0, .int .i64 0] (Q * 3)) 151)).alloc (.cells (madeCells #[.int .i64 0, .int .i64 0, .int .i64 0] (N * 3)) 148)).alloc (.cells #[.slice (some ⟨w.heap.size + 1, 0, none⟩) N N, .slice (some ⟨w.heap.size, 0, none⟩) Q Q] 146)).drew (w.heap.size + 1) 148 (madeCells #[.int .i64 0, .int .i64 0, .int .i64 0] (N * 3)) := ((Blk.new _ _ _ _ (sz_alloc _ _)).alloc _).drew
    have hb0 : Below w.heap.size w (((w.alloc (.cells (madeCells #[.int .i64 0, .int .i64 0, .int .i64 0] (Q * 3)) 151)).alloc (.cells (madeCells #[.int .i64 0, .int .i64 0, .int .i64 0] (N * 3)) 148)).alloc (.cells #[.slice (some ⟨w.heap.size + 1, 0, none⟩) N N, .slice (some ⟨w.heap.size, 0, none⟩) Q Q] 146)).drew := by (repeat (first | with_reducible exact Below.refl _ _ | (with_reducible assumption) | (with_reducible refine below_alloc ?_ _) | (with_reducible refine below_ext (w1 := ?_) ?_ ?_; rotate_left 2; (with_reducible assumption)) | (with_reducible refine Below.setCell ?_ ?_ _; rotate_left; ((try simp) <;> omega)) | (with_reducible refine Below.drew ?_) | (with_reducible refine below_drewN ?_ _) | fail))
    generalize (((w.alloc (.cells (madeCells #[.int .i64 0, .int .i64 0, .int .i64 0] (Q * 3)) 151)).alloc (.cells (madeCells #[.int .i64 0, .int .i64 0, .int .i64 0] (N * 3)) 148)).alloc (.cells #[.slice (some ⟨w.heap.size + 1, 0, none⟩) N N, .slice (some ⟨w.heap.size, 0, none⟩) Q Q] 146)).drew = w0 at *
    have c0 : w0.cell? ⟨w.heap.size + 1 + 1, 0, none⟩ = some (.slice (some ⟨w.heap.size + 1, 0, none⟩) N N) := hG.cell 0
    have zn := tri_zero N
    have ze := tri_zero Q
    go_wp2_with fail
    go_loopw [34] (fun a wr => ∃ k : Nat, a = .int .i64 k ∧ k ≤ N ∧ (∃ cn, Blk wr (w.heap.size + 1) 148 cn ∧ Tri cn N (zz k) (zz k) (zz k)) ∧ Blk wr w.heap.size 151 (madeCells #[.int .i64 0, .int .i64 0, .int .i64 0] (Q * 3)) ∧ Blk wr (w.heap.size + 1 + 1) 146 #[.slice (some ⟨w.heap.size + 1, 0, none⟩) N N, .slice (some ⟨w.heap.size, 0, none⟩) Q Q] ∧ Below w.heap.size w wr) (fun a _ => N - (intOf a).toNat)
    case atStart => exact ⟨0, rfl, Nat.zero_le _, ⟨_, hY, zn⟩, hX, hG, hb0⟩
    case round =>
      obtain ⟨k, rfl, hk, ⟨cn, hbn, tn⟩, hbe, hg, hb⟩ := hrel
      by_cases hlt : k < N
      · have hcn := tn.1
        have e1 : (k : Int) < (N : Int) := by omega
        go_wp2_with fail
        refine wp_region_below_tail 7 (by kernel_rfl) (by kernel_rfl) ?_
        simp only [List.take_succ_cons, List.take_zero, List.drop_succ_cons, List.drop_zero]
        repeat (first | go_big_quiet_skip | (go_big_quiet_want; go_big_quiet_op; go_big_quiet_on) | (refine q_load_fld (by rfl) _ _ (by rfl) (fun _ h => h) _ _ (by rfl) ?_ ?_ ?_ ?_ ?_ ?_; rotate_left; (next => (repeat (first | (with_reducible refine BlkAt.new _ _ _ _ ?_; ((try simp) <;> omega)) | (with_reducible assumption) | (with_reducible refine Blk.at (t := ?_) ?_; rotate_left; with_reducible assumption) | with_reducible refine BlkAt.alloc ?_ _ | with_reducible refine BlkAt.drew ?_ | (with_reducible refine BlkAt.setSame ?_ _ _) | (with_reducible refine BlkAt.setCell ?_ ?_ _; rotate_left; ((try simp) <;> omega)) | (with_reducible refine BlkAt.ext (w := ?_) ?_ ?_; rotate_left 2; (with_reducible assumption)) | fail))); rotate_left; (next => first | (simp only [go_sem]; rfl) | rfl); (next => kernel_rfl); (try simp only [Act.put, List.setIfInBounds_toArray, List.set_cons_zero, List.set_cons_succ])) | (refine q_rem (by rfl) _ _ _ _ (by rfl) _ _ (by rfl) (by rfl) (by kernel_rfl) (by kernel_rfl) ?_ ?_; (next => omega); (try simp only [Act.put, List.setIfInBounds_toArray, List.set_cons_zero, List.set_cons_succ])) | (refine q_step_ex (by rfl) ?_; apply Exists.intro; refine ⟨fun W hW => ?_, ?_⟩; (next => (have hWc := fun (b o : Nat) (h : b < _) => (Ext.out hW).cell (p := ⟨b, o, none⟩) h); (try have hLK := HLK.out W (Ext.out hW)); go_simp; first | rfl | (go_at_call 68; refine (loose_any _).mono ?_; rintro e w'' ⟨rfl, hb3⟩; exact ⟨rfl, below_ext hW hb3⟩) | fail); (try simp only [Act.put, List.setIfInBounds_toArray, List.set_cons_zero, List.set_cons_succ])) | fail)
        refine wpQuiet_nil ?_
        intro wq hbq
        have hbn2 := hbn.ext hbq
        ((with_reducible show wpList _ _ _ (⟨_, .store _ _ _, _, _, _, _⟩ :: _) _ _); refine wpList_store_put (by rfl) _ _ _ (by rfl) _ _ _ (by rfl) (by rfl) _ _ hbn2 ?_ ?_ ?_ ?_; (next => kernel_rfl); (next => rw [rfl3]; omega); (next => first | exact slotArr_one _ _ | exact ordArr_one _ | (simp [Value.oneCell']; done)); intro w5 hbn5 hU5)
        go_wp2_with fail
        have hz := hbq.size
        have hgl := hg.lt
        go_roundw
        case rel => exact ⟨k + 1, by go_num, by omega, ⟨_, hbn5, (tn.all hlt (-1) (-1) (-1)).eq (zz_succ k) (zz_succ k) (zz_succ k)⟩, (hbe.ext hbq).upd (by omega) hU5, (hg.ext hbq).upd (by omega) hU5, below_upd (below_ext hb hbq) (by omega) hU5⟩
        case measure => simp [intOf]; omega
      · have hkN : k = N := by omega
        subst hkN
        have c1 : wr.cell? ⟨w.heap.size + 1 + 1, 1, none⟩ = some (.slice (some ⟨w.heap.size, 0, none⟩) Q Q) := hg.cell 1
        go_wp2_with fail
        obtain ⟨wo, rfl⟩ : ∃ wo : World, wo = wr := ⟨_, rfl⟩
        go_loopw [50] (fun a wr => ∃ j : Nat, a = .int .i64 j ∧ j ≤ Q ∧ Blk wr (w.heap.size + 1) 148 cn ∧ (∃ ce, Blk wr w.heap.size 151 ce ∧ Tri ce Q (zz j) (zz j) (fun _ => 0)) ∧ Blk wr (w.heap.size + 1 + 1) 146 #[.slice (some ⟨w.heap.size + 1, 0, none⟩) k k, .slice (some ⟨w.heap.size, 0, none⟩) Q Q] ∧ Below w.heap.size w wr) (fun a _ => Q - (intOf a).toNat)
        case atStart => exact ⟨0, rfl, Nat.zero_le _, hbn, ⟨_, hbe, ze⟩, hg, hb⟩
        case round =>
          obtain ⟨j, rfl, hj, hbn1, ⟨ce, hbe1, te⟩, hg1, hb1⟩ := hrel
          by_cases hlt2 : j < Q
          · have hce := te.1
            have e1 : (j : Int) < (Q : Int) := by omega
            go_wp2_with fail
            refine wp_region_below_tail 7 (by kernel_rfl) (by kernel_rfl) ?_
            simp only [List.take_succ_cons, List.take_zero, List.drop_succ_cons, List.drop_zero]
            repeat (first | go_big_quiet_skip | (go_big_quiet_want; go_big_quiet_op; go_big_quiet_on) | (refine q_load_fld (by rfl) _ _ (by rfl) (fun _ h => h) _ _ (by rfl) ?_ ?_ ?_ ?_ ?_ ?_; rotate_left; (next => (repeat (first | (with_reducible refine BlkAt.new _ _ _ _ ?_; ((try simp) <;> omega)) | (with_reducible assumption) | (with_reducible refine Blk.at (t := ?_) ?_; rotate_left; with_reducible assumption) | with_reducible refine BlkAt.alloc ?_ _ | with_reducible refine BlkAt.drew ?_ | (with_reducible refine BlkAt.setSame ?_ _ _) | (with_reducible refine BlkAt.setCell ?_ ?_ _; rotate_left; ((try simp) <;> omega)) | (with_reducible refine BlkAt.ext (w := ?_) ?_ ?_; rotate_left 2; (with_reducible assumption)) | fail))); rotate_left; (next => first | (simp only [go_sem]; rfl) | rfl); (next => kernel_rfl); (try simp only [Act.put, List.setIfInBounds_toArray, List.set_cons_zero, List.set_cons_succ])) | (refine q_rem (by rfl) _ _ _ _ (by rfl) _ _ (by rfl) (by rfl) (by kernel_rfl) (by kernel_rfl) ?_ ?_; (next => omega); (try simp only [Act.put, List.setIfInBounds_toArray, List.set_cons_zero, List.set_cons_succ])) | (refine q_step_ex (by rfl) ?_; apply Exists.intro; refine ⟨fun W hW => ?_, ?_⟩; (next => (have hWc := fun (b o : Nat) (h : b < _) => (Ext.out hW).cell (p := ⟨b, o, none⟩) h); (try have hLK := HLK.out W (Ext.out hW)); go_simp; first | rfl | (go_at_call 69; refine (empty_any _).mono ?_; rintro e w'' ⟨rfl, hb3⟩; exact ⟨rfl, below_ext hW hb3⟩) | fail); (try simp only [Act.put, List.setIfInBounds_toArray, List.set_cons_zero, List.set_cons_succ])) | fail)
            refine wpQuiet_nil ?_
            intro wq hbq
            have hbe2 := hbe1.ext hbq
            ((with_reducible show wpList _ _ _ (⟨_, .store _ _ _, _, _, _, _⟩ :: _) _ _); refine wpList_store_put (by rfl) _ _ _ (by rfl) _ _ _ (by rfl) (by rfl) _ _ hbe2 ?_ ?_ ?_ ?_; (next => kernel_rfl); (next => rw [rfl3]; omega); (next => first | exact slotArr_one _ _ | exact ordArr_one _ | (simp [Value.oneCell']; done)); intro w5 hbe5 hU5)
            go_wp2_with fail
            have hz := hbq.size
            have hgl := hg1.lt
            go_roundw
            case rel => exact ⟨j + 1, by go_num, by omega, (hbn1.ext hbq).upd (by omega) hU5, ⟨_, hbe5, (te.all hlt2 (-1) (-1) 0).eq (zz_succ j) (zz_succ j) (up_zero j)⟩, (hg1.ext hbq).upd (by omega) hU5, below_upd (below_ext hb1 hbq) (by omega) hU5⟩
            case measure => simp [intOf]; omega
          · have hjQ : j = Q := by omega
            subst hjQ
            go_wp2_with fail
            go_ret2
            exact ⟨_, _, _, rfl, by omega, ⟨fs0, _, _, ⟨hg1, hbn1, hbe1, tn.full, te.full0, by omega, by omega⟩, inv0 _ _⟩, hb1⟩
theorem al_new (w : World) : Calls Tryz.prog 44 #[.int .i64 9, .int .i64 2] w (FNewPost 9 2 w) := fnew_any 9 2 w ⟨by decide, by decide⟩ ⟨by decide, by decide⟩
def alL0 : Nat → List Nat := fun _ => []
def alL1 : Nat → List Nat := up alL0 0 [5]
def alL2 : Nat → List Nat := up alL1 0 [5, 2]
def alL3 : Nat → List Nat := up alL2 0 [2]
def alL4 : Nat → List Nat := up alL3 0 []
theorem al_p1 (g bn be : Nat) (w : World) (h : Fq w g bn be 9 2 alL0) : Calls Tryz.prog 51 #[.pointer (some ⟨g, 0, none⟩), .int .i64 0, .int .i64 5] w fun e w' => e = .returned (.bool true) ∧ Fq w' g bn be 9 2 alL1 ∧ ButL [bn, be] w.heap.size w w' :=
  q_push_yes h 0 5 (by decide) (by decide) (fun j _ => by simp [alL0])
theorem al_p2 (g bn be : Nat) (w : World) (h : Fq w g bn be 9 2 alL1) : Calls Tryz.prog 51 #[.pointer (some ⟨g, 0, none⟩), .int .i64 0, .int .i64 2] w fun e w' => e = .returned (.bool true) ∧ Fq w' g bn be 9 2 alL2 ∧ ButL [bn, be] w.heap.size w w' :=
  q_push_yes h 0 2 (by decide) (by decide) (fun j hj => by
    match j, hj with
    | 0, _ => simp [alL1, up]
    | 1, _ => simp [alL1, up, alL0])
end Fif
end Go.Proofs.YtacpjpkhmdcagaaGreat
