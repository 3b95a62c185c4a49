/- ArenaEach's iterator. It has no conditions but those that it states. -/
import Derived.Test.YtodgeakkecaliaaArenaPlays
import Derived.Test.YtodgeakkecaliaaRangeH
import Derived.OwnWalkIn
import Derived.TacticsInMore
import Derived.LoopNIn
import Derived.LoopIn
namespace Go.Proofs.Ytodgeakkecaliaa
set_option linter.unusedVariables false
open Go.RowKit
namespace Are
set_option maxHeartbeats 1000000
set_option maxRecDepth 10000
attribute [local go_sem] Oper.semAt_some
/-- The first k slots' orders, those that are taken, with their slots. -/
def upto (s : St) (k : Nat) : List (Nat × Ord) := ((List.range k).filter fun i => decide (s.nx i = -2)).map fun i => (i, s.o i)
theorem upto_yes (s : St) (k : Nat) (h : s.nx k = -2) : upto s (k + 1) = upto s k ++ [(k, s.o k)] := by
  simp [upto, List.range_succ, h]
theorem upto_no (s : St) (k : Nat) (h : s.nx k ≠ -2) : upto s (k + 1) = upto s k := by
  simp [upto, List.range_succ, h]
theorem upto_le (s : St) (k m : Nat) (h : k ≤ m) : upto s k <+: upto s m := by
  induction m with
  | zero => rw [Nat.le_zero.1 h]; exact List.prefix_refl _
  | succ m ih =>
    by_cases e : k = m + 1
    · rw [e]; exact List.prefix_refl _
    · have h1 := ih (by omega)
      by_cases hx : s.nx m = -2
      · rw [upto_yes s m hx]; exact h1.trans (List.prefix_append _ _)
      · rw [upto_no s m hx]; exact h1
def encO (x : Nat × Ord) : Array Value := #[.int .i64 (x.1 : Int), .agg x.2.arr]
theorem Ar.cO {w : World} {g : Nat} {s : St} (h : Ar w g s) {n : Nat} (hn : n < 500) : w.cell? ⟨g, n * 8, none⟩ = some (.int .i64 (s.o n).id) ∧ w.cell? ⟨g, n * 8 + 1, none⟩ = some (.int .i64 (s.o n).owner) ∧ w.cell? ⟨g, n * 8 + 2, none⟩ = some (.int .i64 (s.o n).side) ∧ w.cell? ⟨g, n * 8 + 3, none⟩ = some (.int .i64 (s.o n).price) ∧ w.cell? ⟨g, n * 8 + 4, none⟩ = some (.int .i64 (s.o n).qty) ∧ w.cell? ⟨g, n * 8 + 5, none⟩ = some (.int .i64 (s.o n).flags) ∧ w.cell? ⟨g, n * 8 + 6, none⟩ = some (.int .i64 (s.o n).seq) := by
  obtain ⟨cs, h1, h2⟩ := h
  refine ⟨(h1.cell _).trans (h2.o n hn 0 (by decide)), (h1.cell _).trans (h2.o n hn 1 (by decide)), (h1.cell _).trans (h2.o n hn 2 (by decide)), (h1.cell _).trans (h2.o n hn 3 (by decide)), (h1.cell _).trans (h2.o n hn 4 (by decide)), (h1.cell _).trans (h2.o n hn 5 (by decide)), (h1.cell _).trans (h2.o n hn 6 (by decide))⟩
theorem each_in (l : Nat) {w : World} {g : Nat} {s : St} (hA : Ar w g s) (hs : s.size ≤ 500) (bq : Nat) (hq : Blk w bq 24 #[.pointer (some ⟨g, 0, none⟩)]) (nb : List Nat) (hnb : g ∉ nb ∧ bq ∉ nb)
    (J Jx : List (Nat × Ord) → World → Prop)
    (hY : ∀ pre x W, J pre W → pre.length < (upto s s.size).length → YieldAt Fence.wide 7 Try.prog l (encO x) W fun e W' =>
      (e = .returned (.bool true) ∧ J (pre ++ [x]) W' ∧ ButL nb w.heap.size W W') ∨ (e = .returned (.bool false) ∧ Jx (pre ++ [x]) W'))
    (W : World) (hW : Below w.heap.size w W) (h0 : J [] W) :
    CallsIn Fence.wide 8 Try.prog 41 #[.func (.yield l) #[] #[], .pointer (some ⟨bq, 0, none⟩)] W fun e W' => (∃ v, e = .returned v) ∧
      ((∃ ys, ys = upto s s.size ∧ J ys W') ∨ (∃ pre, pre <+: upto s s.size ∧ Jx pre W')) := by
  refine callsIn_of_wp Try.func41 rfl trivial ?_ rfl
  simp only [Try.ntmps41, List.size_toArray, List.length_cons, List.length_nil, Nat.reduceAdd, Nat.reduceSub, Array.replicate_succ, Array.replicate_zero, List.push_toArray, List.append_toArray, List.nil_append, List.cons_append]
  have cq : W.cell? ⟨bq, 0, none⟩ = some (.pointer (some ⟨g, 0, none⟩)) := (hq.ext hW).cell 0
  have cs := (hA.ext hW).cSize
  gi_wp2_with fail
  gi_loopw [14] (fun p wr => ∃ k : Nat, p = .int .i64 k ∧ k ≤ s.size ∧ J (upto s k) wr ∧ ButL nb w.heap.size W wr) (fun p wr => s.size - (intOf p).toNat)
  case atStart => exact ⟨0, rfl, Nat.zero_le _, h0, ButL.refl _ _ _⟩
  case round =>
    obtain ⟨k, rfl, hk, hJ, hB⟩ := hrel
    have hwr : ButL nb w.heap.size w wr := (ButL.of_below hW).trans hB
    have hAr := hA.butL hwr hnb.1
    by_cases hlt : k < s.size
    · have e1 : (k : Int) < (s.size : Int) := by omega
      by_cases hx : s.nx k = -2
      · obtain ⟨o0, o1, o2, o3, o4, o5, o6⟩ := hAr.cO (show k < 500 by omega)
        obtain ⟨fn, tmps, assign, body, hy, hR⟩ := hY (upto s k) (k, s.o k) wr hJ (by
          have h1 := (upto_le s (k + 1) s.size (by omega)).length_le
          rw [upto_yes s k hx] at h1
          simp at h1
          omega)
        have HA := Lib.hid (at_yes g s k wr hAr hs hlt hx)
        have hy2 : (Instr.yield l #[.int .i64 (k : Int), .agg #[.int .i64 (s.o k).id, .int .i64 (s.o k).owner, .int .i64 (s.o k).side, .int .i64 (s.o k).price, .int .i64 (s.o k).qty, .int .i64 (s.o k).flags, .int .i64 (s.o k).seq]]).run Try.prog wr = _ := hy
        clear hy
        gi_wp2_with fail
        refine ⟨trivial, ?_⟩
        refine (callsIn_wide.2 HA.out).mono ?_
        rintro e w' ⟨rfl, rfl⟩
        gi_wp2_with fail
        refine hR.mono ?_
        rintro e W3 (⟨rfl, hJ3, hk3⟩ | ⟨rfl, hJx3⟩)
        · gi_wp2_with fail
          go_roundw
          case rel => exact ⟨k + 1, by go_num, by omega, by rw [upto_yes s k hx]; exact hJ3, hB.trans hk3⟩
          case measure => simp [intOf]; omega
        · gi_wp2_with fail
          refine bodyPost_ret (results_none rfl _ _ _) rfl ?_
          refine ⟨⟨_, rfl⟩, .inr ⟨_, ?_, hJx3⟩⟩
          rw [← upto_yes s k hx]
          exact upto_le s (k + 1) s.size (by omega)
      · have HA := Lib.hid (at_no g s k wr hAr hs (by simp [has, hx]))
        gi_wp2_with fail
        refine ⟨trivial, ?_⟩
        refine (callsIn_wide.2 HA.out).mono ?_
        rintro e w' ⟨rfl, rfl⟩
        gi_wp2_with fail
        refine ⟨fun _ h => (by cases h), ?_⟩
        gi_wp2_with fail
        go_roundw
        case rel => exact ⟨k + 1, by go_num, by omega, by rw [upto_no s k hx]; exact hJ, hB⟩
        case measure => simp [intOf]; omega
    · obtain rfl : k = s.size := by omega
      gi_wp2_with fail
      go_end0
      exact ⟨⟨_, rfl⟩, .inl ⟨_, rfl, hJ⟩⟩
theorem each_any (p : Option Addr) (w : World) : Calls Try.prog 20 #[.pointer p] w fun e w' => e = .returned (.func (.func 41) #[] #[.pointer (some ⟨w.heap.size, 0, none⟩)]) ∧ Blk w' w.heap.size 24 #[.pointer p] ∧ Below w.heap.size w w' := by
  go_enter Try.func20, Try.ntmps20
  go_wp2_with fail
  go_ret
  exact ⟨rfl, Blk.new _ _ _ _ rfl, by (repeat (first | with_reducible exact Below.refl _ _ | (with_reducible assumption) | (with_reducible refine below_alloc ?_ _) | (with_reducible refine below_ext (w1 := ?_) ?_ ?_; rotate_left 2; (with_reducible assumption)) | (with_reducible refine Below.setCell ?_ ?_ _; rotate_left; ((try simp) <;> omega)) | (with_reducible refine Below.drew ?_) | (with_reducible refine below_drewN ?_ _) | fail))⟩
theorem each_stops {w : World} {g : Nat} {s : St} (hA : Ar w g s) (hs : s.size ≤ 500) (bq : Nat) (hq : Blk w bq 24 #[.pointer (some ⟨g, 0, none⟩)]) (nb : List Nat) (hnb : g ∉ nb ∧ bq ∉ nb) :
    SeqStopsK Fence.wide 8 Try.prog 41 #[.pointer (some ⟨bq, 0, none⟩)] encO (ButL nb w.heap.size) (fun ys => ys = upto s s.size) (fun pre => pre <+: upto s s.size) (upto s s.size).length w := fun l J Jx W hW _ _ hY h0 =>
  each_in l hA hs bq hq nb hnb J Jx hY W hW h0
/-! ### the list of what is handed over -/
theorem upto_mem {s : St} {m : Nat} {x : Nat × Ord} (h : x ∈ upto s m) : x.1 < m ∧ s.nx x.1 = -2 ∧ x.2 = s.o x.1 := by
  obtain ⟨i, hi, rfl⟩ := List.mem_map.1 h
  simp only [List.mem_filter, List.mem_range, decide_eq_true_eq] at hi
  exact ⟨hi.1, hi.2, rfl⟩
def lastO (pre : List (Nat × Ord)) : Int := (pre.getLast?.map fun x => (x.1 : Int)).getD (-1)
@[simp] theorem lastO_snoc (pre : List (Nat × Ord)) (x : Nat × Ord) : lastO (pre ++ [x]) = x.1 := by simp [lastO]
theorem lastO_lt {pre : List (Nat × Ord)} {m : Nat} (h : ∀ y ∈ pre, y.1 < m) : lastO pre < m := by
  unfold lastO
  cases e : pre.getLast? with
  | none => simp; omega
  | some y =>
    have := h y (List.mem_of_getLast? e)
    simp
    omega
theorem upto_up {s : St} : ∀ (m : Nat) {pre : List (Nat × Ord)} {x : Nat × Ord}, (pre ++ [x]) <+: upto s m → lastO pre < x.1
  | 0, pre, x, h => by simp [upto] at h
  | m + 1, pre, x, h => by
    by_cases hx : s.nx m = -2
    · rw [upto_yes s m hx] at h
      rcases List.prefix_concat_iff.1 h with h1 | h1
      · have h2 := List.append_inj' h1 rfl
        obtain ⟨rfl, h3⟩ := h2
        simp at h3
        subst h3
        exact lastO_lt (fun y hy => (upto_mem hy).1)
      · exact upto_up m h1
    · rw [upto_no s m hx] at h
      exact upto_up m h
theorem upto_cnt {s : St} {r : Rs} (h : Sim s r) : ∀ k, k ≤ r.n → (upto s k).length = cnt r.t k
  | 0, _ => rfl
  | k + 1, hk => by
    have ih := upto_cnt h k (by omega)
    have ht := h.tk k (by omega)
    by_cases hx : s.nx k = -2
    · rw [upto_yes s k hx]
      simp [cnt, ih, ht.1 hx]
    · rw [upto_no s k hx]
      have : r.t k = false := by
        cases e : r.t k with
        | false => rfl
        | true => exact absurd (ht.2 e) hx
      simp [cnt, ih, this]
end Are
end Go.Proofs.Ytodgeakkecaliaa
