/- This text proves contracts of the functions of the packages limit and damperref21, and of the helpers of damperlaw21. They have no conditions but those that they state. -/
import Derived.Test.YtofjjbhhclnpoaaData
import Derived.WalkKit
import Derived.WalkSpells
import Derived.WalkLawsBesides
import Derived.BigQuiet
namespace Go.Proofs.Ytofjjbhhclnpoaa
open Go.RowKit
namespace Lim
set_option maxHeartbeats 400000
theorem own_any (b : Bool) (s : Int) (w : World) :
    Calls Try.prog 18 #[.agg #[.bool b, .int .i64 s]] w fun e w' => e = .returned (.agg #[.bool b, .int .i64 s]) ∧ Below w.heap.size w w' := by
  go_enter Try.func18, Try.ntmps18
  go_wp2
  refine bodyPost_ret (v := .agg #[.bool b, .int .i64 s]) (by simp [results, Try.results18, go_sem]; try exact ⟨rfl, rfl⟩) rfl ⟨rfl, ?_⟩
  (repeat (first | with_reducible exact Below.refl _ _ | (with_reducible assumption) | (with_reducible refine below_alloc ?_ _) | (with_reducible refine below_ext (w1 := ?_) ?_ ?_; rotate_left 2; (with_reducible assumption)) | (with_reducible refine Below.setCell ?_ ?_ _; rotate_left; ((try simp) <;> omega)) | (with_reducible refine Below.drew ?_) | (with_reducible refine below_drewN ?_ _) | fail))

def nextF (b : Bool) (s tick : Int) (t : Bool) : Bool × Int := if !t then (false, 0) else if b then (b, s) else (true, tick)

theorem next_any (b : Bool) (s tick : Int) (t : Bool) (w : World) :
    Calls Try.prog 16 #[.agg #[.bool b, .int .i64 s], .int .i64 tick, .bool t] w fun e w' => e = .returned (.agg #[.bool (nextF b s tick t).1, .int .i64 (nextF b s tick t).2]) ∧ Below w.heap.size w w' := by
  cases t <;> cases b
  all_goals
    go_enter Try.func16, Try.ntmps16
    go_wp2
    all_goals
      refine bodyPost_ret (v := .agg #[.bool _, .int .i64 _]) (by simp [results, Try.results16, go_sem]; try exact ⟨rfl, rfl⟩) rfl ⟨by simp [nextF], ?_⟩
      (repeat (first | with_reducible exact Below.refl _ _ | (with_reducible assumption) | (with_reducible refine below_alloc ?_ _) | (with_reducible refine below_ext (w1 := ?_) ?_ ?_; rotate_left 2; (with_reducible assumption)) | (with_reducible refine Below.setCell ?_ ?_ _; rotate_left; ((try simp) <;> omega)) | (with_reducible refine Below.drew ?_) | (with_reducible refine below_drewN ?_ _) | fail))

theorem rnext_any (b : Bool) (s tick : Int) (t : Bool) (w : World) :
    Calls Try.prog 17 #[.agg #[.bool b, .int .i64 s], .int .i64 tick, .bool t] w fun e w' => e = .returned (.agg #[.bool (nextF b s tick t).1, .int .i64 (nextF b s tick t).2]) ∧ Below w.heap.size w w' := by
  cases t <;> cases b
  all_goals
    go_enter Try.func17, Try.ntmps17
    go_wp2
    all_goals
      refine bodyPost_ret (v := .agg #[.bool _, .int .i64 _]) (by simp [results, Try.results17, go_sem]; try exact ⟨rfl, rfl⟩) rfl ⟨by simp [nextF], ?_⟩
      (repeat (first | with_reducible exact Below.refl _ _ | (with_reducible assumption) | (with_reducible refine below_alloc ?_ _) | (with_reducible refine below_ext (w1 := ?_) ?_ ?_; rotate_left 2; (with_reducible assumption)) | (with_reducible refine Below.setCell ?_ ?_ _; rotate_left; ((try simp) <;> omega)) | (with_reducible refine Below.drew ?_) | (with_reducible refine below_drewN ?_ _) | fail))

def dueF (b : Bool) (s l : Int) : Int := if b then s + l else 0
/-- Ticks that add up without a wrap. -/
def Fit (s l : Int) : Prop := 0 ≤ s ∧ s ≤ 2305843009213693952 ∧ 0 ≤ l ∧ l ≤ 2305843009213693952

theorem cdue_any (b : Bool) (s l : Int) (w : World) (h : Fit s l) :
    Calls Try.prog 57 #[.agg #[.bool b, .int .i64 s, .int .i64 l]] w fun e w' => e = .returned (.int .i64 (s + l)) ∧ Below w.heap.size w w' := by
  obtain ⟨h1, h2, h3, h4⟩ := h
  go_enter Try.func57, Try.ntmps57
  go_wp2
  go_ret
  exact ⟨rfl, by (repeat (first | with_reducible exact Below.refl _ _ | (with_reducible assumption) | (with_reducible refine below_alloc ?_ _) | (with_reducible refine below_ext (w1 := ?_) ?_ ?_; rotate_left 2; (with_reducible assumption)) | (with_reducible refine Below.setCell ?_ ?_ _; rotate_left; ((try simp) <;> omega)) | (with_reducible refine Below.drew ?_) | (with_reducible refine below_drewN ?_ _) | fail))⟩

theorem due_any (b : Bool) (s : Int) (y : Sym) (w : World) (h : Fit s y.limit) :
    Calls Try.prog 21 #[.agg #[.bool b, .int .i64 s], .agg y.arr] w fun e w' => e = .returned (.tuple #[.int .i64 (dueF b s y.limit), .bool b]) ∧ Below w.heap.size w w' := by
  cases b
  · go_enter Try.func21, Try.ntmps21
    go_wp2_with fail
    go_ret2
    exact ⟨rfl, by (repeat (first | with_reducible exact Below.refl _ _ | (with_reducible assumption) | (with_reducible refine below_alloc ?_ _) | (with_reducible refine below_ext (w1 := ?_) ?_ ?_; rotate_left 2; (with_reducible assumption)) | (with_reducible refine Below.setCell ?_ ?_ _; rotate_left; ((try simp) <;> omega)) | (with_reducible refine Below.drew ?_) | (with_reducible refine below_drewN ?_ _) | fail))⟩
  · go_enter Try.func21, Try.ntmps21
    go_wp2_with (first | go_at_call 57; refine (cdue_any _ _ _ _ h).mono ?_; rintro e w' ⟨rfl, hb⟩ | fail)
    go_ret2
    refine ⟨rfl, by (repeat (first | with_reducible exact Below.refl _ _ | (with_reducible assumption) | (with_reducible refine below_alloc ?_ _) | (with_reducible refine below_ext (w1 := ?_) ?_ ?_; rotate_left 2; (with_reducible assumption)) | (with_reducible refine Below.setCell ?_ ?_ _; rotate_left; ((try simp) <;> omega)) | (with_reducible refine Below.drew ?_) | (with_reducible refine below_drewN ?_ _) | fail))⟩

theorem rdue_any (b : Bool) (s : Int) (y : Sym) (w : World) (h : Fit s y.limit) :
    Calls Try.prog 22 #[.agg #[.bool b, .int .i64 s], .agg y.arr] w fun e w' => e = .returned (.tuple #[.int .i64 (dueF b s y.limit), .bool b]) ∧ Below w.heap.size w w' := by
  obtain ⟨h1, h2, h3, h4⟩ := h
  cases b
  all_goals
    go_enter Try.func22, Try.ntmps22
    go_wp2_with fail
    go_ret2
    exact ⟨rfl, by (repeat (first | with_reducible exact Below.refl _ _ | (with_reducible assumption) | (with_reducible refine below_alloc ?_ _) | (with_reducible refine below_ext (w1 := ?_) ?_ ?_; rotate_left 2; (with_reducible assumption)) | (with_reducible refine Below.setCell ?_ ?_ _; rotate_left; ((try simp) <;> omega)) | (with_reducible refine Below.drew ?_) | (with_reducible refine below_drewN ?_ _) | fail))⟩

def leftF (b : Bool) (s l t : Int) : Int := if b then max (s + l - t) 0 else -1
def firesF (b : Bool) (s l t : Int) : Bool := b && decide (s + l ≤ t)
theorem fires_left (b : Bool) (s l t : Int) : firesF b s l t = (leftF b s l t == 0) := by
  cases b
  · rfl
  · have : (max (s + l - t) 0 == 0) = decide (s + l ≤ t) := by
      by_cases h : s + l ≤ t
      · rw [show max (s + l - t) 0 = 0 by omega]; simp [h]
      · simp only [h, decide_false]
        rw [beq_eq_false_iff_ne]
        omega
    simp [firesF, leftF, this]

theorem fires_any (b : Bool) (s t : Int) (y : Sym) (w : World) (h : Fit s y.limit) :
    Calls Try.prog 19 #[.agg #[.bool b, .int .i64 s], .agg y.arr, .int .i64 t] w fun e w' => e = .returned (.bool (firesF b s y.limit t)) ∧ Below w.heap.size w w' := by
  cases b
  all_goals
    go_enter Try.func19, Try.ntmps19
    go_wp2_with (first | (refine wpList_load_blk (by rfl) 23 _ (by rfl) ?_ (.pointer (some ⟨_, 0, none⟩)) (by rfl) ?_ _ Try.underlying23 rfl ?_ ?_; rotate_left; (next => (repeat (first | (refine BlkAt.new _ _ _ _ ?_; ((try simp) <;> omega)) | (with_reducible assumption) | (with_reducible refine Blk.at (t := ?_) ?_; rotate_left; with_reducible assumption) | with_reducible refine BlkAt.alloc ?_ _ | with_reducible refine BlkAt.drew ?_ | (with_reducible refine BlkAt.setCell ?_ ?_ _; rotate_left; ((try simp) <;> omega)) | (with_reducible refine BlkAt.ext (w := ?_) ?_ ?_; rotate_left 2; (with_reducible assumption)) | fail))); (next => kernel_rfl)) | (refine wpList_load_blk (by rfl) 29 _ (by rfl) ?_ (.pointer (some ⟨_, 0, none⟩)) (by rfl) ?_ _ Try.underlying29 rfl ?_ ?_; rotate_left; (next => (repeat (first | (refine BlkAt.new _ _ _ _ ?_; ((try simp) <;> omega)) | (with_reducible assumption) | (with_reducible refine Blk.at (t := ?_) ?_; rotate_left; with_reducible assumption) | with_reducible refine BlkAt.alloc ?_ _ | with_reducible refine BlkAt.drew ?_ | (with_reducible refine BlkAt.setCell ?_ ?_ _; rotate_left; ((try simp) <;> omega)) | (with_reducible refine BlkAt.ext (w := ?_) ?_ ?_; rotate_left 2; (with_reducible assumption)) | fail))); (next => kernel_rfl)) | go_at_call 21; refine (due_any _ _ y _ h).mono ?_; rintro e w' ⟨rfl, hb⟩ | fail)
    go_ret
    refine ⟨by simp [firesF, dueF], by (repeat (first | with_reducible exact Below.refl _ _ | (with_reducible assumption) | (with_reducible refine below_alloc ?_ _) | (with_reducible refine below_ext (w1 := ?_) ?_ ?_; rotate_left 2; (with_reducible assumption)) | (with_reducible refine Below.setCell ?_ ?_ _; rotate_left; ((try simp) <;> omega)) | (with_reducible refine Below.drew ?_) | (with_reducible refine below_drewN ?_ _) | fail))⟩

theorem rleft_any (b : Bool) (s t : Int) (y : Sym) (w : World) (h : Fit s y.limit) (ht : Fit t 0) :
    Calls Try.prog 24 #[.agg #[.bool b, .int .i64 s], .agg y.arr, .int .i64 t] w fun e w' => e = .returned (.int .i64 (leftF b s y.limit t)) ∧ Below w.heap.size w w' := by
  obtain ⟨h1, h2, h3, h4⟩ := h
  obtain ⟨h5, h6, _, _⟩ := ht
  cases b
  all_goals
    go_enter Try.func24, Try.ntmps24
    go_wp2_with fail
    all_goals
      go_ret
      refine ⟨ret_int (by simp [leftF]; try omega), ?_⟩
      (repeat (first | with_reducible exact Below.refl _ _ | (with_reducible assumption) | (with_reducible refine below_alloc ?_ _) | (with_reducible refine below_ext (w1 := ?_) ?_ ?_; rotate_left 2; (with_reducible assumption)) | (with_reducible refine Below.setCell ?_ ?_ _; rotate_left; ((try simp) <;> omega)) | (with_reducible refine Below.drew ?_) | (with_reducible refine below_drewN ?_ _) | fail))

theorem rfires_any (b : Bool) (s t : Int) (y : Sym) (w : World) (h : Fit s y.limit) (ht : Fit t 0) :
    Calls Try.prog 20 #[.agg #[.bool b, .int .i64 s], .agg y.arr, .int .i64 t] w fun e w' => e = .returned (.bool (firesF b s y.limit t)) ∧ Below w.heap.size w w' := by
  go_enter Try.func20, Try.ntmps20
  go_wp2_with (first | (refine wpList_load_blk (by rfl) 23 _ (by rfl) ?_ (.pointer (some ⟨_, 0, none⟩)) (by rfl) ?_ _ Try.underlying23 rfl ?_ ?_; rotate_left; (next => (repeat (first | (refine BlkAt.new _ _ _ _ ?_; ((try simp) <;> omega)) | (with_reducible assumption) | (with_reducible refine Blk.at (t := ?_) ?_; rotate_left; with_reducible assumption) | with_reducible refine BlkAt.alloc ?_ _ | with_reducible refine BlkAt.drew ?_ | (with_reducible refine BlkAt.setCell ?_ ?_ _; rotate_left; ((try simp) <;> omega)) | (with_reducible refine BlkAt.ext (w := ?_) ?_ ?_; rotate_left 2; (with_reducible assumption)) | fail))); (next => kernel_rfl)) | (refine wpList_load_blk (by rfl) 30 _ (by rfl) ?_ (.pointer (some ⟨_, 0, none⟩)) (by rfl) ?_ _ Try.underlying30 rfl ?_ ?_; rotate_left; (next => (repeat (first | (refine BlkAt.new _ _ _ _ ?_; ((try simp) <;> omega)) | (with_reducible assumption) | (with_reducible refine Blk.at (t := ?_) ?_; rotate_left; with_reducible assumption) | with_reducible refine BlkAt.alloc ?_ _ | with_reducible refine BlkAt.drew ?_ | (with_reducible refine BlkAt.setCell ?_ ?_ _; rotate_left; ((try simp) <;> omega)) | (with_reducible refine BlkAt.ext (w := ?_) ?_ ?_; rotate_left 2; (with_reducible assumption)) | fail))); (next => kernel_rfl)) | go_at_call 24; refine (rleft_any _ _ _ y _ h ht).mono ?_; rintro e w' ⟨rfl, hb⟩ | fail)
  go_ret
  refine ⟨ret_bool (fires_left ..).symm, by (repeat (first | with_reducible exact Below.refl _ _ | (with_reducible assumption) | (with_reducible refine below_alloc ?_ _) | (with_reducible refine below_ext (w1 := ?_) ?_ ?_; rotate_left 2; (with_reducible assumption)) | (with_reducible refine Below.setCell ?_ ?_ _; rotate_left; ((try simp) <;> omega)) | (with_reducible refine Below.drew ?_) | (with_reducible refine below_drewN ?_ _) | fail))⟩

theorem left_any (b : Bool) (s t : Int) (y : Sym) (w : World) (h : Fit s y.limit) (ht : Fit t 0) :
    Calls Try.prog 23 #[.agg #[.bool b, .int .i64 s], .agg y.arr, .int .i64 t] w fun e w' => e = .returned (.int .i64 (leftF b s y.limit t)) ∧ Below w.heap.size w w' := by
  cases b
  · go_enter Try.func23, Try.ntmps23
    go_wp2_with fail
    go_ret
    exact ⟨rfl, by (repeat (first | with_reducible exact Below.refl _ _ | (with_reducible assumption) | (with_reducible refine below_alloc ?_ _) | (with_reducible refine below_ext (w1 := ?_) ?_ ?_; rotate_left 2; (with_reducible assumption)) | (with_reducible refine Below.setCell ?_ ?_ _; rotate_left; ((try simp) <;> omega)) | (with_reducible refine Below.drew ?_) | (with_reducible refine below_drewN ?_ _) | fail))⟩
  · by_cases hf : s + y.limit ≤ t
    · have hF : firesF true s y.limit t = true := by simp [firesF, hf]
      go_enter Try.func23, Try.ntmps23
      go_wp2_with (first | (refine wpList_load_blk (by rfl) 23 _ (by rfl) ?_ (.pointer (some ⟨_, 0, none⟩)) (by rfl) ?_ _ Try.underlying23 rfl ?_ ?_; rotate_left; (next => (repeat (first | (refine BlkAt.new _ _ _ _ ?_; ((try simp) <;> omega)) | (with_reducible assumption) | (with_reducible refine Blk.at (t := ?_) ?_; rotate_left; with_reducible assumption) | with_reducible refine BlkAt.alloc ?_ _ | with_reducible refine BlkAt.drew ?_ | (with_reducible refine BlkAt.setCell ?_ ?_ _; rotate_left; ((try simp) <;> omega)) | (with_reducible refine BlkAt.ext (w := ?_) ?_ ?_; rotate_left 2; (with_reducible assumption)) | fail))); (next => kernel_rfl)) | (refine wpList_load_blk (by rfl) 29 _ (by rfl) ?_ (.pointer (some ⟨_, 0, none⟩)) (by rfl) ?_ _ Try.underlying29 rfl ?_ ?_; rotate_left; (next => (repeat (first | (refine BlkAt.new _ _ _ _ ?_; ((try simp) <;> omega)) | (with_reducible assumption) | (with_reducible refine Blk.at (t := ?_) ?_; rotate_left; with_reducible assumption) | with_reducible refine BlkAt.alloc ?_ _ | with_reducible refine BlkAt.drew ?_ | (with_reducible refine BlkAt.setCell ?_ ?_ _; rotate_left; ((try simp) <;> omega)) | (with_reducible refine BlkAt.ext (w := ?_) ?_ ?_; rotate_left 2; (with_reducible assumption)) | fail))); (next => kernel_rfl)) | go_at_call 19; refine (fires_any _ _ _ y _ h).mono ?_; rintro e w' ⟨rfl, hb⟩ | fail)
      go_ret
      refine ⟨ret_int (by simp [leftF]; omega), by (repeat (first | with_reducible exact Below.refl _ _ | (with_reducible assumption) | (with_reducible refine below_alloc ?_ _) | (with_reducible refine below_ext (w1 := ?_) ?_ ?_; rotate_left 2; (with_reducible assumption)) | (with_reducible refine Below.setCell ?_ ?_ _; rotate_left; ((try simp) <;> omega)) | (with_reducible refine Below.drew ?_) | (with_reducible refine below_drewN ?_ _) | fail))⟩
    · have hF : firesF true s y.limit t = false := by simp [firesF]; omega
      have g := h
      obtain ⟨h1, h2, h3, h4⟩ := h
      obtain ⟨h5, h6, _, _⟩ := ht
      go_enter Try.func23, Try.ntmps23
      go_wp2_with (first | (refine wpList_load_blk (by rfl) 23 _ (by rfl) ?_ (.pointer (some ⟨_, 0, none⟩)) (by rfl) ?_ _ Try.underlying23 rfl ?_ ?_; rotate_left; (next => (repeat (first | (refine BlkAt.new _ _ _ _ ?_; ((try simp) <;> omega)) | (with_reducible assumption) | (with_reducible refine Blk.at (t := ?_) ?_; rotate_left; with_reducible assumption) | with_reducible refine BlkAt.alloc ?_ _ | with_reducible refine BlkAt.drew ?_ | (with_reducible refine BlkAt.setCell ?_ ?_ _; rotate_left; ((try simp) <;> omega)) | (with_reducible refine BlkAt.ext (w := ?_) ?_ ?_; rotate_left 2; (with_reducible assumption)) | fail))); (next => kernel_rfl)) | (refine wpList_load_blk (by rfl) 29 _ (by rfl) ?_ (.pointer (some ⟨_, 0, none⟩)) (by rfl) ?_ _ Try.underlying29 rfl ?_ ?_; rotate_left; (next => (repeat (first | (refine BlkAt.new _ _ _ _ ?_; ((try simp) <;> omega)) | (with_reducible assumption) | (with_reducible refine Blk.at (t := ?_) ?_; rotate_left; with_reducible assumption) | with_reducible refine BlkAt.alloc ?_ _ | with_reducible refine BlkAt.drew ?_ | (with_reducible refine BlkAt.setCell ?_ ?_ _; rotate_left; ((try simp) <;> omega)) | (with_reducible refine BlkAt.ext (w := ?_) ?_ ?_; rotate_left 2; (with_reducible assumption)) | fail))); (next => kernel_rfl)) | (go_at_call 19; refine (fires_any _ _ _ y _ g).mono ?_; rintro e w' ⟨rfl, hb⟩) | (go_at_call 57; refine (cdue_any _ _ _ _ g).mono ?_; rintro e w'' ⟨rfl, hb2⟩) | fail)
      go_ret
      refine ⟨ret_int (by simp [leftF]; omega), by (repeat (first | with_reducible exact Below.refl _ _ | (with_reducible assumption) | (with_reducible refine below_alloc ?_ _) | (with_reducible refine below_ext (w1 := ?_) ?_ ?_; rotate_left 2; (with_reducible assumption)) | (with_reducible refine Below.setCell ?_ ?_ _; rotate_left; ((try simp) <;> omega)) | (with_reducible refine Below.drew ?_) | (with_reducible refine below_drewN ?_ _) | fail))⟩

/-! ### Light -/
def lightOne (t : Int) : Bool := decide (0 ≤ t) && decide (t ≤ 1152921504606846976)
def lightSym (y : Sym) : Bool := decide (1 ≤ y.limit) && decide (y.limit ≤ 1099511627776)
def lightF (y : Sym) (ts : List Int) : Bool := ts.all lightOne && lightSym y

theorem light_any (y : Sym) (ts : List Int) (A : Option Addr) (cap : Nat) (w : World) (hts : ts.length ≤ 1000) (hr : Rd w 1 A (ts.map intC)) :
    Calls Try.prog 14 #[.agg y.arr, .slice A ts.length cap] w fun e w' => e = .returned (.bool (lightF y ts)) ∧ Below w.heap.size w w' := by
  go_enter Try.func14, Try.ntmps14
  go_wp2
  go_loop [5] (fun i => ∃ k : Nat, k ≤ ts.length ∧ i = .int .i64 k ∧ (ts.take k).all lightOne = true) (fun i => ts.length - (intOf i).toNat)
  case atStart => exact ⟨0, Nat.zero_le _, rfl, rfl⟩
  case round =>
    obtain ⟨k, hk, rfl, hl⟩ := hrel
    by_cases hlt : k < ts.length
    · obtain ⟨b, off, rfl, hc⟩ := hr.at hlt
      have hc0 := hc 0 _ rfl
      simp only [Nat.mul_one, Nat.add_zero] at hc0
      have HT := Lib.hid (List.take_succ_eq_append_getElem hlt)
      have HL := Lib.hid hl
      have hcc := cell_lt hc0
      clear hl hc
      by_cases h0 : ts[k] < 0
      · have hF : lightF y ts = false := by
          have : ts.all lightOne = false := by
            rw [List.all_eq_false]
            exact ⟨ts[k], List.getElem_mem _, by simp [lightOne]; omega⟩
          simp [lightF, this]
        have HF := Lib.hid hF
        clear hF
        go_wp2_with fail
        go_ret
        exact ⟨ret_bool (by rw [HF.out]), by (repeat (first | with_reducible exact Below.refl _ _ | (with_reducible assumption) | (with_reducible refine below_alloc ?_ _) | (with_reducible refine below_ext (w1 := ?_) ?_ ?_; rotate_left 2; (with_reducible assumption)) | (with_reducible refine Below.setCell ?_ ?_ _; rotate_left; ((try simp) <;> omega)) | (with_reducible refine Below.drew ?_) | (with_reducible refine below_drewN ?_ _) | fail))⟩
      · by_cases h1 : 1152921504606846976 < ts[k]
        · have hF : lightF y ts = false := by
            have : ts.all lightOne = false := by
              rw [List.all_eq_false]
              exact ⟨ts[k], List.getElem_mem _, by simp [lightOne]; omega⟩
            simp [lightF, this]
          have HF := Lib.hid hF
          clear hF
          go_wp2_with fail
          go_ret
          exact ⟨ret_bool (by rw [HF.out]), by (repeat (first | with_reducible exact Below.refl _ _ | (with_reducible assumption) | (with_reducible refine below_alloc ?_ _) | (with_reducible refine below_ext (w1 := ?_) ?_ ?_; rotate_left 2; (with_reducible assumption)) | (with_reducible refine Below.setCell ?_ ?_ _; rotate_left; ((try simp) <;> omega)) | (with_reducible refine Below.drew ?_) | (with_reducible refine below_drewN ?_ _) | fail))⟩
        · go_wp2_with fail
          go_round
          case rel => exact ⟨k + 1, by omega, by go_num, by rw [HT.out, List.all_append, HL.out]; simp [lightOne]; omega⟩
          case measure => simp [intOf]; omega
    · have hkk : k = ts.length := by omega
      have hall : ts.all lightOne = true := by rw [hkk, List.take_length] at hl; exact hl
      have hF : lightF y ts = lightSym y := by simp [lightF, hall]
      have HF := Lib.hid hF
      clear hl hF hall
      go_wp2_with fail
      all_goals
        go_ret
        exact ⟨ret_bool (by rw [HF.out]; simp [lightSym]; try omega), by (repeat (first | with_reducible exact Below.refl _ _ | (with_reducible assumption) | (with_reducible refine below_alloc ?_ _) | (with_reducible refine below_ext (w1 := ?_) ?_ ?_; rotate_left 2; (with_reducible assumption)) | (with_reducible refine Below.setCell ?_ ?_ _; rotate_left; ((try simp) <;> omega)) | (with_reducible refine Below.drew ?_) | (with_reducible refine below_drewN ?_ _) | fail))⟩

theorem alive_any (w : World) : Calls Try.prog 15 #[] w fun e w' => e = .returned (.bool true) ∧ Below w.heap.size w w' := by
  let y : Sym := ⟨0, 0, 0, 0, 0, 0, 3, 0, 0, 0, 0, 0, 0, 0, 0, 0⟩
  go_enter Try.func15, Try.ntmps15
  go_wp2_with (first | (refine wpList_load_blk (by rfl) 23 _ (by rfl) ?_ (.pointer (some ⟨_, 0, none⟩)) (by rfl) ?_ _ Try.underlying23 rfl ?_ ?_; rotate_left; (next => (repeat (first | (refine BlkAt.new _ _ _ _ ?_; ((try simp) <;> omega)) | (with_reducible assumption) | (with_reducible refine Blk.at (t := ?_) ?_; rotate_left; with_reducible assumption) | with_reducible refine BlkAt.alloc ?_ _ | with_reducible refine BlkAt.drew ?_ | (with_reducible refine BlkAt.setCell ?_ ?_ _; rotate_left; ((try simp) <;> omega)) | (with_reducible refine BlkAt.ext (w := ?_) ?_ ?_; rotate_left 2; (with_reducible assumption)) | fail))); (next => kernel_rfl)) | (go_at_call 21; refine (due_any true 10 y _ ⟨by decide, by decide, by decide, by decide⟩).mono ?_; rintro e w' ⟨he, hb⟩; (have he' : e = .returned (.tuple #[.int .i64 13, .bool true]) := he); clear he; subst he') | (go_at_call 16; refine (next_any _ _ _ _ _).mono ?_; rintro e w'' ⟨he, hb2⟩; (have he' : e = .returned (.agg #[.bool true, .int .i64 4]) := he); clear he; subst he') | fail)
  go_ret
  exact ⟨rfl, by (repeat (first | with_reducible exact Below.refl _ _ | (with_reducible assumption) | (with_reducible refine below_alloc ?_ _) | (with_reducible refine below_ext (w1 := ?_) ?_ ?_; rotate_left 2; (with_reducible assumption)) | (with_reducible refine Below.setCell ?_ ?_ _; rotate_left; ((try simp) <;> omega)) | (with_reducible refine Below.drew ?_) | (with_reducible refine below_drewN ?_ _) | fail))⟩
end Lim
end Go.Proofs.Ytofjjbhhclnpoaa
