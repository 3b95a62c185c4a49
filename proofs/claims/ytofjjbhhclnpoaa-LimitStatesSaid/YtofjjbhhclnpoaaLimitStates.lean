/- This text proves LimitStates: whatever the input, the law returns true. It has no conditions. -/
import Derived.Test.YtofjjbhhclnpoaaLimit
import Derived.Test.YtofjjbhhclnpoaaQuiet
namespace Go.Proofs.Ytofjjbhhclnpoaa
open Go.RowKit
namespace Lim
set_option maxHeartbeats 1000000

theorem Rd.two {w : World} (a b : Int) (t : TypeId) (n : Nat) (h : w.heap.size = n) : Rd (w.alloc (.cells #[.int .i64 a, .int .i64 b] t)) 1 (some ⟨n, 0, none⟩) ([a, b].map intC) := by
  subst h
  intro _
  refine ⟨_, _, rfl, fun i j u hu => ?_⟩
  match i, j with
  | 0, 0 => simpa [intC] using hu
  | 1, 0 => simpa [intC] using hu
  | 0, j + 1 => simp [intC] at hu
  | 1, j + 1 => simp [intC] at hu
  | i + 2, j => simp [intC] at hu

theorem light_fit {y : Sym} {s t : Int} (h : lightF y [s, t] = true) : Fit s y.limit ∧ Fit t 0 := by
  simp [lightF, lightSym, lightOne] at h
  unfold Fit
  omega

theorem states_any (b t : Bool) (s tick : Int) (y : Sym) (w : World) :
    Calls Try.prog 4 #[.agg #[.bool b, .int .i64 s], .agg y.arr, .int .i64 tick, .bool t] w fun e w' => e = .returned (.bool true) ∧ Below w.heap.size w w' := by
  go_enter Try.func4, Try.ntmps4
  go_wp2_with (first | (refine wpList_load_blk (by rfl) 23 _ (by rfl) ?_ (.pointer (some ⟨_, 0, none⟩)) (by rfl) ?_ _ Try.underlying23 rfl ?_ ?_; rotate_left; (next => (repeat (first | (refine BlkAt.new _ _ _ _ ?_; ((try simp) <;> omega)) | (with_reducible assumption) | with_reducible refine BlkAt.alloc ?_ _ | with_reducible refine BlkAt.drew ?_ | (with_reducible refine BlkAt.setCell ?_ ?_ _; rotate_left; ((try simp) <;> omega)) | (with_reducible refine BlkAt.ext (w := ?_) ?_ ?_; rotate_left 2; (with_reducible assumption)) | fail))); (next => kernel_rfl)) | (go_at_call 14; refine (light_any y [s, tick] _ _ _ (by simp) (Rd.two s tick _ _ (by simp))).mono ?_; rintro e w' ⟨rfl, hb⟩) | (go_at_call 15; refine (alive_any _).mono ?_; rintro e w'' ⟨rfl, hb2⟩) | fail)
  · go_ret
    exact ⟨rfl, by (repeat (first | with_reducible exact Below.refl _ _ | (with_reducible assumption) | (with_reducible refine below_alloc ?_ _) | (with_reducible refine below_ext (w1 := ?_) ?_ ?_; rotate_left 2; (with_reducible assumption)) | (with_reducible refine Below.setCell ?_ ?_ _; rotate_left; ((try simp) <;> omega)) | (with_reducible refine Below.drew ?_) | (with_reducible refine below_drewN ?_ _) | fail))⟩
  have hl : lightF y [s, tick] = true := by (first | assumption | (simp at *; assumption))
  obtain ⟨hF, hT⟩ := light_fit hl
  refine wp_region_below_lit (by kernel_rfl) (by kernel_rfl) ?_
  repeat (first | go_big_quiet_skip | (go_big_quiet_want; go_big_quiet_op; go_big_quiet_on) | (refine q_load_blk (by rfl) 23 _ (by rfl) ?_ (.pointer (some ⟨_, 0, none⟩)) (by rfl) ?_ _ (fun _ h => h) Try.underlying23 rfl ?_ ?_; rotate_left; (next => (repeat (first | (refine BlkAt.new _ _ _ _ ?_; ((try simp) <;> omega)) | (with_reducible assumption) | with_reducible refine BlkAt.alloc ?_ _ | with_reducible refine BlkAt.drew ?_ | (with_reducible refine BlkAt.setCell ?_ ?_ _; rotate_left; ((try simp) <;> omega)) | (with_reducible refine BlkAt.ext (w := ?_) ?_ ?_; rotate_left 2; (with_reducible assumption)) | fail))); (next => kernel_rfl); (try simp only [Act.put, List.setIfInBounds_toArray, List.set_cons_zero, List.set_cons_succ])) | (refine q_load_blk (by rfl) 30 _ (by rfl) ?_ (.pointer (some ⟨_, 0, none⟩)) (by rfl) ?_ _ (fun _ h => h) Try.underlying30 rfl ?_ ?_; rotate_left; (next => (repeat (first | (refine BlkAt.new _ _ _ _ ?_; ((try simp) <;> omega)) | (with_reducible assumption) | with_reducible refine BlkAt.alloc ?_ _ | with_reducible refine BlkAt.drew ?_ | (with_reducible refine BlkAt.setCell ?_ ?_ _; rotate_left; ((try simp) <;> omega)) | (with_reducible refine BlkAt.ext (w := ?_) ?_ ?_; rotate_left 2; (with_reducible assumption)) | fail))); (next => kernel_rfl); (try simp only [Act.put, List.setIfInBounds_toArray, List.set_cons_zero, List.set_cons_succ])) | (refine q_step_ex (by rfl) ?_; apply Exists.intro; refine ⟨fun W hW => ?_, ?_⟩; (next => go_simp; first | rfl | (go_at_call 18; refine (own_any _ _ _).mono ?_; rintro e w'' ⟨rfl, hb2⟩; exact ⟨rfl, below_ext hW hb2⟩) | (go_at_call 21; refine (due_any _ _ y _ hF).mono ?_; rintro e w'' ⟨rfl, hb2⟩; exact ⟨rfl, below_ext hW hb2⟩) | fail); (try simp only [Act.put, List.setIfInBounds_toArray, List.set_cons_zero, List.set_cons_succ])) | fail)
  refine wpQuiet_nil ?_
  intro wq hbq
  go_wp2_with (first | (refine wpList_load_blk (by rfl) 23 _ (by rfl) ?_ (.pointer (some ⟨_, 0, none⟩)) (by rfl) ?_ _ Try.underlying23 rfl ?_ ?_; rotate_left; (next => (repeat (first | (refine BlkAt.new _ _ _ _ ?_; ((try simp) <;> omega)) | (with_reducible assumption) | with_reducible refine BlkAt.alloc ?_ _ | with_reducible refine BlkAt.drew ?_ | (with_reducible refine BlkAt.setCell ?_ ?_ _; rotate_left; ((try simp) <;> omega)) | (with_reducible refine BlkAt.ext (w := ?_) ?_ ?_; rotate_left 2; (with_reducible assumption)) | fail))); (next => kernel_rfl)) | (refine wpList_load_blk (by rfl) 30 _ (by rfl) ?_ (.pointer (some ⟨_, 0, none⟩)) (by rfl) ?_ _ Try.underlying30 rfl ?_ ?_; rotate_left; (next => (repeat (first | (refine BlkAt.new _ _ _ _ ?_; ((try simp) <;> omega)) | (with_reducible assumption) | with_reducible refine BlkAt.alloc ?_ _ | with_reducible refine BlkAt.drew ?_ | (with_reducible refine BlkAt.setCell ?_ ?_ _; rotate_left; ((try simp) <;> omega)) | (with_reducible refine BlkAt.ext (w := ?_) ?_ ?_; rotate_left 2; (with_reducible assumption)) | fail))); (next => kernel_rfl)) | (go_at_call 22; refine (rdue_any _ _ y _ hF).mono ?_; rintro e w2 ⟨rfl, hb2⟩) | fail)
  refine wp_region_below_lit (by kernel_rfl) (by kernel_rfl) ?_
  repeat (first | go_big_quiet_skip | (go_big_quiet_want; go_big_quiet_op; go_big_quiet_on) | (refine q_load_blk (by rfl) 23 _ (by rfl) ?_ (.pointer (some ⟨_, 0, none⟩)) (by rfl) ?_ _ (fun _ h => h) Try.underlying23 rfl ?_ ?_; rotate_left; (next => (repeat (first | (refine BlkAt.new _ _ _ _ ?_; ((try simp) <;> omega)) | (with_reducible assumption) | with_reducible refine BlkAt.alloc ?_ _ | with_reducible refine BlkAt.drew ?_ | (with_reducible refine BlkAt.setCell ?_ ?_ _; rotate_left; ((try simp) <;> omega)) | (with_reducible refine BlkAt.ext (w := ?_) ?_ ?_; rotate_left 2; (with_reducible assumption)) | fail))); (next => kernel_rfl); (try simp only [Act.put, List.setIfInBounds_toArray, List.set_cons_zero, List.set_cons_succ])) | (refine q_load_blk (by rfl) 30 _ (by rfl) ?_ (.pointer (some ⟨_, 0, none⟩)) (by rfl) ?_ _ (fun _ h => h) Try.underlying30 rfl ?_ ?_; rotate_left; (next => (repeat (first | (refine BlkAt.new _ _ _ _ ?_; ((try simp) <;> omega)) | (with_reducible assumption) | with_reducible refine BlkAt.alloc ?_ _ | with_reducible refine BlkAt.drew ?_ | (with_reducible refine BlkAt.setCell ?_ ?_ _; rotate_left; ((try simp) <;> omega)) | (with_reducible refine BlkAt.ext (w := ?_) ?_ ?_; rotate_left 2; (with_reducible assumption)) | fail))); (next => kernel_rfl); (try simp only [Act.put, List.setIfInBounds_toArray, List.set_cons_zero, List.set_cons_succ])) | (refine q_step_ex (by rfl) ?_; apply Exists.intro; refine ⟨fun W hW => ?_, ?_⟩; (next => go_simp; first | rfl | (go_at_call 18; refine (own_any _ _ _).mono ?_; rintro e w'' ⟨rfl, hb3⟩; exact ⟨rfl, below_ext hW hb3⟩) | (go_at_call 16; refine (next_any _ _ _ _ _).mono ?_; rintro e w'' ⟨rfl, hb3⟩; exact ⟨rfl, below_ext hW hb3⟩) | (go_at_call 17; refine (rnext_any _ _ _ _ _).mono ?_; rintro e w'' ⟨rfl, hb3⟩; exact ⟨rfl, below_ext hW hb3⟩) | (go_at_call 19; refine (fires_any _ _ _ y _ hF).mono ?_; rintro e w'' ⟨rfl, hb3⟩; exact ⟨rfl, below_ext hW hb3⟩) | (go_at_call 20; refine (rfires_any _ _ _ y _ hF hT).mono ?_; rintro e w'' ⟨rfl, hb3⟩; exact ⟨rfl, below_ext hW hb3⟩) | (go_at_call 23; refine (left_any _ _ _ y _ hF hT).mono ?_; rintro e w'' ⟨rfl, hb3⟩; exact ⟨rfl, below_ext hW hb3⟩) | (go_at_call 24; refine (rleft_any _ _ _ y _ hF hT).mono ?_; rintro e w'' ⟨rfl, hb3⟩; exact ⟨rfl, below_ext hW hb3⟩) | (go_at_call 15; refine (alive_any _).mono ?_; rintro e w'' ⟨rfl, hb3⟩; exact ⟨rfl, below_ext hW hb3⟩) | fail); (try simp only [Act.put, List.setIfInBounds_toArray, List.set_cons_zero, List.set_cons_succ])) | fail)
  refine wpQuiet_nil ?_
  intro wq hbq
  go_wp2_with fail
  go_ret
  exact ⟨rfl, by (repeat (first | with_reducible exact Below.refl _ _ | (with_reducible assumption) | (with_reducible refine below_alloc ?_ _) | (with_reducible refine below_ext (w1 := ?_) ?_ ?_; rotate_left 2; (with_reducible assumption)) | (with_reducible refine Below.setCell ?_ ?_ _; rotate_left; ((try simp) <;> omega)) | (with_reducible refine Below.drew ?_) | (with_reducible refine below_drewN ?_ _) | fail))⟩
open Go.ChangeShapes Go.WideShapes Go.ChangeAt Go.Deep
set_option maxRecDepth 100000 in
theorem argsLimitStates (H : Type) (enc : TypeId × Value → H) (W : World) (args : Array Value) (hargs : Args Try.checked H enc [30, 23, 2, 4] W args) :
    Calls Try.prog 4 args W fun e W' => e = .returned (.bool true) ∧ Below W.heap.size W W' := by
  obtain ⟨base, ds, p, hval, hA⟩ := hargs
  obtain ⟨v0, vs0, d0, ds0, p0, q0, hargs, rfl, rfl, h0, r0⟩ := trodAll_cons hA
  obtain ⟨v1, vs1, d1, ds1, p1, q1, rfl, rfl, rfl, h1, r1⟩ := trodAll_cons r0
  obtain ⟨v2, vs2, d2, ds2, p2, q2, rfl, rfl, rfl, h2, r2⟩ := trodAll_cons r1
  obtain ⟨v3, vs3, d3, ds3, p3, q3, rfl, rfl, rfl, h3, r3⟩ := trodAll_cons r2
  obtain ⟨rfl, rfl, rfl⟩ := trodAll_nil r3
  obtain rfl : args = #[v0, v1, v2, v3] := by cases args; simp_all
  obtain ⟨c0, rfl, f0⟩ := open_flat (ks := [none, K]) 5 Try.underlying30 (by kernel_rfl) (hval 0 _ v0 rfl rfl) h0
  obtain ⟨c1, rfl, f1⟩ := open_flat (ks := List.replicate 16 K) 5 Try.underlying23 (by kernel_rfl) (hval 1 _ v1 rfl rfl) h1
  obtain ⟨t, rfl, _⟩ := open_int Try.underlying2 (hval 2 _ v2 rfl rfl) h2
  obtain ⟨b, rfl, _⟩ := open_bool Try.underlying4 (hval 3 _ v3 rfl rfl) h3
  obtain ⟨on, since, rfl, _⟩ := fitState f0
  obtain ⟨y, rfl, _⟩ := fitSym f1
  exact states_any on b since t y W
theorem ownLimitStates : ownKnob Try.prog.godebug = none := by kernel_rfl
theorem laidLimitStates : laidOutB Try.prog = true := by kernel_rfl
set_option maxRecDepth 100000 in
theorem liftedLimitStates (os : Os) (started : os.Started) (H : Type) (enc : TypeId × Value → H) :
    ReturnsInHanded {} Try.checked os 4 .any (Rows.limitStatesSpec.pre6 enc Try.prog Try.f4 Rows.limitStatesRow.domain false) (Rows.limitStatesSpec.post enc Try.prog Try.f4 false true false false) :=
  law_lifted (C := Try.checked) (ts := [30, 23, 2, 4]) (tb := 4) ownLimitStates laidLimitStates started (by kernel_rfl) Try.func4 (by kernel_rfl)
    (ChangeSpec.witness6 (enc := enc) (C := Try.checked) false ⟨#[], #[.agg #[.bool false, .int .i64 0], .agg (Array.replicate 16 (.int .i64 0)), .int .i64 0, .bool false], []⟩ 8 (by kernel_rfl) (by kernel_rfl) (by kernel_rfl) (by kernel_rfl))
    rfl (by kernel_rfl) Try.underlying4 (by kernel_rfl)
    (fun ds h => by
      match ds, h with
      | [d0, d1, d2, d3], _ => rfl)
    (fun W args h => argsLimitStates H enc W args h)
theorem provedLimitStates : Rows.LimitStatesSaid :=
  OpenClaim.holds_of_wide 4 Try.f4 rfl rfl rfl rfl rfl rfl rfl ⟨rfl, rfl, rfl, rfl, rfl⟩ rfl rfl rfl rfl rfl (by kernel_rfl) Try.func4 (by kernel_rfl)
    (of_decide_eq_true (by kernel_rfl)) (by unfold Func.isWrapper; first | (rw [if_pos (by decide +kernel)]; kernel_rfl) | (rw [if_neg (by decide +kernel)]; exact ⟨rfl, rfl⟩))
    (fun os started H enc _ => liftedLimitStates os started H enc)
#print axioms provedLimitStates
end Lim
end Go.Proofs.Ytofjjbhhclnpoaa
