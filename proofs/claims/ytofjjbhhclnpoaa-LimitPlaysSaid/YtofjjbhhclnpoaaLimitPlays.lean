/- This text proves LimitPlays: whatever the input, the law returns true. It has no conditions. -/
import Derived.Test.YtofjjbhhclnpoaaLimit
import Derived.Test.YtofjjbhhclnpoaaQuiet
namespace Go.Proofs.Ytofjjbhhclnpoaa
open Go.RowKit
namespace Lim
set_option maxHeartbeats 1000000

theorem plays_any (y : Sym) (gs : List Int) (bs : List Bool) (A B : Option Addr) (cg cb : Nat) (w : World) (hg : Rd w 1 A (gs.map intC)) (hbs : Rd w 1 B (bs.map boolC)) (hml : gs.length ≤ maxLen) (hmb : bs.length ≤ maxLen) :
    Calls Try.prog 3 #[.agg y.arr, .slice A gs.length cg, .slice B bs.length cb] w fun e w' => e = .returned (.bool true) ∧ Below w.heap.size w w' := by
  unfold maxLen at hml hmb
  have hnil : Rd w 1 none (([] : List Int).map intC) := fun h => absurd rfl h
  cases hl : lightF y [] with
  | false =>
    have HL := Lib.hid hl
    clear hl
    go_enter Try.func3, Try.ntmps3
    go_wp2_with (first | (refine wpList_load_blk (by rfl) 23 _ (by rfl) ?_ (.pointer (some ⟨_, 0, none⟩)) (by rfl) ?_ _ Try.underlying23 rfl ?_ ?_; rotate_left; (next => (repeat (first | (refine BlkAt.new _ _ _ _ ?_; ((try simp) <;> omega)) | (with_reducible assumption) | (with_reducible refine Blk.at (t := ?_) ?_; rotate_left; with_reducible assumption) | with_reducible refine BlkAt.alloc ?_ _ | with_reducible refine BlkAt.drew ?_ | (with_reducible refine BlkAt.setCell ?_ ?_ _; rotate_left; ((try simp) <;> omega)) | (with_reducible refine BlkAt.ext (w := ?_) ?_ ?_; rotate_left 2; (with_reducible assumption)) | fail))); (next => kernel_rfl)) | (go_at_call 14; refine (light_any y [] none 0 _ (Nat.zero_le _) (fun h => absurd rfl h)).mono ?_; rintro e w1 ⟨rfl, hb1⟩; rw [HL.out]) | (go_at_call 15; refine (alive_any _).mono ?_; rintro e w'' ⟨rfl, hb2⟩) | fail)
    go_ret
    exact ⟨rfl, by (repeat (first | with_reducible exact Below.refl _ _ | (with_reducible assumption) | (with_reducible refine below_alloc ?_ _) | (with_reducible refine below_ext (w1 := ?_) ?_ ?_; rotate_left 2; (with_reducible assumption)) | (with_reducible refine Below.setCell ?_ ?_ _; rotate_left; ((try simp) <;> omega)) | (with_reducible refine Below.drew ?_) | (with_reducible refine below_drewN ?_ _) | fail))⟩
  | true =>
    have HL := Lib.hid hl
    clear hl
    by_cases h100 : 100 < gs.length
    · go_enter Try.func3, Try.ntmps3
      go_wp2_with (first | (refine wpList_load_blk (by rfl) 23 _ (by rfl) ?_ (.pointer (some ⟨_, 0, none⟩)) (by rfl) ?_ _ Try.underlying23 rfl ?_ ?_; rotate_left; (next => (repeat (first | (refine BlkAt.new _ _ _ _ ?_; ((try simp) <;> omega)) | (with_reducible assumption) | (with_reducible refine Blk.at (t := ?_) ?_; rotate_left; with_reducible assumption) | with_reducible refine BlkAt.alloc ?_ _ | with_reducible refine BlkAt.drew ?_ | (with_reducible refine BlkAt.setCell ?_ ?_ _; rotate_left; ((try simp) <;> omega)) | (with_reducible refine BlkAt.ext (w := ?_) ?_ ?_; rotate_left 2; (with_reducible assumption)) | fail))); (next => kernel_rfl)) | (go_at_call 14; refine (light_any y [] none 0 _ (Nat.zero_le _) (fun h => absurd rfl h)).mono ?_; rintro e w1 ⟨rfl, hb1⟩; rw [HL.out]) | (go_at_call 15; refine (alive_any _).mono ?_; rintro e w'' ⟨rfl, hb2⟩) | fail)
      go_ret
      exact ⟨rfl, by (repeat (first | with_reducible exact Below.refl _ _ | (with_reducible assumption) | (with_reducible refine below_alloc ?_ _) | (with_reducible refine below_ext (w1 := ?_) ?_ ?_; rotate_left 2; (with_reducible assumption)) | (with_reducible refine Below.setCell ?_ ?_ _; rotate_left; ((try simp) <;> omega)) | (with_reducible refine Below.drew ?_) | (with_reducible refine below_drewN ?_ _) | fail))⟩
    · have hlim : 0 ≤ y.limit ∧ y.limit ≤ 1099511627776 := by
        have := HL.out
        simp [lightF, lightSym] at this
        omega
      obtain ⟨hy1, hy2⟩ := hlim
      go_enter Try.func3, Try.ntmps3
      go_wp2_with (first | (refine wpList_load_blk (by rfl) 23 _ (by rfl) ?_ (.pointer (some ⟨_, 0, none⟩)) (by rfl) ?_ _ Try.underlying23 rfl ?_ ?_; rotate_left; (next => (repeat (first | (refine BlkAt.new _ _ _ _ ?_; ((try simp) <;> omega)) | (with_reducible assumption) | (with_reducible refine Blk.at (t := ?_) ?_; rotate_left; with_reducible assumption) | with_reducible refine BlkAt.alloc ?_ _ | with_reducible refine BlkAt.drew ?_ | (with_reducible refine BlkAt.setCell ?_ ?_ _; rotate_left; ((try simp) <;> omega)) | (with_reducible refine BlkAt.ext (w := ?_) ?_ ?_; rotate_left 2; (with_reducible assumption)) | fail))); (next => kernel_rfl)) | (go_at_call 14; refine (light_any y [] none 0 _ (Nat.zero_le _) (fun h => absurd rfl h)).mono ?_; rintro e w1 ⟨rfl, hb1⟩; rw [HL.out]) | (go_at_call 15; refine (alive_any _).mono ?_; rintro e w'' ⟨rfl, hb2⟩) | fail)
      have hz1 := hb1.size
      simp only [sz_alloc] at hz1
      have hB0 : Below w.heap.size w w1 := by (repeat (first | with_reducible exact Below.refl _ _ | (with_reducible assumption) | (with_reducible refine below_alloc ?_ _) | (with_reducible refine below_ext (w1 := ?_) ?_ ?_; rotate_left 2; (with_reducible assumption)) | (with_reducible refine Below.setCell ?_ ?_ _; rotate_left; ((try simp) <;> omega)) | (with_reducible refine Below.drew ?_) | (with_reducible refine below_drewN ?_ _) | fail))
      have hY : Blk w1 w.heap.size 23 y.arr := (Blk.new w 23 y.arr _ rfl).ext hb1
      go_loopw [9, 10] (fun tick i wr => ∃ (k : Nat) (b : Bool) (s T : Int), k ≤ gs.length ∧ i = .int .i64 k ∧ tick = .int .i64 T ∧ 0 ≤ s ∧ s ≤ T ∧ T ≤ k * 1125899906842624 ∧ Below w.heap.size w wr ∧ w1.heap.size + 2 ≤ wr.heap.size ∧
          Blk wr w.heap.size 23 y.arr ∧ Blk wr w1.heap.size 29 #[.bool b, .int .i64 s] ∧ Blk wr (w1.heap.size + 1) 30 #[.bool b, .int .i64 s]) (fun _ i _ => gs.length - (intOf i).toNat)
      case atStart =>
        exact ⟨0, false, 0, 0, Nat.zero_le _, rfl, rfl, by decide, by decide, by decide, by (repeat (first | with_reducible exact Below.refl _ _ | (with_reducible assumption) | (with_reducible refine below_alloc ?_ _) | (with_reducible refine below_ext (w1 := ?_) ?_ ?_; rotate_left 2; (with_reducible assumption)) | (with_reducible refine Below.setCell ?_ ?_ _; rotate_left; ((try simp) <;> omega)) | (with_reducible refine Below.drew ?_) | (with_reducible refine below_drewN ?_ _) | fail)), by simp, (hY.alloc _).alloc _, (Blk.new _ _ _ _ rfl).alloc _, Blk.new _ _ _ _ (sz_alloc _ _)⟩
      case round =>
        obtain ⟨k, b, s, T, hk, rfl, rfl, hs0, hsT, hT, hbel, hsz, hy, h7, h8⟩ := hrel
        by_cases hlt : k < gs.length
        · by_cases hlb : k < bs.length
          · obtain ⟨ab, ao, rfl, hca⟩ := (hg.below hbel).at hlt
            obtain ⟨bb, bo, rfl, hcb⟩ := (hbs.below hbel).at hlb
            have hca0 := hca 0 _ rfl
            have hcb0 := hcb 0 _ rfl
            simp only [Nat.mul_one, Nat.add_zero] at hca0 hcb0
            clear hca hcb
            by_cases hneg : gs[k] < 0
            · go_wp2_with (first | (go_at_call 15; refine (alive_any _).mono ?_; rintro e w'' ⟨rfl, hb2⟩) | fail)
              go_ret
              exact ⟨rfl, by (repeat (first | with_reducible exact Below.refl _ _ | (with_reducible assumption) | (with_reducible refine below_alloc ?_ _) | (with_reducible refine below_ext (w1 := ?_) ?_ ?_; rotate_left 2; (with_reducible assumption)) | (with_reducible refine Below.setCell ?_ ?_ _; rotate_left; ((try simp) <;> omega)) | (with_reducible refine Below.drew ?_) | (with_reducible refine below_drewN ?_ _) | fail))⟩
            · by_cases hbig : 1125899906842624 < gs[k]
              · go_wp2_with (first | (go_at_call 15; refine (alive_any _).mono ?_; rintro e w'' ⟨rfl, hb2⟩) | fail)
                go_ret
                exact ⟨rfl, by (repeat (first | with_reducible exact Below.refl _ _ | (with_reducible assumption) | (with_reducible refine below_alloc ?_ _) | (with_reducible refine below_ext (w1 := ?_) ?_ ?_; rotate_left 2; (with_reducible assumption)) | (with_reducible refine Below.setCell ?_ ?_ _; rotate_left; ((try simp) <;> omega)) | (with_reducible refine Below.drew ?_) | (with_reducible refine below_drewN ?_ _) | fail))⟩
              · have hFit : Fit (nextF b s (T + gs[k]) bs[k]).2 y.limit := by
                  unfold Fit nextF
                  split
                  · omega
                  · split <;> omega
                have hFT : Fit (T + gs[k]) 0 := by unfold Fit; omega
                have HcB : ∀ W, Below wr.heap.size wr W → W.cell? ⟨bb, bo + k, none⟩ = some (.bool bs[k]) := fun W hW => (hW.cell (cell_lt hcb0)).trans hcb0
                go_wp2_with fail
                refine wp_region_below_tail 7 (by kernel_rfl) (by kernel_rfl) ?_
                simp only [List.take_succ_cons, List.take_zero, List.drop_succ_cons, List.drop_zero]
                repeat (first | go_big_quiet_skip | (go_big_quiet_want; go_big_quiet_op; go_big_quiet_on) | (refine q_load_blk (by rfl) 29 _ (by rfl) ?_ (.pointer (some ⟨_, 0, none⟩)) (by rfl) ?_ _ (fun _ h => h) Try.underlying29 rfl ?_ ?_; rotate_left; (next => (repeat (first | (refine BlkAt.new _ _ _ _ ?_; ((try simp) <;> omega)) | (with_reducible assumption) | (with_reducible refine Blk.at (t := ?_) ?_; rotate_left; with_reducible assumption) | with_reducible refine BlkAt.alloc ?_ _ | with_reducible refine BlkAt.drew ?_ | (with_reducible refine BlkAt.setCell ?_ ?_ _; rotate_left; ((try simp) <;> omega)) | (with_reducible refine BlkAt.ext (w := ?_) ?_ ?_; rotate_left 2; (with_reducible assumption)) | fail))); (next => kernel_rfl); (try simp only [Act.put, List.setIfInBounds_toArray, List.set_cons_zero, List.set_cons_succ])) | (refine q_step_ex (by rfl) ?_; apply Exists.intro; refine ⟨fun W hW => ?_, ?_⟩; (next => go_simp; first | rfl | (go_at_call 16; refine (next_any _ _ _ _ _).mono ?_; rintro e w'' ⟨rfl, hb3⟩; exact ⟨rfl, below_ext hW hb3⟩) | fail); (try simp only [Act.put, List.setIfInBounds_toArray, List.set_cons_zero, List.set_cons_succ])) | fail)
                refine wpQuiet_nil ?_
                intro wq hbq
                have h7q := h7.ext hbq
                have h8q := h8.ext hbq
                have hyq := hy.ext hbq
                have hbelq := below_ext hbel hbq
                go_wp2_with (first | (refine wpList_store_blk (by rfl) 29 _ _ (by rfl) _ _ (by rfl) (by rfl) _ _ h7q (by kernel_rfl) (by rfl) ?_ ?_; (next => simp [Value.oneCell']); intro w2 hS2 hU2) | fail)
                have h8r := h8q.upd (by omega) hU2
                have hyr := hyq.upd (by omega) hU2
                have hbelr := below_upd hbelq (by omega) hU2
                have hcb2 : w2.cell? ⟨bb, bo + k, none⟩ = some (.bool bs[k]) := by
                  have := (hbs.below hbelr).at hlb
                  obtain ⟨b2, o2, e2, hc2⟩ := this
                  injection e2 with e2
                  injection e2 with e3 e4 e5
                  subst e3 e4
                  simpa using hc2 0 _ rfl
                have HcB2 : ∀ W, Below w2.heap.size w2 W → W.cell? ⟨bb, bo + k, none⟩ = some (.bool bs[k]) := fun W hW => (hW.cell (cell_lt hcb2)).trans hcb2
                clear HcB h7q h8q hyq
                refine wp_region_below_tail 7 (by kernel_rfl) (by kernel_rfl) ?_
                simp only [List.take_succ_cons, List.take_zero, List.drop_succ_cons, List.drop_zero]
                repeat (first | go_big_quiet_skip | (go_big_quiet_want; go_big_quiet_op; go_big_quiet_on) | (refine q_load_blk (by rfl) 30 _ (by rfl) ?_ (.pointer (some ⟨_, 0, none⟩)) (by rfl) ?_ _ (fun _ h => h) Try.underlying30 rfl ?_ ?_; rotate_left; (next => (repeat (first | (refine BlkAt.new _ _ _ _ ?_; ((try simp) <;> omega)) | (with_reducible assumption) | (with_reducible refine Blk.at (t := ?_) ?_; rotate_left; with_reducible assumption) | with_reducible refine BlkAt.alloc ?_ _ | with_reducible refine BlkAt.drew ?_ | (with_reducible refine BlkAt.setCell ?_ ?_ _; rotate_left; ((try simp) <;> omega)) | (with_reducible refine BlkAt.ext (w := ?_) ?_ ?_; rotate_left 2; (with_reducible assumption)) | fail))); (next => kernel_rfl); (try simp only [Act.put, List.setIfInBounds_toArray, List.set_cons_zero, List.set_cons_succ])) | (refine q_step_ex (by rfl) ?_; apply Exists.intro; refine ⟨fun W hW => ?_, ?_⟩; (next => go_simp; first | rfl | (go_at_call 17; refine (rnext_any _ _ _ _ _).mono ?_; rintro e w'' ⟨rfl, hb3⟩; exact ⟨rfl, below_ext hW hb3⟩) | fail); (try simp only [Act.put, List.setIfInBounds_toArray, List.set_cons_zero, List.set_cons_succ])) | fail)
                refine wpQuiet_nil ?_
                intro wq hbq
                have h7q := hS2.ext hbq
                have h8q := h8r.ext hbq
                have hyq := hyr.ext hbq
                have hbelq2 := below_ext hbelr hbq
                go_wp2_with (first | (refine wpList_store_blk (by rfl) 30 _ _ (by rfl) _ _ (by rfl) (by rfl) _ _ h8q (by kernel_rfl) (by rfl) ?_ ?_; (next => simp [Value.oneCell']); intro w3 hS3 hU3) | fail)
                have h7r := h7q.upd (by omega) hU3
                have hyr3 := hyq.upd (by omega) hU3
                have hbelr3 := below_upd hbelq2 (by omega) hU3
                refine wp_region_below_lit (by kernel_rfl) (by kernel_rfl) ?_
                repeat (first | go_big_quiet_skip | (go_big_quiet_want; go_big_quiet_op; go_big_quiet_on) | (refine q_load_blk (by rfl) 23 _ (by rfl) ?_ (.pointer (some ⟨_, 0, none⟩)) (by rfl) ?_ _ (fun _ h => h) Try.underlying23 rfl ?_ ?_; rotate_left; (next => (repeat (first | (refine BlkAt.new _ _ _ _ ?_; ((try simp) <;> omega)) | (with_reducible assumption) | (with_reducible refine Blk.at (t := ?_) ?_; rotate_left; with_reducible assumption) | with_reducible refine BlkAt.alloc ?_ _ | with_reducible refine BlkAt.drew ?_ | (with_reducible refine BlkAt.setCell ?_ ?_ _; rotate_left; ((try simp) <;> omega)) | (with_reducible refine BlkAt.ext (w := ?_) ?_ ?_; rotate_left 2; (with_reducible assumption)) | fail))); (next => kernel_rfl); (try simp only [Act.put, List.setIfInBounds_toArray, List.set_cons_zero, List.set_cons_succ])) | (refine q_load_blk (by rfl) 29 _ (by rfl) ?_ (.pointer (some ⟨_, 0, none⟩)) (by rfl) ?_ _ (fun _ h => h) Try.underlying29 rfl ?_ ?_; rotate_left; (next => (repeat (first | (refine BlkAt.new _ _ _ _ ?_; ((try simp) <;> omega)) | (with_reducible assumption) | (with_reducible refine Blk.at (t := ?_) ?_; rotate_left; with_reducible assumption) | with_reducible refine BlkAt.alloc ?_ _ | with_reducible refine BlkAt.drew ?_ | (with_reducible refine BlkAt.setCell ?_ ?_ _; rotate_left; ((try simp) <;> omega)) | (with_reducible refine BlkAt.ext (w := ?_) ?_ ?_; rotate_left 2; (with_reducible assumption)) | fail))); (next => kernel_rfl); (try simp only [Act.put, List.setIfInBounds_toArray, List.set_cons_zero, List.set_cons_succ])) | (refine q_load_blk (by rfl) 30 _ (by rfl) ?_ (.pointer (some ⟨_, 0, none⟩)) (by rfl) ?_ _ (fun _ h => h) Try.underlying30 rfl ?_ ?_; rotate_left; (next => (repeat (first | (refine BlkAt.new _ _ _ _ ?_; ((try simp) <;> omega)) | (with_reducible assumption) | (with_reducible refine Blk.at (t := ?_) ?_; rotate_left; with_reducible assumption) | with_reducible refine BlkAt.alloc ?_ _ | with_reducible refine BlkAt.drew ?_ | (with_reducible refine BlkAt.setCell ?_ ?_ _; rotate_left; ((try simp) <;> omega)) | (with_reducible refine BlkAt.ext (w := ?_) ?_ ?_; rotate_left 2; (with_reducible assumption)) | fail))); (next => kernel_rfl); (try simp only [Act.put, List.setIfInBounds_toArray, List.set_cons_zero, List.set_cons_succ])) | (refine q_step_ex (by rfl) ?_; apply Exists.intro; refine ⟨fun W hW => ?_, ?_⟩; (next => go_simp; first | rfl | (go_at_call 18; refine (own_any _ _ _).mono ?_; rintro e w'' ⟨rfl, hb3⟩; exact ⟨rfl, below_ext hW hb3⟩) | (go_at_call 19; refine (fires_any _ _ _ y _ hFit).mono ?_; rintro e w'' ⟨rfl, hb3⟩; exact ⟨rfl, below_ext hW hb3⟩) | (go_at_call 20; refine (rfires_any _ _ _ y _ hFit hFT).mono ?_; rintro e w'' ⟨rfl, hb3⟩; exact ⟨rfl, below_ext hW hb3⟩) | fail); (try simp only [Act.put, List.setIfInBounds_toArray, List.set_cons_zero, List.set_cons_succ])) | fail)
                refine wpQuiet_nil ?_
                intro wq hbq
                go_wp2_with fail
                have hz2 := hS3.lt
                have hz3 := hbq.size
                have hn0 : 0 ≤ (nextF b s (T + gs[k]) bs[k]).2 ∧ (nextF b s (T + gs[k]) bs[k]).2 ≤ T + gs[k] := by
                  unfold nextF
                  split
                  · simp; omega
                  · split
                    · simp; omega
                    · simp; omega
                go_roundw
                case rel => exact ⟨k + 1, _, _, _, by omega, by go_num, rfl, hn0.1, hn0.2, by omega, below_ext hbelr3 hbq, by omega, hyr3.ext hbq, h7r.ext hbq, hS3.ext hbq⟩
                case measure => simp [intOf]; omega
          · go_wp2_with (first | (go_at_call 15; refine (alive_any _).mono ?_; rintro e w'' ⟨rfl, hb2⟩) | fail)
            go_ret
            exact ⟨rfl, by (repeat (first | with_reducible exact Below.refl _ _ | (with_reducible assumption) | (with_reducible refine below_alloc ?_ _) | (with_reducible refine below_ext (w1 := ?_) ?_ ?_; rotate_left 2; (with_reducible assumption)) | (with_reducible refine Below.setCell ?_ ?_ _; rotate_left; ((try simp) <;> omega)) | (with_reducible refine Below.drew ?_) | (with_reducible refine below_drewN ?_ _) | fail))⟩
        · go_wp2_with (first | (go_at_call 15; refine (alive_any _).mono ?_; rintro e w'' ⟨rfl, hb2⟩) | fail)
          go_ret
          exact ⟨rfl, by (repeat (first | with_reducible exact Below.refl _ _ | (with_reducible assumption) | (with_reducible refine below_alloc ?_ _) | (with_reducible refine below_ext (w1 := ?_) ?_ ?_; rotate_left 2; (with_reducible assumption)) | (with_reducible refine Below.setCell ?_ ?_ _; rotate_left; ((try simp) <;> omega)) | (with_reducible refine Below.drew ?_) | (with_reducible refine below_drewN ?_ _) | fail))⟩
open Go.ChangeShapes Go.WideShapes Go.ChangeAt Go.Deep
set_option maxRecDepth 100000 in
theorem argsLimitPlays (H : Type) (enc : TypeId × Value → H) (W : World) (args : Array Value) (hargs : Args Try.checked H enc [23, 24, 25] W args) :
    Calls Try.prog 3 args W fun e W' => e = .returned (.bool true) ∧ Below W.heap.size W W' := by
  obtain ⟨base, ds, p, hval, hA⟩ := hargs
  obtain ⟨v0, vs0, d0, ds0, p0, q0, hargs, rfl, rfl, h0, r0⟩ := trodAll_cons hA
  obtain ⟨v1, vs1, d1, ds1, p1, q1, rfl, rfl, rfl, h1, r1⟩ := trodAll_cons r0
  obtain ⟨v2, vs2, d2, ds2, p2, q2, rfl, rfl, rfl, h2, r2⟩ := trodAll_cons r1
  obtain ⟨rfl, rfl, rfl⟩ := trodAll_nil r2
  obtain rfl : args = #[v0, v1, v2] := by cases args; simp_all
  obtain ⟨c0, rfl, f0⟩ := open_flat (ks := List.replicate 16 K) 5 Try.underlying23 (by kernel_rfl) (hval 0 _ v0 rfl rfl) h0
  obtain ⟨A, la, ca, rows, rfl, hla, _, hca, hfa, ha⟩ := open_rows (ks := [K]) 5 Try.underlying24 (by kernel_rfl) (by kernel_rfl) (by decide) (hval 1 _ v1 rfl rfl) h1
  obtain ⟨B, lb, cb, rowb, rfl, hlb, _, hcb, hfb, hb⟩ := open_rows (ks := [(none : Kd)]) 5 Try.underlying25 (by kernel_rfl) (by kernel_rfl) (by decide) (hval 2 _ v2 rfl rfl) h2
  obtain ⟨y, rfl, _⟩ := fitSym f0
  obtain ⟨gs, rfl, _⟩ := rowsOf (fun vs h => fitIntC h) rows hfa
  obtain ⟨bs, rfl, _⟩ := rowsOf (fun vs h => fitBoolC h) rowb hfb
  rw [List.length_map] at hla hlb
  subst hla hlb
  exact plays_any y gs bs A B ca cb W ha hb (by omega) (by omega)
theorem ownLimitPlays : ownKnob Try.prog.godebug = none := by kernel_rfl
theorem laidLimitPlays : laidOutB Try.prog = true := by kernel_rfl
set_option maxRecDepth 100000 in
theorem liftedLimitPlays (os : Os) (started : os.Started) (H : Type) (enc : TypeId × Value → H) :
    ReturnsInHanded {} Try.checked os 3 .any (Rows.limitPlaysSpec.pre6 enc Try.prog Try.f3 Rows.limitPlaysRow.domain false) (Rows.limitPlaysSpec.post enc Try.prog Try.f3 false true false false) :=
  law_lifted (C := Try.checked) (ts := [23, 24, 25]) (tb := 4) ownLimitPlays laidLimitPlays started (by kernel_rfl) Try.func3 (by kernel_rfl)
    (ChangeSpec.witness6 (enc := enc) (C := Try.checked) false ⟨#[], #[.agg (Array.replicate 16 (.int .i64 0)), .slice none 0 0, .slice none 0 0], []⟩ 8 (by kernel_rfl) (by kernel_rfl) (by kernel_rfl) (by kernel_rfl))
    rfl (by kernel_rfl) Try.underlying4 (by kernel_rfl)
    (fun ds h => by
      match ds, h with
      | [d0, d1, d2], _ => rfl)
    (fun W args h => argsLimitPlays H enc W args h)
theorem provedLimitPlays : Rows.LimitPlaysSaid :=
  OpenClaim.holds_of_wide 3 Try.f3 rfl rfl rfl rfl rfl rfl rfl ⟨rfl, rfl, rfl, rfl, rfl⟩ rfl rfl rfl rfl rfl (by kernel_rfl) Try.func3 (by kernel_rfl)
    (of_decide_eq_true (by kernel_rfl)) (by unfold Func.isWrapper; first | (rw [if_pos (by decide +kernel)]; kernel_rfl) | (rw [if_neg (by decide +kernel)]; exact ⟨rfl, rfl⟩))
    (fun os started H enc _ => liftedLimitPlays os started H enc)
#print axioms provedLimitPlays
end Lim
end Go.Proofs.Ytofjjbhhclnpoaa
