/- This text proves the contracts of clear.Allowed and of slices.MinFunc over prices. It has no conditions but those that it states. This text proves the contracts of clear.Choose and clear.Free. It has no conditions but those that it states. This text proves the contracts of the document's Allowed and Of, of chapter 17. It has no conditions but those that it states. This text proves the contracts of clear.Choose without a book, and of clear.Free. It has no conditions but those that it states. This text proves the contracts of the document's Of, Choose and Free of chapter 17, of damperref16.Same and of the law's has. It has no conditions but those that it states. This text proves the contracts of damperref16.Same and of the law's has, and that the statements' own example of auctions stands. It has no conditions but those that it states. -/
import Derived.Test.YtacpjpkhmdcagaaGreatClE
import Derived.Test.YtacpjpkhmdcagaaGreatCuN
import Derived.Test.YtacpjpkhmdcagaaGreatCuT
namespace Go.Proofs.YtacpjpkhmdcagaaGreat
set_option linter.unusedVariables false
open Go.RowKit
namespace Cl
set_option maxHeartbeats 4000000
set_option maxRecDepth 10000
open Bk (Bs osOf Sl)
open Cu (of_any)
/-- The prices that are allowed in a band that is cut. -/
def Alx (lo hi r : Int) (os : List Ord) (u : List Int) : Prop :=
  (max lo 1 ≤ min hi 1099511627776 ∧ Al (max lo 1) (min hi 1099511627776) (min (max r (max lo 1)) (min hi 1099511627776)) os u) ∨ (¬ max lo 1 ≤ min hi 1099511627776 ∧ u = [])
theorem alx_uniq {lo hi r : Int} {os : List Ord} {u v : List Int} (h : Alx lo hi r os u) (h2 : Alx lo hi r os v) : u = v := by
  rcases h with ⟨h0, h⟩ | ⟨h0, h⟩
  · rcases h2 with ⟨_, h2⟩ | ⟨h3, _⟩
    · exact al_uniq h h2
    · exact absurd h0 h3
  · rcases h2 with ⟨h3, _⟩ | ⟨_, h2⟩
    · exact absurd h3 h0
    · rw [h, h2]
theorem alx_len {lo hi r : Int} {os : List Ord} {u : List Int} (h : Alx lo hi r os u) : u.length ≤ os.length + 1 := by
  rcases h with ⟨_, h⟩ | ⟨_, h⟩
  · exact al_len h
  · rw [h]; exact Nat.zero_le _
theorem callowed_nil (r lo hi : Int) (w : World) : Calls Tryz.prog 20 #[.pointer none, .int .i64 r, .agg #[.int .i64 lo, .int .i64 hi]] w fun e w' => e = .returned (.slice none 0 0) ∧ Below w.heap.size w w' := by
  have hB0 : Blk (w.alloc (.cells #[.int .i64 lo, .int .i64 hi] 24)) w.heap.size 24 #[.int .i64 lo, .int .i64 hi] := Blk.new _ _ _ _ rfl
  have hb0 : Below w.heap.size w (w.alloc (.cells #[.int .i64 lo, .int .i64 hi] 24)) := by (repeat (first | with_reducible exact Below.refl _ _ | (with_reducible assumption) | (with_reducible refine below_alloc ?_ _) | (with_reducible refine below_ext (w1 := ?_) ?_ ?_; rotate_left 2; (with_reducible assumption)) | (with_reducible refine Below.setCell ?_ ?_ _; rotate_left; ((try simp) <;> omega)) | (with_reducible refine Below.drew ?_) | (with_reducible refine below_drewN ?_ _) | fail))
  have HC := Lib.hid (fun W => cut_any lo hi W)
  go_enter Tryz.func20, Tryz.ntmps20
  go_wp2_with (first | ((with_reducible show wpList _ _ _ (⟨_, .load 24 _, _, _, _, _⟩ :: _) _ _); refine wpList_load_ho 24 _ (by rfl) (by rfl) ?_ (.pointer (some ⟨_, 0, none⟩)) (by rfl) ?_ _ Tryz.underlying24 rfl ?_ ?_; rotate_left; (next => (repeat (first | (with_reducible refine BlkAt.new _ _ _ _ ?_; ((try simp) <;> omega)) | (with_reducible assumption) | (with_reducible refine Blk.at (t := ?_) ?_; rotate_left; with_reducible assumption) | with_reducible refine BlkAt.alloc ?_ _ | with_reducible refine BlkAt.drew ?_ | (with_reducible refine BlkAt.setSame ?_ _ _) | (with_reducible refine BlkAt.setCell ?_ ?_ _; rotate_left; ((try simp) <;> omega)) | (with_reducible refine BlkAt.ext (w := ?_) ?_ ?_; rotate_left 2; (with_reducible assumption)) | fail))); (next => kernel_rfl)) | fail)
  refine (HC.out _).mono ?_
  rintro e w2 ⟨rfl, hb2⟩
  have hB2 := hB0.ext hb2
  have hb02 := below_ext hb0 hb2
  clear hB0 hb0 hb2 HC
  go_wp2_with (first | ((with_reducible show wpList _ _ _ (⟨_, .store 24 _ _, _, _, _, _⟩ :: _) _ _); refine wpList_store_blk (by rfl) 24 _ _ (by rfl) _ _ (by rfl) (by rfl) _ _ hB2 (by kernel_rfl) (by rfl) ?_ ?_; (next => exact two_one ..); intro w3 hB3 hU3) | fail)
  go_ret
  exact ⟨rfl, below_upd hb02 (Nat.le_refl _) hU3⟩
theorem callowed_any {w : World} {c : Nat → Nat} {b N most k : Nat} {ss : List Sl} (S : Bs w c b N most k ss) (r lo hi : Int) : Calls Tryz.prog 20 #[.pointer (some ⟨b, 0, none⟩), .int .i64 r, .agg #[.int .i64 lo, .int .i64 hi]] w fun e w' => (∃ v u, e = .returned v ∧ w'.ownsRow w.heap.size 2 1 v u.length (ints u) ∧ Alx lo hi r (osOf ss) u) ∧ Below w.heap.size w w' := by
  have hB0 : Blk (w.alloc (.cells #[.int .i64 lo, .int .i64 hi] 24)) w.heap.size 24 #[.int .i64 lo, .int .i64 hi] := Blk.new _ _ _ _ rfl
  have hb0 : Below w.heap.size w (w.alloc (.cells #[.int .i64 lo, .int .i64 hi] 24)) := by (repeat (first | with_reducible exact Below.refl _ _ | (with_reducible assumption) | (with_reducible refine below_alloc ?_ _) | (with_reducible refine below_ext (w1 := ?_) ?_ ?_; rotate_left 2; (with_reducible assumption)) | (with_reducible refine Below.setCell ?_ ?_ _; rotate_left; ((try simp) <;> omega)) | (with_reducible refine Below.drew ?_) | (with_reducible refine below_drewN ?_ _) | fail))
  have HC := Lib.hid (fun W => cut_any lo hi W)
  obtain ⟨lo2, hlo2⟩ : ∃ x, x = max lo 1 := ⟨_, rfl⟩
  obtain ⟨hi2, hhi2⟩ : ∃ x, x = min hi 1099511627776 := ⟨_, rfl⟩
  rw [← hlo2, ← hhi2] at HC
  have HX : Hid (∀ u, (lo2 ≤ hi2 ∧ Al lo2 hi2 (min (max r lo2) hi2) (osOf ss) u) ∨ (¬ lo2 ≤ hi2 ∧ u = []) → Alx lo hi r (osOf ss) u) := Lib.hid (fun u h => by rw [hlo2, hhi2] at h; exact h)
  have HOF := Lib.hid (fun W (hW : Below w.heap.size w W) => of_any (S.ext hW))
  clear hlo2 hhi2 S
  go_enter Tryz.func20, Tryz.ntmps20
  go_wp2_with (first | ((with_reducible show wpList _ _ _ (⟨_, .load 24 _, _, _, _, _⟩ :: _) _ _); refine wpList_load_ho 24 _ (by rfl) (by rfl) ?_ (.pointer (some ⟨_, 0, none⟩)) (by rfl) ?_ _ Tryz.underlying24 rfl ?_ ?_; rotate_left; (next => (repeat (first | (with_reducible refine BlkAt.new _ _ _ _ ?_; ((try simp) <;> omega)) | (with_reducible assumption) | (with_reducible refine Blk.at (t := ?_) ?_; rotate_left; with_reducible assumption) | with_reducible refine BlkAt.alloc ?_ _ | with_reducible refine BlkAt.drew ?_ | (with_reducible refine BlkAt.setSame ?_ _ _) | (with_reducible refine BlkAt.setCell ?_ ?_ _; rotate_left; ((try simp) <;> omega)) | (with_reducible refine BlkAt.ext (w := ?_) ?_ ?_; rotate_left 2; (with_reducible assumption)) | fail))); (next => kernel_rfl)) | fail)
  refine (HC.out _).mono ?_
  rintro e w2 ⟨rfl, hb2⟩
  have hB2 := hB0.ext hb2
  have hb02 := below_ext hb0 hb2
  clear hB0 hb0 hb2 HC
  by_cases hle : lo2 ≤ hi2
  case neg =>
    have HY := HX.out [] (.inr ⟨by omega, rfl⟩)
    have hd : decide (lo2 ≤ hi2) = false := decide_eq_false hle
    clear HX HOF
    go_wp2_with (first | ((with_reducible show wpList _ _ _ (⟨_, .store 24 _ _, _, _, _, _⟩ :: _) _ _); refine wpList_store_blk (by rfl) 24 _ _ (by rfl) _ _ (by rfl) (by rfl) _ _ hB2 (by kernel_rfl) (by rfl) ?_ ?_; (next => exact two_one ..); intro w3 hB3 hU3) | fail)
    go_ret
    exact ⟨⟨_, [], rfl, World.ownsRow_nil _ _ _ _, HY⟩, below_upd hb02 (Nat.le_refl _) hU3⟩
  have hd : decide (lo2 ≤ hi2) = true := decide_eq_true hle
  go_wp2_with (first | ((with_reducible show wpList _ _ _ (⟨_, .store 24 _ _, _, _, _, _⟩ :: _) _ _); refine wpList_store_blk (by rfl) 24 _ _ (by rfl) _ _ (by rfl) (by rfl) _ _ hB2 (by kernel_rfl) (by rfl) ?_ ?_; (next => exact two_one ..); intro w3 hB3 hU3) | fail)
  have hb3 := below_upd hb02 (Nat.le_refl _) hU3
  have hbd : Below w3.heap.size w3 w3.drew := (Below.refl _ _).drew
  have HLE := Lib.hid hle
  clear hU3 hB2 hb02 hd hle
  refine wp_region_T (S := fun W => Blk W w.heap.size 24 #[.int .i64 lo2, .int .i64 hi2]) 5 (by kernel_rfl) ?_
  generalize w3.drew = w4 at hbd ⊢
  have hS := hB3.ext hbd
  have hb4 := below_ext hb3 hbd
  clear hbd hB3 hb3
  (refine T_take (i := 0) rfl (by kernel_rfl) (fun _ _ _ _ h => h) hS ?_; apply Exists.intro; refine ⟨.inl ⟨by rfl, fun W hW => ?_⟩, ?_⟩; (next => (go_simp; first | done | rfl)); simp only [Act.put, List.setIfInBounds_toArray, List.set_cons_zero, List.set_cons_succ])
  (refine T_take (i := 2) rfl (by kernel_rfl) (fun _ _ _ _ h => h) hS ?_; apply Exists.intro; refine ⟨.inl ⟨by rfl, fun W hW => ?_⟩, ?_⟩; (next => (go_simp; first | done | rfl)); simp only [Act.put, List.setIfInBounds_toArray, List.set_cons_zero, List.set_cons_succ])
  (refine T_take (i := 3) rfl (by kernel_rfl) (fun _ _ _ _ h => h) hS ?_; refine ⟨_, y_load_blk 24 _ rfl (by rfl) w.heap.size (by rfl) 24 #[.int .i64 lo2, .int .i64 hi2] _ (fun W h => h) Tryz.underlying24 rfl (by kernel_rfl), ?_⟩; simp only [Act.put, List.setIfInBounds_toArray, List.set_cons_zero, List.set_cons_succ])
  refine T_all [1] (by kernel_rfl) (by decide) ?_
  intro j hj
  simp only [List.mem_cons, or_false, List.not_mem_nil] at hj
  subst hj
  refine T_op rfl (by rfl) ?_
  refine Lad.wp_enterE (F := 27) (args := #[.pointer (some ⟨b, 0, none⟩)]) ?_ ?_
  (next => first | (go_simp; done) | (go_simp; rfl))
  refine (HOF.out _ hb4).mono ?_
  rintro e w5 ⟨cb, l, A, cap, rfl, C5, AL, hcb, hb45⟩
  have hS5 := hS.ext hb45
  have hb5 := below_ext hb4 hb45
  refine ⟨_, rfl, .inr hS5, ?_⟩
  simp only [Act.put, List.setIfInBounds_toArray, List.set_cons_zero, List.set_cons_succ]
  have HAL := Lib.hid (allowed_any C5 AL r lo2 hi2)
  clear C5 AL hS hb4 hb45 hcb
  refine T_all [4] (by kernel_rfl) (by decide) ?_
  intro j hj
  simp only [List.mem_cons, or_false, List.not_mem_nil] at hj
  subst hj
  refine T_op rfl (by rfl) ?_
  refine Lad.wp_enterE (F := 29) (args := #[.pointer (some ⟨cb, 0, none⟩), .int .i64 r, .agg #[.int .i64 lo2, .int .i64 hi2]]) ?_ ?_
  (next => first | (go_simp; done) | (go_simp; rfl))
  refine HAL.out.mono ?_
  rintro e w6 ⟨⟨v, u, rfl, hown, hal⟩, hb56⟩
  have hb6 := below_ext hb5 hb56
  have HF := Lib.hid (And.intro (Rk.owns_mono hown hb5.size) (HX.out u (.inl ⟨HLE.out, hal⟩)))
  refine ⟨_, rfl, .inr (hS5.ext hb56), ?_⟩
  simp only [Act.put, List.setIfInBounds_toArray, List.set_cons_zero, List.set_cons_succ]
  clear hown hal HAL hS5 hb56 hb5
  refine T_all [5] (by kernel_rfl) (by decide) ?_
  intro j hj
  simp only [List.mem_cons, or_false, List.not_mem_nil] at hj
  subst hj
  refine T_op rfl (by rfl) (Rk.wp_calm (v := v) (by go_simp; first | done | rfl) ⟨.inl rfl, ?_⟩)
  simp only [Act.put, List.setIfInBounds_toArray, List.set_cons_zero, List.set_cons_succ]
  refine T_done (by kernel_rfl) ?_
  go_wp2_with fail
  go_ret
  exact ⟨⟨v, u, rfl, HF.out.1, HF.out.2⟩, hb6⟩
/-! ### the least one -/
def stepF (r : Int) (m y : Pr) : Pr := if ordI y m r < 0 then y else m
def minF (r : Int) : List Pr → Pr
  | [] => ⟨0, 0, 0⟩
  | x :: l => l.foldl (stepF r) x
theorem minF_take {r : Int} {l : List Pr} {k : Nat} (hk : k < l.length) (h1 : 1 ≤ k) : minF r (l.take (k + 1)) = stepF r (minF r (l.take k)) l[k] := by
  cases l with
  | nil => simp at hk
  | cons x l =>
    obtain ⟨j, rfl⟩ : ∃ j, k = j + 1 := ⟨k - 1, by omega⟩
    simp only [List.take_succ_cons, minF, List.getElem_cons_succ]
    have hj : j < l.length := by simpa using hk
    rw [List.take_succ_eq_append_getElem hj, List.foldl_append]
    rfl
theorem pr_ok (l : List Pr) : ∀ r ∈ l.map Pr.cells, r.length = 3 ∧ ∀ u ∈ r, u.oneCell' = true := by
  intro r hr
  obtain ⟨x, _, rfl⟩ := List.mem_map.1 hr
  exact ⟨rfl, fun u hu => by simp [Pr.cells] at hu; rcases hu with rfl | rfl | rfl <;> rfl⟩
theorem results_cpr {fn : Func} {p : Tmp} (h : fn.results = #[.cell p 32]) (tmps : Array Value) (w : World) (g : Nat) (cs : Array Value) (hp : tmps.getD p undef = .pointer (some ⟨g, 0, none⟩)) (hb : Blk w g 32 cs) (h3 : cs.size = 3) :
    (results fn tmps).run Tryz.prog w = .ok (.agg cs) w :=
  results_cell_row h _ _ _ _ _ _ _ hp hb Tryz.underlying32 rfl (by rw [h3]; kernel_rfl)
theorem minf_any {w : World} {bx : Nat} {r : Int} {l : List Pr} {A : Option Addr} {cap : Nat} (hx : Blk w bx 2 #[.int .i64 r]) (hr : Rd w 3 A (l.map Pr.cells)) (h0 : 0 < l.length) (hl : l.length ≤ 1000) : Calls Tryz.prog 32 #[.slice A l.length cap, .func (.func 33) #[] #[.pointer (some ⟨bx, 0, none⟩)]] w fun e w' => e = .returned (.agg (minF r l).arr) ∧ Below w.heap.size w w' := by
  have hR0 : Blk (w.alloc (.cells #[.int .i64 0, .int .i64 0, .int .i64 0] 32)) w.heap.size 32 #[.int .i64 0, .int .i64 0, .int .i64 0] := Blk.new _ _ _ _ rfl
  have hb0 : Below w.heap.size w (w.alloc (.cells #[.int .i64 0, .int .i64 0, .int .i64 0] 32)) := by (repeat (first | with_reducible exact Below.refl _ _ | (with_reducible assumption) | (with_reducible refine below_alloc ?_ _) | (with_reducible refine below_ext (w1 := ?_) ?_ ?_; rotate_left 2; (with_reducible assumption)) | (with_reducible refine Below.setCell ?_ ?_ _; rotate_left; ((try simp) <;> omega)) | (with_reducible refine Below.drew ?_) | (with_reducible refine below_drewN ?_ _) | fail))
  generalize hw0 : w.alloc (.cells #[.int .i64 0, .int .i64 0, .int .i64 0] 32) = w0 at hR0 hb0
  have HW0 := Lib.hid hw0
  have hM0 : Blk (w0.alloc (.cells #[.int .i64 0, .int .i64 0, .int .i64 0] 32)) w0.heap.size 32 #[.int .i64 0, .int .i64 0, .int .i64 0] := Blk.new _ _ _ _ rfl
  have hb1 : Below w0.heap.size w0 (w0.alloc (.cells #[.int .i64 0, .int .i64 0, .int .i64 0] 32)) := by (repeat (first | with_reducible exact Below.refl _ _ | (with_reducible assumption) | (with_reducible refine below_alloc ?_ _) | (with_reducible refine below_ext (w1 := ?_) ?_ ?_; rotate_left 2; (with_reducible assumption)) | (with_reducible refine Below.setCell ?_ ?_ _; rotate_left; ((try simp) <;> omega)) | (with_reducible refine Below.drew ?_) | (with_reducible refine below_drewN ?_ _) | fail))
  have hrl := hR0.lt
  obtain ⟨ab, ao, rfl, hm0⟩ := Bk.rd_rngB hr h0
  have hi : ¬ (l.length : Int) < 1 := by omega
  have hi0 : (0 : Int) < (l.length : Int) := by omega
  have hab : ab < w.heap.size := cell_lt (hm0 0 _ rfl)
  have hm1 : w0.rangeAt ab ao (l[0]).cells := fun j v hv => by
    have h := hm0 j v hv
    rw [Nat.zero_mul, Nat.add_zero] at h
    exact (hb0.cell (p := ⟨ab, ao + j, none⟩) hab).trans h
  have HM0 : Hid (minF r (l.take 1) = l[0]) := Lib.hid (by
    cases l with
    | nil => simp at h0
    | cons x l => rfl)
  have HR := Lib.hid hr
  have HX := Lib.hid hx
  have hbl := hx.lt
  clear hw0 hr hx hm0
  generalize hx0 : l[0] = x0 at hm1 HM0
  clear hx0
  go_enter Tryz.func32, Tryz.ntmps32
  go_upto_region 1 with fail
  rw [HW0.out]
  go_wp2_with (first | (refine wpList_load_midw (by rfl) _ _ (by rfl) _ _ (by rfl) _ _ hm1 Tryz.underlying32 rfl (by kernel_rfl) ?_) | ((with_reducible show wpList _ _ _ (⟨_, .store 32 _ _, _, _, _, _⟩ :: _) _ _); refine wpList_store_blk (by rfl) 32 _ _ (by rfl) _ _ (by rfl) (by rfl) _ _ hM0 (by kernel_rfl) (by rfl) ?_ ?_; (next => exact pr_one ..); intro w2 hM2 hU2) | fail)
  have hM3 : Blk w2 w0.heap.size 32 x0.arr := hM2
  have hb2 : Below w0.heap.size w0 w2 := below_upd hb1 (Nat.le_refl _) hU2
  have hR2 := hR0.ext hb2
  have hbw2 := below_ext hb0 hb2
  obtain ⟨mb, hmb⟩ : ∃ b, b = w0.heap.size := ⟨_, rfl⟩
  rw [← hmb] at hM3 hrl ⊢
  clear hM0 hM2 hU2 hb1 hm1 hR0 hb0 HW0 hb2 hmb
  go_loopw [6] (fun p wr => ∃ (k : Nat) (y : Pr), p = .int .i64 k ∧ 1 ≤ k ∧ k ≤ l.length ∧ Hid (minF r (l.take k) = y) ∧ Blk wr mb 32 y.arr ∧ Blk wr w.heap.size 32 #[.int .i64 0, .int .i64 0, .int .i64 0] ∧ Below w.heap.size w wr) (fun p _ => l.length - (intOf p).toNat)
  case atStart => exact ⟨1, x0, rfl, Nat.le_refl _, h0, HM0, hM3, hR2, hbw2⟩
  case round =>
    obtain ⟨k, y, rfl, hk1, hk, HY, hM, hRr, hb⟩ := hrel
    by_cases hlt : k < l.length
    · have e1 : (k : Int) < (l.length : Int) := by omega
      have e0 : (0 : Int) ≤ (k : Int) := by omega
      obtain ⟨_, _, e9, hm⟩ := Bk.rd_rngB HR.out hlt
      cases e9
      have hmid : wr.rangeAt ab (ao + k * 3) (l[k]).cells := fun j v hv => (hb.cell (p := ⟨ab, ao + k * 3 + j, none⟩) hab).trans (hm j v hv)
      have hxW := HX.out.ext hb
      have HT : Hid (minF r (l.take (k + 1)) = stepF r y l[k]) := Lib.hid (by rw [← HY.out]; exact minF_take hlt hk1)
      generalize hz : l[k] = z at hmid HT
      have HC := Lib.hid (fun W (hW : Below wr.heap.size wr W) => chf_any (hxW.ext hW) z y)
      have habw : ab < wr.heap.size := by have := hb.size; omega
      obtain ⟨d, hd⟩ : ∃ d, d = ordI z y r := ⟨_, rfl⟩
      rw [← hd] at HC
      have lM := hM.lt
      have lR := hRr.lt
      by_cases hlt0 : d < 0
      · have HS : Hid (minF r (l.take (k + 1)) = z) := Lib.hid (by rw [HT.out]; unfold stepF; rw [if_pos (by rw [← hd]; exact hlt0)])
        have hd0 : decide (d < 0) = true := decide_eq_true hlt0
        clear hz hm hxW hd HT
        go_wp2_with fail
        refine wp_region_below_lit (by kernel_rfl) (by kernel_rfl) ?_
        repeat (first | go_big_quiet_skip | (go_big_quiet_want; go_big_quiet_op; go_big_quiet_on) | (refine q_load_mid (by rfl) _ _ (by rfl) (fun _ h => h) _ _ (by rfl) _ _ hmid Tryz.underlying32 rfl (by kernel_rfl) ?_; (try simp only [Act.put, List.setIfInBounds_toArray, List.set_cons_zero, List.set_cons_succ])) | (refine q_load_blk (by rfl) 32 _ (by rfl) ?_ (.pointer (some ⟨_, 0, none⟩)) (by rfl) ?_ _ (fun _ h => h) Tryz.underlying32 rfl ?_ ?_; rotate_left; (next => (repeat (first | (with_reducible refine BlkAt.new _ _ _ _ ?_; ((try simp) <;> omega)) | (with_reducible assumption) | (with_reducible refine Blk.at (t := ?_) ?_; rotate_left; with_reducible assumption) | with_reducible refine BlkAt.alloc ?_ _ | with_reducible refine BlkAt.drew ?_ | (with_reducible refine BlkAt.setSame ?_ _ _) | (with_reducible refine BlkAt.setCell ?_ ?_ _; rotate_left; ((try simp) <;> omega)) | (with_reducible refine BlkAt.ext (w := ?_) ?_ ?_; rotate_left 2; (with_reducible assumption)) | fail))); (next => kernel_rfl); (try simp only [Act.put, List.setIfInBounds_toArray, List.set_cons_zero, List.set_cons_succ])) | (refine q_load_fld (by rfl) _ _ (by rfl) (fun _ h => h) _ _ (by rfl) ?_ ?_ ?_ ?_ ?_ ?_; rotate_left; (next => (repeat (first | (with_reducible refine BlkAt.new _ _ _ _ ?_; ((try simp) <;> omega)) | (with_reducible assumption) | (with_reducible refine Blk.at (t := ?_) ?_; rotate_left; with_reducible assumption) | with_reducible refine BlkAt.alloc ?_ _ | with_reducible refine BlkAt.drew ?_ | (with_reducible refine BlkAt.setSame ?_ _ _) | (with_reducible refine BlkAt.setCell ?_ ?_ _; rotate_left; ((try simp) <;> omega)) | (with_reducible refine BlkAt.ext (w := ?_) ?_ ?_; rotate_left 2; (with_reducible assumption)) | fail))); rotate_left; (next => first | (simp only [go_sem]; rfl) | rfl); (next => kernel_rfl); (try simp only [Act.put, List.setIfInBounds_toArray, List.set_cons_zero, List.set_cons_succ])) | (refine q_rem (by rfl) _ _ _ _ (by rfl) _ _ (by rfl) (by rfl) (by kernel_rfl) (by kernel_rfl) ?_ ?_; (next => omega); (try simp only [Act.put, List.setIfInBounds_toArray, List.set_cons_zero, List.set_cons_succ])) | (refine q_step_ex (by rfl) ?_; apply Exists.intro; refine ⟨fun W hW => ?_, ?_⟩; (next => (have hWc := fun (b o : Nat) (h : b < _) => (Ext.out hW).cell (p := ⟨b, o, none⟩) h); (try have hLK := HLK.out W (Ext.out hW)); go_simp; first | rfl | (go_at_call 33; refine (HC.out _ hW.out).mono ?_; rintro e w'' ⟨rfl, hb2⟩; exact ⟨rfl, below_ext hW hb2⟩) | fail); (try simp only [Act.put, List.setIfInBounds_toArray, List.set_cons_zero, List.set_cons_succ])) | fail)
        refine wpQuiet_nil ?_
        intro w3 hb3
        have hmid3 : w3.rangeAt ab (ao + k * 3) z.cells := fun j v hv => (hb3.cell (p := ⟨ab, ao + k * 3 + j, none⟩) habw).trans (hmid j v hv)
        have hM3 := hM.ext hb3
        have hR3 := hRr.ext hb3
        have hbw3 := below_ext hb hb3
        clear hmid hM hRr hb hb3
        go_wp2_with (first | (refine wpList_load_midw (by rfl) _ _ (by rfl) _ _ (by rfl) _ _ hmid3 Tryz.underlying32 rfl (by kernel_rfl) ?_) | ((with_reducible show wpList _ _ _ (⟨_, .store 32 _ _, _, _, _, _⟩ :: _) _ _); refine wpList_store_blk (by rfl) 32 _ _ (by rfl) _ _ (by rfl) (by rfl) _ _ hM3 (by kernel_rfl) (by rfl) ?_ ?_; (next => exact pr_one ..); intro w5 hM5 hU5) | fail)
        go_roundw
        case rel => exact ⟨k + 1, z, by go_num, by omega, by omega, HS, hM5, hR3.upd (by omega) hU5, below_upd hbw3 (by omega) hU5⟩
        case measure => (simp [intOf]; omega)
      · have HS : Hid (minF r (l.take (k + 1)) = y) := Lib.hid (by rw [HT.out]; unfold stepF; rw [if_neg (by rw [← hd]; exact hlt0)])
        have hd0 : decide (d < 0) = false := decide_eq_false hlt0
        clear hz hm hxW hd HT
        go_wp2_with fail
        refine wp_region_below_lit (by kernel_rfl) (by kernel_rfl) ?_
        repeat (first | go_big_quiet_skip | (go_big_quiet_want; go_big_quiet_op; go_big_quiet_on) | (refine q_load_mid (by rfl) _ _ (by rfl) (fun _ h => h) _ _ (by rfl) _ _ hmid Tryz.underlying32 rfl (by kernel_rfl) ?_; (try simp only [Act.put, List.setIfInBounds_toArray, List.set_cons_zero, List.set_cons_succ])) | (refine q_load_blk (by rfl) 32 _ (by rfl) ?_ (.pointer (some ⟨_, 0, none⟩)) (by rfl) ?_ _ (fun _ h => h) Tryz.underlying32 rfl ?_ ?_; rotate_left; (next => (repeat (first | (with_reducible refine BlkAt.new _ _ _ _ ?_; ((try simp) <;> omega)) | (with_reducible assumption) | (with_reducible refine Blk.at (t := ?_) ?_; rotate_left; with_reducible assumption) | with_reducible refine BlkAt.alloc ?_ _ | with_reducible refine BlkAt.drew ?_ | (with_reducible refine BlkAt.setSame ?_ _ _) | (with_reducible refine BlkAt.setCell ?_ ?_ _; rotate_left; ((try simp) <;> omega)) | (with_reducible refine BlkAt.ext (w := ?_) ?_ ?_; rotate_left 2; (with_reducible assumption)) | fail))); (next => kernel_rfl); (try simp only [Act.put, List.setIfInBounds_toArray, List.set_cons_zero, List.set_cons_succ])) | (refine q_load_fld (by rfl) _ _ (by rfl) (fun _ h => h) _ _ (by rfl) ?_ ?_ ?_ ?_ ?_ ?_; rotate_left; (next => (repeat (first | (with_reducible refine BlkAt.new _ _ _ _ ?_; ((try simp) <;> omega)) | (with_reducible assumption) | (with_reducible refine Blk.at (t := ?_) ?_; rotate_left; with_reducible assumption) | with_reducible refine BlkAt.alloc ?_ _ | with_reducible refine BlkAt.drew ?_ | (with_reducible refine BlkAt.setSame ?_ _ _) | (with_reducible refine BlkAt.setCell ?_ ?_ _; rotate_left; ((try simp) <;> omega)) | (with_reducible refine BlkAt.ext (w := ?_) ?_ ?_; rotate_left 2; (with_reducible assumption)) | fail))); rotate_left; (next => first | (simp only [go_sem]; rfl) | rfl); (next => kernel_rfl); (try simp only [Act.put, List.setIfInBounds_toArray, List.set_cons_zero, List.set_cons_succ])) | (refine q_rem (by rfl) _ _ _ _ (by rfl) _ _ (by rfl) (by rfl) (by kernel_rfl) (by kernel_rfl) ?_ ?_; (next => omega); (try simp only [Act.put, List.setIfInBounds_toArray, List.set_cons_zero, List.set_cons_succ])) | (refine q_step_ex (by rfl) ?_; apply Exists.intro; refine ⟨fun W hW => ?_, ?_⟩; (next => (have hWc := fun (b o : Nat) (h : b < _) => (Ext.out hW).cell (p := ⟨b, o, none⟩) h); (try have hLK := HLK.out W (Ext.out hW)); go_simp; first | rfl | (go_at_call 33; refine (HC.out _ hW.out).mono ?_; rintro e w'' ⟨rfl, hb2⟩; exact ⟨rfl, below_ext hW hb2⟩) | fail); (try simp only [Act.put, List.setIfInBounds_toArray, List.set_cons_zero, List.set_cons_succ])) | fail)
        refine wpQuiet_nil ?_
        intro w3 hb3
        have hM3 := hM.ext hb3
        have hR3 := hRr.ext hb3
        have hbw3 := below_ext hb hb3
        clear hmid hM hRr hb hb3
        go_wp2_with fail
        go_roundw
        case rel => exact ⟨k + 1, y, by go_num, by omega, by omega, HS, hM3, hR3, hbw3⟩
        case measure => (simp [intOf]; omega)
    · have hke : k = l.length := by omega
      have HYE : Hid (minF r l = y) := Lib.hid (by have h := HY.out; rw [hke, List.take_length] at h; exact h)
      have e1 : ¬ (k : Int) < (l.length : Int) := by omega
      clear hke
      go_wp2_with (first | ((with_reducible show wpList _ _ _ (⟨_, .load 32 _, _, _, _, _⟩ :: _) _ _); refine wpList_load_ho 32 _ (by rfl) (by rfl) ?_ (.pointer (some ⟨_, 0, none⟩)) (by rfl) ?_ _ Tryz.underlying32 rfl ?_ ?_; rotate_left; (next => (repeat (first | (with_reducible refine BlkAt.new _ _ _ _ ?_; ((try simp) <;> omega)) | (with_reducible assumption) | (with_reducible refine Blk.at (t := ?_) ?_; rotate_left; with_reducible assumption) | with_reducible refine BlkAt.alloc ?_ _ | with_reducible refine BlkAt.drew ?_ | (with_reducible refine BlkAt.setSame ?_ _ _) | (with_reducible refine BlkAt.setCell ?_ ?_ _; rotate_left; ((try simp) <;> omega)) | (with_reducible refine BlkAt.ext (w := ?_) ?_ ?_; rotate_left 2; (with_reducible assumption)) | fail))); (next => kernel_rfl)) | ((with_reducible show wpList _ _ _ (⟨_, .store 32 _ _, _, _, _, _⟩ :: _) _ _); refine wpList_store_blk (by rfl) 32 _ _ (by rfl) _ _ (by rfl) (by rfl) _ _ hRr (by kernel_rfl) (by rfl) ?_ ?_; (next => exact pr_one ..); intro w5 hR5 hU5) | fail)
      refine bodyPost_ret (results_cpr rfl _ _ w.heap.size _ (by rfl) hR5 rfl) rfl ⟨by rw [HYE.out], below_upd hb (Nat.le_refl _) hU5⟩
end Cl
end Go.Proofs.YtacpjpkhmdcagaaGreat
namespace Go.Proofs.YtacpjpkhmdcagaaGreat
set_option linter.unusedVariables false
open Go.RowKit
namespace Cl
set_option maxHeartbeats 4000000
set_option maxRecDepth 10000
open Bk (Bs osOf Sl)
open Cu (of_any dem sup Pt pt_one ic)
/-- What an auction at a price has. -/
def prO (os : List Ord) (p : Int) : Pr := ⟨p, min (dem os p) (sup os p), Cu.oddsP ⟨p, dem os p, sup os p⟩⟩
/-- The price that is chosen, of some. -/
def chB (os : List Ord) (r : Int) (u : List Int) : Pr × Bool := if (minF r (u.map (prO os))).volume = 0 then (⟨0, 0, 0⟩, false) else (minF r (u.map (prO os)), true)
def flatPr (l : List Pr) : List Value := (l.map Pr.cells).flatten
theorem flatPr_snoc (l : List Pr) (f : Pr) : flatPr (l ++ [f]) = flatPr l ++ [f.cells].flatten := by simp [flatPr]
theorem built_c0 : Tryz.prog.built 32 [] = some (Pr.mk 0 0 0).arr := by kernel_rfl
theorem results_cpr2 {fn : Func} {p u : Tmp} (h : fn.results = #[.cell p 32, .tmp u]) (tmps : Array Value) (w : World) (g : Nat) (cs : Array Value) (x : Value) (hp : tmps.getD p undef = .pointer (some ⟨g, 0, none⟩)) (hx : tmps.getD u undef = x) (hb : Blk w g 32 cs) (h4 : cs.size = 3) :
    (results fn tmps).run Tryz.prog w = .ok (.tuple #[.agg cs, x]) w := by
  rw [results_cell_tmp h, hp, hx]
  simp only [asAddr, Sem.run_pure, Result.andThen_ok, run_loadVar_row w g 32 32 cs _ _ hb Tryz.underlying32 rfl (by rw [h4]; kernel_rfl)]
theorem owns_pr {w : World} {B : Nat} {v : Value} {l : List Pr} (h : w.ownsRow B 32 3 v l.length (flatPr l)) : ∃ A cap, v = .slice A l.length cap ∧ Rd w 3 A (l.map Pr.cells) := by
  rcases h.2 with ⟨rfl, h0⟩ | ⟨g, cap, cur, rfl, hb, hg, hc, _, _, ht⟩
  · have : l = [] := List.eq_nil_of_length_eq_zero h0
    subst this
    exact ⟨none, 0, rfl, fun hne => absurd rfl hne⟩
  · exact ⟨some ⟨g, 0, none⟩, cap, rfl, rd_own (show Blk w g 32 cur from hg) (n := l.length) (fun r hr => (pr_ok l r hr).1) ht⟩
def ChPost (w : World) (lo hi r : Int) (os : List Ord) (e : Ending) (w' : World) : Prop := (∃ u, Alx lo hi r os u ∧ e = .returned (.tuple #[.agg (chB os r u).1.arr, .bool (chB os r u).2])) ∧ Below w.heap.size w w'
theorem choose_any {w : World} {c : Nat → Nat} {b N most k : Nat} {ss : List Sl} (S : Bs w c b N most k ss) (r lo hi : Int) : Calls Tryz.prog 10 #[.pointer (some ⟨b, 0, none⟩), .int .i64 r, .agg #[.int .i64 lo, .int .i64 hi]] w (ChPost w lo hi r (osOf ss)) := by
  have hX0 : Blk (((w.alloc (.cells #[.int .i64 r] 2)).alloc (.cells #[.int .i64 lo, .int .i64 hi] 24)).alloc (.cells #[.int .i64 0, .int .i64 0, .int .i64 0] 32)) w.heap.size 2 #[.int .i64 r] := ((Blk.new w _ _ _ rfl).alloc _).alloc _
  have hB0 : Blk (((w.alloc (.cells #[.int .i64 r] 2)).alloc (.cells #[.int .i64 lo, .int .i64 hi] 24)).alloc (.cells #[.int .i64 0, .int .i64 0, .int .i64 0] 32)) (w.heap.size + 1) 24 #[.int .i64 lo, .int .i64 hi] := (Blk.new _ _ _ _ (sz_alloc _ _)).alloc _
  have hR0 : Blk (((w.alloc (.cells #[.int .i64 r] 2)).alloc (.cells #[.int .i64 lo, .int .i64 hi] 24)).alloc (.cells #[.int .i64 0, .int .i64 0, .int .i64 0] 32)) (w.heap.size + 1 + 1) 32 #[.int .i64 0, .int .i64 0, .int .i64 0] := Blk.new _ _ _ _ (by simp only [sz_alloc])
  have hb0 : Below w.heap.size w (((w.alloc (.cells #[.int .i64 r] 2)).alloc (.cells #[.int .i64 lo, .int .i64 hi] 24)).alloc (.cells #[.int .i64 0, .int .i64 0, .int .i64 0] 32)) := by (repeat (first | with_reducible exact Below.refl _ _ | (with_reducible assumption) | (with_reducible refine below_alloc ?_ _) | (with_reducible refine below_ext (w1 := ?_) ?_ ?_; rotate_left 2; (with_reducible assumption)) | (with_reducible refine Below.setCell ?_ ?_ _; rotate_left; ((try simp) <;> omega)) | (with_reducible refine Below.drew ?_) | (with_reducible refine below_drewN ?_ _) | fail))
  have HC := Lib.hid (fun W => cut_any lo hi W)
  obtain ⟨lo2, hlo2⟩ : ∃ x, x = max lo 1 := ⟨_, rfl⟩
  obtain ⟨hi2, hhi2⟩ : ∃ x, x = min hi 1099511627776 := ⟨_, rfl⟩
  rw [← hlo2, ← hhi2] at HC
  have HX : Hid (∀ u, (lo2 ≤ hi2 ∧ Al lo2 hi2 (min (max r lo2) hi2) (osOf ss) u) ∨ (¬ lo2 ≤ hi2 ∧ u = []) → Alx lo hi r (osOf ss) u) := Lib.hid (fun u h => by rw [hlo2, hhi2] at h; exact h)
  have HOF := Lib.hid (fun W (hW : Below w.heap.size w W) => of_any (S.ext hW))
  have hfew := Sw.Bs.few S
  clear hlo2 hhi2 S
  generalize osOf ss = os at *
  generalize hw0 : ((w.alloc (.cells #[.int .i64 r] 2)).alloc (.cells #[.int .i64 lo, .int .i64 hi] 24)).alloc (.cells #[.int .i64 0, .int .i64 0, .int .i64 0] 32) = w0 at hX0 hB0 hR0 hb0
  have HW0 := Lib.hid hw0
  have hrl := hR0.lt
  clear hw0
  go_enter Tryz.func10, Tryz.ntmps10
  go_upto_region 1 with fail
  rw [HW0.out]
  go_wp2_with (first | ((with_reducible show wpList _ _ _ (⟨_, .load 24 _, _, _, _, _⟩ :: _) _ _); refine wpList_load_ho 24 _ (by rfl) (by rfl) ?_ (.pointer (some ⟨_, 0, none⟩)) (by rfl) ?_ _ Tryz.underlying24 rfl ?_ ?_; rotate_left; (next => (repeat (first | (with_reducible refine BlkAt.new _ _ _ _ ?_; ((try simp) <;> omega)) | (with_reducible assumption) | (with_reducible refine Blk.at (t := ?_) ?_; rotate_left; with_reducible assumption) | with_reducible refine BlkAt.alloc ?_ _ | with_reducible refine BlkAt.drew ?_ | (with_reducible refine BlkAt.setSame ?_ _ _) | (with_reducible refine BlkAt.setCell ?_ ?_ _; rotate_left; ((try simp) <;> omega)) | (with_reducible refine BlkAt.ext (w := ?_) ?_ ?_; rotate_left 2; (with_reducible assumption)) | fail))); (next => kernel_rfl)) | fail)
  refine (HC.out _).mono ?_
  rintro e w2 ⟨rfl, hb2⟩
  have hB2 := hB0.ext hb2
  have hX2 := hX0.ext hb2
  have hR2 := hR0.ext hb2
  have hb02 := below_ext hb0 hb2
  have hz2 := hb2.size
  clear hB0 hX0 hR0 hb0 hb2 HC HW0
  by_cases hle : lo2 ≤ hi2
  case neg =>
    have HY : Hid (Alx lo hi r os []) := Lib.hid (HX.out [] (.inr ⟨by omega, rfl⟩))
    have hd : decide (lo2 ≤ hi2) = false := decide_eq_false hle
    clear HX HOF
    go_wp2_with (first | (((with_reducible show wpList _ _ _ (⟨_, .store 24 _ _, _, _, _, _⟩ :: _) _ _); refine wpList_store_blk (by rfl) 24 _ _ (by rfl) _ _ (by rfl) (by rfl) _ _ hB2 (by kernel_rfl) (by rfl) ?_ ?_; (next => exact two_one ..); intro w3 hB3 hU3); have hR3 := hR2.upd (show w.heap.size + 1 + 1 ≠ w.heap.size + 1 by omega) hU3) | ((with_reducible show wpList _ _ _ (⟨_, .build _ _, _, _, _, _⟩ :: _) _ _); refine wpList_build_is (by rfl) _ _ (by rfl) ?_ ?_ ?_; rotate_left; (next => simp only [List.map_toArray, List.map_nil, go_sem]; exact built_c0 ..)) | ((with_reducible show wpList _ _ _ (⟨_, .store 32 _ _, _, _, _, _⟩ :: _) _ _); refine wpList_store_blk (by rfl) 32 _ _ (by rfl) _ _ (by rfl) (by rfl) _ _ hR3 (by kernel_rfl) (by rfl) ?_ ?_; (next => exact pr_one ..); intro w4 hR4 hU4) | fail)
    refine bodyPost_ret (results_cpr2 rfl _ _ (w.heap.size + 1 + 1) _ (.bool false) (by rfl) (by rfl) hR4 rfl) rfl ⟨⟨[], HY.out, rfl⟩, below_upd (below_upd hb02 (by omega) hU3) (by omega) hU4⟩
  have hd : decide (lo2 ≤ hi2) = true := decide_eq_true hle
  go_wp2_with (first | (((with_reducible show wpList _ _ _ (⟨_, .store 24 _ _, _, _, _, _⟩ :: _) _ _); refine wpList_store_blk (by rfl) 24 _ _ (by rfl) _ _ (by rfl) (by rfl) _ _ hB2 (by kernel_rfl) (by rfl) ?_ ?_; (next => exact two_one ..); intro w3 hB3 hU3); have hR3 := hR2.upd (show w.heap.size + 1 + 1 ≠ w.heap.size + 1 by omega) hU3; have hX3 := hX2.upd (show w.heap.size ≠ w.heap.size + 1 by omega) hU3; have hb3 := below_upd hb02 (show w.heap.size ≤ w.heap.size + 1 by omega) hU3) | fail)
  have HLE := Lib.hid hle
  clear hX2 hB2 hR2 hb02 hd hle hU3
  refine (HOF.out _ hb3).mono ?_
  rintro e w4 ⟨cb, l, A, cap, rfl, C4, AL, hcb, hb4⟩
  have hB4 : Blk w4 (w.heap.size + 1) 24 #[.int .i64 lo2, .int .i64 hi2] := Blk.ext hB3 hb4
  have hX4 := hX3.ext hb4
  have hR4 := hR3.ext hb4
  have hb04 := below_ext hb3 hb4
  have x4 : w4.cell? ⟨w.heap.size, 0, none⟩ = some (.int .i64 r) := hX4.cell 0
  have HAL := Lib.hid (allowed_any C4 AL r lo2 hi2)
  have HAT := Lib.hid (fun p W (hW : Below w4.heap.size w4 W) => Cu.at_any (C4.ext hW) AL p)
  have hz4 := hb4.size
  clear hB3 hX3 hR3 hb3 C4 AL hcb hb4
  go_wp2_with (first | ((with_reducible show wpList _ _ _ (⟨_, .load 24 _, _, _, _, _⟩ :: _) _ _); refine wpList_load_ho 24 _ (by rfl) (by rfl) ?_ (.pointer (some ⟨_, 0, none⟩)) (by rfl) ?_ _ Tryz.underlying24 rfl ?_ ?_; rotate_left; (next => (repeat (first | (with_reducible refine BlkAt.new _ _ _ _ ?_; ((try simp) <;> omega)) | (with_reducible assumption) | (with_reducible refine Blk.at (t := ?_) ?_; rotate_left; with_reducible assumption) | with_reducible refine BlkAt.alloc ?_ _ | with_reducible refine BlkAt.drew ?_ | (with_reducible refine BlkAt.setSame ?_ _ _) | (with_reducible refine BlkAt.setCell ?_ ?_ _; rotate_left; ((try simp) <;> omega)) | (with_reducible refine BlkAt.ext (w := ?_) ?_ ?_; rotate_left 2; (with_reducible assumption)) | fail))); (next => kernel_rfl)) | fail)
  refine HAL.out.mono ?_
  rintro e w7 ⟨⟨v, u, rfl, hown, hal⟩, hb47⟩
  have hul := al_len hal
  have HUX : Hid (Alx lo hi r os u) := Lib.hid (HX.out u (.inl ⟨HLE.out, hal⟩))
  have hu0 : 0 < u.length := List.length_pos_of_mem ((hal.mem _).2 (.inr rfl))
  obtain ⟨Au, capu, rfl, hrdu, _, _, hfu⟩ := Cu.owns_i hown
  have hX7 := hX4.ext hb47
  have hR7 := hR4.ext hb47
  have hb07 := below_ext hb04 hb47
  have HAT7 : Hid (∀ p W, Below w7.heap.size w7 W → Calls Tryz.prog 28 #[.pointer (some ⟨cb, 0, none⟩), .int .i64 p] W fun x w' => x = .returned (.agg (Pt.mk p (dem os p) (sup os p)).arr) ∧ Below W.heap.size W w') := Lib.hid (fun p W hW => HAT.out p W (below_ext hb47 hW))
  have hz7 := hb47.size
  obtain ⟨B, hB⟩ : ∃ B, B = w7.heap.size := ⟨_, rfl⟩
  have HBE := Lib.hid hB
  have HRDU := Lib.hid hrdu
  clear hown hal HX HLE HAL HAT hB4 hX4 hR4 hb04 hb47 hrdu x4 HOF
  go_wp2_with fail
  go_loopw [37, 11] (fun p q wr => ∃ (k : Nat) (vl : Value), p = .int .i64 k ∧ q = vl ∧ k ≤ u.length ∧ Hid (wr.ownsRow B 32 3 vl k (flatPr ((u.take k).map (prO os)))) ∧ Below B w7 wr) (fun p _ _ => u.length - (intOf p).toNat)
  case atStart => exact ⟨0, _, rfl, rfl, Nat.zero_le _, Lib.hid (World.ownsRow_nil _ _ _ _), Below.refl _ _⟩
  case round =>
    obtain ⟨k, vl, rfl, rfl, hk, HOWN0, hbr⟩ := hrel
    have hzr : w7.heap.size ≤ wr.heap.size := hbr.size
    have hBE := HBE.out
    have hbr' : Below w7.heap.size w7 wr := by rw [← hBE]; exact hbr
    by_cases hlt : k < u.length
    · have e1 : (k : Int) < (u.length : Int) := by omega
      have e0 : (0 : Int) ≤ (k : Int) := by omega
      obtain ⟨ab, ao, rfl, hc1⟩ := HRDU.out.at hlt
      have hi1 : w7.cell? ⟨ab, ao + k * 1, none⟩ = some (.int .i64 u[k]) := hc1 0 _ rfl
      rw [Nat.mul_one] at hi1
      have HT : Hid ((u.take (k + 1)).map (prO os) = (u.take k).map (prO os) ++ [prO os u[k]]) := Lib.hid (by rw [List.take_succ_eq_append_getElem hlt, List.map_append]; rfl)
      generalize u[k] = p at hi1 HT
      have hi2 : wr.cell? ⟨ab, ao + k, none⟩ = some (.int .i64 p) := (hbr'.cell (p := ⟨ab, ao + k, none⟩) (cell_lt hi1)).trans hi1
      have HA := Lib.hid (HAT7.out p wr hbr')
      obtain ⟨pt, hpt⟩ : ∃ x, x = Pt.mk p (dem os p) (sup os p) := ⟨_, rfl⟩
      obtain ⟨pr, hpr⟩ : ∃ x, x = prO os p := ⟨_, rfl⟩
      rw [← hpt] at HA
      rw [← hpr] at HT
      have HV := Lib.hid (fun W => Cu.vol_any pt W)
      have HO := Lib.hid (fun W => Cu.odds_any pt W)
      have hbu : Tryz.prog.built 32 [(0, .int .i64 p), (1, .int .i64 (min pt.demand pt.supply)), (2, .int .i64 (Cu.oddsP pt))] = some pr.arr := by rw [hpr, hpt]; exact built_c _ _ _
      have hown := HOWN0.out
      clear hpt hpr hc1 hBE
      go_wp2_with fail
      refine HA.out.mono ?_
      rintro e w2 ⟨rfl, hb2⟩
      have hN0 : Blk (w2.alloc (.cells #[.int .i64 0, .int .i64 0, .int .i64 0] 67)) w2.heap.size 67 #[.int .i64 0, .int .i64 0, .int .i64 0] := Blk.new _ _ _ _ rfl
      go_wp2_with (first | ((with_reducible show wpList _ _ _ (⟨_, .store 67 _ _, _, _, _, _⟩ :: _) _ _); refine wpList_store_blk (by rfl) 67 _ _ (by rfl) _ _ (by rfl) (by rfl) _ _ hN0 (by kernel_rfl) (by rfl) ?_ ?_; (next => exact pt_one ..); intro w3 hN3 hU3) | fail)
      have hb23' : Below w2.heap.size w2 w3 := below_upd (by (repeat (first | with_reducible exact Below.refl _ _ | (with_reducible assumption) | (with_reducible refine below_alloc ?_ _) | (with_reducible refine below_ext (w1 := ?_) ?_ ?_; rotate_left 2; (with_reducible assumption)) | (with_reducible refine Below.setCell ?_ ?_ _; rotate_left; ((try simp) <;> omega)) | (with_reducible refine Below.drew ?_) | (with_reducible refine below_drewN ?_ _) | fail))) (Nat.le_refl _) hU3
      have hb23 : Below wr.heap.size wr w3 := below_ext hb2 hb23'
      have hX3 : Blk w3 w2.heap.size 67 pt.arr := hN3
      have hbw : B ≤ wr.heap.size := by have := hbr.size; have := HBE.out; omega
      clear hN0 hN3 hU3 hi1 hi2
      have HBR := Lib.hid hbr
      have HB3 := Lib.hid hb23
      have hz3 : B ≤ w3.heap.size := by have := hb23.size; omega
      have HS : Hid (∀ W, Below w3.heap.size w3 W → Blk W w2.heap.size 67 pt.arr) := Lib.hid (fun W hW => hX3.ext hW)
      have hxl := hX3.lt
      have HOWN := Lib.hid (owns_ext (owns_ext hown hb2) hb23')
      have hbd : Below w3.heap.size w3 w3.drew := (Below.refl _ _).drew
      refine wp_region_T (S := fun W => Blk W w2.heap.size 67 pt.arr) 9 (by kernel_rfl) ?_
      have hS0 := (HS.out _ hbd)
      have hbdr := hbd
      generalize hwd : w3.drew = w4 at hbdr hS0 ⊢
      have hbw4 : Below w3.heap.size w3 w4 := by rw [← hwd]; exact hbd
      have hS := HS.out _ hbw4
      clear hbdr hS0 hbd hwd hX3 hb2 hb23 hb23' hown
      (refine T_take (i := 0) rfl (by kernel_rfl) (fun _ _ _ _ h => h) hS ?_; apply Exists.intro; refine ⟨.inl ⟨by rfl, fun W hW => ?_⟩, ?_⟩; (next => (go_simp; first | done | rfl)); simp only [Act.put, List.setIfInBounds_toArray, List.set_cons_zero, List.set_cons_succ])
      (refine T_take (i := 1) rfl (by kernel_rfl) (fun _ _ _ _ h => h) hS ?_; apply Exists.intro; refine ⟨.inl ⟨by rfl, fun W hW => ?_⟩, ?_⟩; (next => (go_simp; first | done | rfl)); simp only [Act.put, List.setIfInBounds_toArray, List.set_cons_zero, List.set_cons_succ])
      (refine T_take (i := 2) rfl (by kernel_rfl) (fun _ _ _ _ h => h) hS ?_; refine ⟨_, y_load_blk 67 _ rfl (by rfl) w2.heap.size (by rfl) 67 pt.arr _ (fun W h => h) Tryz.underlying67 rfl (by kernel_rfl), ?_⟩; simp only [Act.put, List.setIfInBounds_toArray, List.set_cons_zero, List.set_cons_succ])
      (refine T_take (i := 4) rfl (by kernel_rfl) (fun _ _ _ _ h => h) hS ?_; refine ⟨_, y_load_blk 67 _ rfl (by rfl) w2.heap.size (by rfl) 67 pt.arr _ (fun W h => h) Tryz.underlying67 rfl (by kernel_rfl), ?_⟩; simp only [Act.put, List.setIfInBounds_toArray, List.set_cons_zero, List.set_cons_succ])
      refine T_all [3] (by kernel_rfl) (by decide) ?_
      intro j hj
      simp only [List.mem_cons, or_false, List.not_mem_nil] at hj
      subst hj
      refine T_op rfl (by rfl) ?_
      refine Lad.wp_enterE (F := 30) (args := #[.agg pt.arr]) ?_ ?_
      (next => first | (go_simp; done) | (go_simp; rfl))
      refine (HV.out w4).mono ?_
      rintro e wa ⟨rfl, hswa⟩
      have hbwa := below_ext hbw4 hswa
      refine ⟨_, rfl, .inr (HS.out _ hbwa), ?_⟩
      simp only [Act.put, List.setIfInBounds_toArray, List.set_cons_zero, List.set_cons_succ]
      refine T_all [5] (by kernel_rfl) (by decide) ?_
      intro j hj
      simp only [List.mem_cons, or_false, List.not_mem_nil] at hj
      subst hj
      refine T_op rfl (by rfl) ?_
      refine Lad.wp_enterE (F := 31) (args := #[.agg pt.arr]) ?_ ?_
      (next => first | (go_simp; done) | (go_simp; rfl))
      refine (HO.out wa).mono ?_
      rintro e wb ⟨rfl, hswb⟩
      have hbwb := below_ext hbwa hswb
      refine ⟨_, rfl, .inr (HS.out _ hbwb), ?_⟩
      simp only [Act.put, List.setIfInBounds_toArray, List.set_cons_zero, List.set_cons_succ]
      (refine T_take (i := 6) rfl (by kernel_rfl) (fun _ _ _ _ h => h) (HS.out _ hbwb) ?_; refine ⟨_, Cu.y_build _ _ rfl (by rfl) (pr.arr) (by simp only [List.map_toArray, List.map_cons, List.map_nil, go_sem]; exact hbu), ?_⟩; simp only [Act.put, List.setIfInBounds_toArray, List.set_cons_zero, List.set_cons_succ])
      refine T_all [7] (by kernel_rfl) (by decide) ?_
      intro j hj
      simp only [List.mem_cons, or_false, List.not_mem_nil] at hj
      subst hj
      refine T_op rfl (by rfl) ?_
      refine wp_build1 _ 32 _ (by rfl) (.agg #[.int .i64 0, .int .i64 0, .int .i64 0]) 3 Tryz.underlying64 (by kernel_rfl) ⟨by decide, by decide⟩ (.agg pr.arr) (by rfl) pr.arr (by kernel_rfl) ?_
      intro w5 hX5 hs5 hq5
      have hb5 := below_ext hbwb hs5
      refine ⟨.inr (HS.out _ hb5), ?_⟩
      simp only [Act.put, List.setIfInBounds_toArray, List.set_cons_zero, List.set_cons_succ]
      refine T_all [8] (by kernel_rfl) (by decide) ?_
      intro j hj
      simp only [List.mem_cons, or_false, List.not_mem_nil] at hj
      subst hj
      refine T_op rfl (by rfl) ?_
      refine wp_append_rd _ _ _ (by rfl) B 32 (.agg #[.int .i64 0, .int .i64 0, .int .i64 0]) 3 24 Tryz.underlying64 (by kernel_rfl) ⟨rfl, by decide⟩ _ k _ (by rfl) (owns_ext HOWN.out hb5) (some ⟨wb.heap.size, 0, none⟩) 1 1 [Pr.cells pr] (by rfl) (rd_own hX5 (by simp [Pr.cells]) (n := 1) (by simp [Pr.cells, Pr.arr])) ⟨rfl, pr_ok [pr]⟩ (fun e => by cases e) ⟨by unfold maxLen; omega, by omega⟩ (by have := hb5.size; have := hz3; omega) ?_
      intro v6 w6 ho6 hs6 hq6 hk6
      have hb6 : Below B w3 w6 := (hb5.mono hz3).trans hs6
      have hS6 : Blk w6 w2.heap.size 67 pt.arr := (hk6 _ (by have := hb5.size; omega) (Sw.own_ne (owns_ext HOWN.out hb5) (HS.out _ hb5) (by decide))).trans (HS.out _ hb5)
      refine ⟨.inr hS6, ?_⟩
      simp only [Act.put, List.setIfInBounds_toArray, List.set_cons_zero, List.set_cons_succ]
      refine T_all [9] (by kernel_rfl) (by decide) ?_
      intro j hj
      simp only [List.mem_cons, or_false, List.not_mem_nil] at hj
      subst hj
      refine T_op rfl (by rfl) (Rk.wp_calm (v := v6) (by go_simp; first | done | rfl) ⟨.inl rfl, ?_⟩)
      simp only [Act.put, List.setIfInBounds_toArray, List.set_cons_zero, List.set_cons_succ]
      refine T_done (by kernel_rfl) ?_
      have HO6 : Hid (w6.ownsRow B 32 3 v6 (k + 1) (flatPr ((u.take (k + 1)).map (prO os)))) := Lib.hid (by rw [HT.out, flatPr_snoc]; exact ho6)
      have hbr6 : Below B w7 w6 := (HBR.out.trans (HB3.out.mono (by have := HBR.out.size; omega))).trans hb6
      clear ho6 hs6 hb6 hS6 hX5 hs5 hb5 hk6
      go_wp2_with fail
      go_roundw
      case rel => exact ⟨k + 1, v6, by go_num, rfl, by omega, HO6, hbr6⟩
      case measure => (simp [intOf]; omega)
    · have hke : k = u.length := by omega
      have hown := HOWN0.out
      rw [hke, List.take_length] at hown
      have e1 : ¬ (k : Int) < (u.length : Int) := by omega
      obtain ⟨ps, hps⟩ : ∃ ps, ps = u.map (prO os) := ⟨_, rfl⟩
      have hpl : ps.length = u.length := by rw [hps, List.length_map]
      rw [← hps, ← hpl] at hown
      obtain ⟨Ap, capp, rfl, hrdp⟩ := owns_pr hown
      have hXr := hX7.ext hbr'
      have hRr := hR7.ext hbr'
      have hb0r := below_ext hb07 hbr'
      have HMF := Lib.hid (minf_any (cap := capp) hXr hrdp (by omega) (by omega))
      have HCB : Hid (chB os r u = if (minF r ps).volume = 0 then (⟨0, 0, 0⟩, false) else (minF r ps, true)) := Lib.hid (by rw [hps]; rfl)
      generalize minF r ps = best at HMF HCB
      have hrl2 := hRr.lt
      clear hke hps hown hrdp HOWN0 hpl
      go_wp2_with fail
      (with_reducible refine Calls.mono HMF.out ?_)
      rintro e w2 ⟨rfl, hb2⟩
      have hR2 := hRr.ext hb2
      have hb02 := below_ext hb0r hb2
      have hN0 : Blk (w2.alloc (.cells #[.int .i64 0, .int .i64 0, .int .i64 0] 32)) w2.heap.size 32 #[.int .i64 0, .int .i64 0, .int .i64 0] := Blk.new _ _ _ _ rfl
      have hz2r := hb2.size
      clear hRr hb0r hb2 HMF hXr
      by_cases hv : best.volume = 0
      · have HCB2 : Hid (chB os r u = (⟨0, 0, 0⟩, false)) := Lib.hid (by rw [HCB.out, if_pos hv])
        have hv2 : (best.volume == 0) = true := by simpa using hv
        go_wp2_with (first | (((with_reducible show wpList _ _ _ (⟨_, .store 32 _ _, _, _, _, _⟩ :: _) _ _); refine wpList_store_blk (by rfl) 32 _ _ (by rfl) _ _ (by rfl) (by rfl) _ _ hN0 (by kernel_rfl) (by rfl) ?_ ?_; (next => exact pr_one ..); intro w3 hN3 hU3); have c3 : w3.cell? ⟨w2.heap.size, 1, none⟩ = some (.int .i64 best.volume) := hN3.cell 1; have hb23 : Below w2.heap.size w2 w3 := below_upd (by (repeat (first | with_reducible exact Below.refl _ _ | (with_reducible assumption) | (with_reducible refine below_alloc ?_ _) | (with_reducible refine below_ext (w1 := ?_) ?_ ?_; rotate_left 2; (with_reducible assumption)) | (with_reducible refine Below.setCell ?_ ?_ _; rotate_left; ((try simp) <;> omega)) | (with_reducible refine Below.drew ?_) | (with_reducible refine below_drewN ?_ _) | fail))) (Nat.le_refl _) hU3; have hR3 := hR2.ext hb23) | ((with_reducible show wpList _ _ _ (⟨_, .build _ _, _, _, _, _⟩ :: _) _ _); refine wpList_build_is (by rfl) _ _ (by rfl) ?_ ?_ ?_; rotate_left; (next => simp only [List.map_toArray, List.map_nil, go_sem]; exact built_c0 ..)) | ((with_reducible show wpList _ _ _ (⟨_, .store 32 _ _, _, _, _, _⟩ :: _) _ _); refine wpList_store_blk (by rfl) 32 _ _ (by rfl) _ _ (by rfl) (by rfl) _ _ hR3 (by kernel_rfl) (by rfl) ?_ ?_; (next => exact pr_one ..); intro w5 hR5 hU5) | fail)
        refine bodyPost_ret (results_cpr2 rfl _ _ (w.heap.size + 1 + 1) _ (.bool false) (by rfl) (by rfl) hR5 rfl) rfl ⟨⟨u, HUX.out, by rw [HCB2.out]⟩, below_upd (below_ext hb02 hb23) (by omega) hU5⟩
      · have HCB2 : Hid (chB os r u = (best, true)) := Lib.hid (by rw [HCB.out, if_neg hv])
        have hv2 : (best.volume == 0) = false := by simpa using hv
        go_wp2_with (first | (((with_reducible show wpList _ _ _ (⟨_, .store 32 _ _, _, _, _, _⟩ :: _) _ _); refine wpList_store_blk (by rfl) 32 _ _ (by rfl) _ _ (by rfl) (by rfl) _ _ hN0 (by kernel_rfl) (by rfl) ?_ ?_; (next => exact pr_one ..); intro w3 hN3 hU3); have c3 : w3.cell? ⟨w2.heap.size, 1, none⟩ = some (.int .i64 best.volume) := hN3.cell 1; have hb23 : Below w2.heap.size w2 w3 := below_upd (by (repeat (first | with_reducible exact Below.refl _ _ | (with_reducible assumption) | (with_reducible refine below_alloc ?_ _) | (with_reducible refine below_ext (w1 := ?_) ?_ ?_; rotate_left 2; (with_reducible assumption)) | (with_reducible refine Below.setCell ?_ ?_ _; rotate_left; ((try simp) <;> omega)) | (with_reducible refine Below.drew ?_) | (with_reducible refine below_drewN ?_ _) | fail))) (Nat.le_refl _) hU3; have hR3 := hR2.ext hb23) | ((with_reducible show wpList _ _ _ (⟨_, .load 32 _, _, _, _, _⟩ :: _) _ _); refine wpList_load_ho 32 _ (by rfl) (by rfl) ?_ (.pointer (some ⟨_, 0, none⟩)) (by rfl) ?_ _ Tryz.underlying32 rfl ?_ ?_; rotate_left; (next => (repeat (first | (with_reducible refine BlkAt.new _ _ _ _ ?_; ((try simp) <;> omega)) | (with_reducible assumption) | (with_reducible refine Blk.at (t := ?_) ?_; rotate_left; with_reducible assumption) | with_reducible refine BlkAt.alloc ?_ _ | with_reducible refine BlkAt.drew ?_ | (with_reducible refine BlkAt.setSame ?_ _ _) | (with_reducible refine BlkAt.setCell ?_ ?_ _; rotate_left; ((try simp) <;> omega)) | (with_reducible refine BlkAt.ext (w := ?_) ?_ ?_; rotate_left 2; (with_reducible assumption)) | fail))); (next => kernel_rfl)) | ((with_reducible show wpList _ _ _ (⟨_, .store 32 _ _, _, _, _, _⟩ :: _) _ _); refine wpList_store_blk (by rfl) 32 _ _ (by rfl) _ _ (by rfl) (by rfl) _ _ hR3 (by kernel_rfl) (by rfl) ?_ ?_; (next => exact pr_one ..); intro w5 hR5 hU5) | fail)
        refine bodyPost_ret (results_cpr2 rfl _ _ (w.heap.size + 1 + 1) _ (.bool true) (by rfl) (by rfl) hR5 rfl) rfl ⟨⟨u, HUX.out, by rw [HCB2.out]⟩, below_upd (below_ext hb02 hb23) (by omega) hU5⟩
end Cl
end Go.Proofs.YtacpjpkhmdcagaaGreat
namespace Go.Proofs.YtacpjpkhmdcagaaGreat
set_option linter.unusedVariables false
open Go.RowKit
namespace Cl
set_option maxHeartbeats 4000000
set_option maxRecDepth 10000
open Rk (Rb)
open Cu (ic In cutP dem sup Pt)
/-! ### plain -/
def Gn (l : List Int) (near : Int) (t : Nat) : List Int := if l[t]? = some near then [] else [near]
def Mi (l : List Int) (near : Int) (t i : Nat) : List Int := if i ≤ t then l.take i else l.take t ++ Gn l near t ++ (l.take i).drop t
theorem mi_low {l : List Int} {near : Int} {t i : Nat} (h : i < t) (hi : i < l.length) : Mi l near t (i + 1) = Mi l near t i ++ [l[i]] := by
  unfold Mi
  rw [if_pos (by omega), if_pos (by omega), List.take_succ_eq_append_getElem hi]
theorem mi_at {l : List Int} {near : Int} {t : Nat} (hi : t < l.length) : Mi l near t (t + 1) = Mi l near t t ++ Gn l near t ++ [l[t]] := by
  unfold Mi
  rw [if_neg (by omega), if_pos (Nat.le_refl _), List.take_succ_eq_append_getElem hi, List.drop_append, List.drop_of_length_le (by rw [List.length_take]; omega), List.length_take, show t - min t l.length = 0 by omega]
  rfl
theorem mi_high {l : List Int} {near : Int} {t i : Nat} (h : t < i) (hi : i < l.length) : Mi l near t (i + 1) = Mi l near t i ++ [l[i]] := by
  unfold Mi
  rw [if_neg (by omega), if_neg (by omega), List.take_succ_eq_append_getElem hi, List.drop_append, List.length_take, show t - min i l.length = 0 by omega, List.drop_zero, List.append_assoc, List.append_assoc, List.append_assoc]
theorem gn_len (l : List Int) (near : Int) (t : Nat) : (Gn l near t).length ≤ 1 := by
  unfold Gn
  split <;> simp
theorem mi_len (l : List Int) (near : Int) (t i : Nat) : (Mi l near t i).length ≤ l.length + 1 := by
  unfold Mi
  have := gn_len l near t
  split
  · rw [List.length_take]; omega
  · simp only [List.length_append, List.length_take, List.length_drop]; omega
def Ui (l : List Int) (near : Int) (t : Nat) : List Int := l.take t ++ Gn l near t ++ l.drop t
theorem ui_al {l : List Int} (hm : l.Pairwise (· < ·)) {near : Int} {t : Nat} (h2 : ∀ j (h : j < l.length), j < t → l[j] < near) (h3 : ∀ h : t < l.length, near ≤ l[t]) : (Ui l near t).Pairwise (· < ·) ∧ ∀ p, p ∈ Ui l near t ↔ p ∈ l ∨ p = near := by
  have hlow : ∀ x ∈ l.take t, x < near := fun x hx => by
    obtain ⟨j, hj, rfl⟩ := List.getElem_of_mem hx
    rw [List.getElem_take]
    rw [List.length_take] at hj
    exact h2 j (by omega) (by omega)
  by_cases hd : l[t]? = some near
  · have hU : Ui l near t = l := by unfold Ui Gn; rw [if_pos hd, List.append_nil, List.take_append_drop]
    rw [hU]
    obtain ⟨ht, hd2⟩ := List.getElem?_eq_some_iff.1 hd
    exact ⟨hm, fun p => ⟨fun h => .inl h, fun h => by
      rcases h with h | rfl
      · exact h
      · rw [← hd2]; exact List.getElem_mem ht⟩⟩
  · have hhigh : ∀ x ∈ l.drop t, near < x := fun x hx => by
      obtain ⟨j, hj, rfl⟩ := List.getElem_of_mem hx
      rw [List.length_drop] at hj
      rw [List.getElem_drop]
      have h4 := h3 (by omega)
      have h5 : near ≠ l[t] := fun e => hd (by rw [List.getElem?_eq_getElem (by omega), e])
      cases j with
      | zero =>
        show near < l[t + 0]
        have : l[t + 0] = l[t] := rfl
        omega
      | succ j =>
        have := List.pairwise_iff_getElem.1 hm t (t + (j + 1)) (by omega) (by omega) (by omega)
        omega
    have hU : Ui l near t = l.take t ++ near :: l.drop t := by unfold Ui Gn; rw [if_neg hd, List.append_assoc]; rfl
    rw [hU]
    refine ⟨?_, fun p => ?_⟩
    · rw [List.pairwise_append]
      refine ⟨hm.sublist (List.take_sublist _ _), ?_, ?_⟩
      · rw [List.pairwise_cons]
        exact ⟨hhigh, hm.sublist (List.drop_sublist _ _)⟩
      · intro x hx y hy
        have := hlow x hx
        rcases List.mem_cons.1 hy with rfl | hy
        · exact this
        · have := hhigh y hy
          omega
    · conv => rhs; rw [← List.take_append_drop t l]
      simp only [List.mem_append, List.mem_cons]
      constructor
      · rintro (h | h | h)
        · exact .inl (.inl h)
        · exact .inr h
        · exact .inl (.inr h)
      · rintro ((h | h) | h)
        · exact .inl h
        · exact .inr (.inr h)
        · exact .inr (.inl h)
theorem in_al {lo hi near : Int} {os : List Ord} {l : List Int} (h : In lo hi os l) {t : Nat} (h2 : ∀ j (h : j < l.length), j < t → l[j] < near) (h3 : ∀ h : t < l.length, near ≤ l[t]) : Al lo hi near os (Ui l near t) := by
  obtain ⟨h4, h5⟩ := ui_al h.up h2 h3
  exact ⟨h4, fun p => (h5 p).trans (by rw [h.mem])⟩
theorem app_own {W : World} {B : Nat} {v : Value} {M : List Int} {x : Int} (h : W.ownsRow B 2 1 v (M.length + 1) (ints M ++ [[Value.int .i64 x]].flatten)) : W.ownsRow B 2 1 v (M ++ [x]).length (ints (M ++ [x])) := by
  have e1 : (M ++ [x]).length = M.length + 1 := by simp
  have e2 : ints (M ++ [x]) = ints M ++ [[Value.int .i64 x]].flatten := by simp [ints]
  rw [e1, e2]
  exact h
section
variable {w : World} {rb N most : Nat} {L : List Ord} {A : Option Addr} {cap : Nat}
theorem rallowed_any (q : Rb w rb (N : Int) (most : Int) L A cap) (r lo hi : Int) : Calls Tryz.prog 21 #[.pointer (some ⟨rb, 0, none⟩), .int .i64 r, .agg #[.int .i64 lo, .int .i64 hi]] w fun e w' => (∃ v u, e = .returned v ∧ w'.ownsRow w.heap.size 2 1 v u.length (ints u) ∧ Alx lo hi r L u) ∧ Below w.heap.size w w' := by
  have hB0 : Blk (w.alloc (.cells #[.int .i64 lo, .int .i64 hi] 24)) w.heap.size 24 #[.int .i64 lo, .int .i64 hi] := Blk.new _ _ _ _ rfl
  have hb0 : Below w.heap.size w (w.alloc (.cells #[.int .i64 lo, .int .i64 hi] 24)) := by (repeat (first | with_reducible exact Below.refl _ _ | (with_reducible assumption) | (with_reducible refine below_alloc ?_ _) | (with_reducible refine below_ext (w1 := ?_) ?_ ?_; rotate_left 2; (with_reducible assumption)) | (with_reducible refine Below.setCell ?_ ?_ _; rotate_left; ((try simp) <;> omega)) | (with_reducible refine Below.drew ?_) | (with_reducible refine below_drewN ?_ _) | fail))
  generalize hw0 : w.alloc (.cells #[.int .i64 lo, .int .i64 hi] 24) = w0 at hB0 hb0
  have HW0 := Lib.hid hw0
  obtain ⟨lo2, hlo2⟩ : ∃ x, x = max lo 1 := ⟨_, rfl⟩
  obtain ⟨hi2, hhi2⟩ : ∃ x, x = min hi 1099511627776 := ⟨_, rfl⟩
  have HX : Hid (∀ u, (lo2 ≤ hi2 ∧ Al lo2 hi2 (min (max r lo2) hi2) L u) ∨ (¬ lo2 ≤ hi2 ∧ u = []) → Alx lo hi r L u) := Lib.hid (fun u h => by rw [hlo2, hhi2] at h; exact h)
  have HPR := Lib.hid (fun W (hW : Below w.heap.size w W) => Cu.rprices_any (q.ext hW) lo2 hi2)
  have hlen := q.len
  have HLO := Lib.hid hlo2
  have HHI := Lib.hid hhi2
  have c0 : w0.cell? ⟨w.heap.size, 0, none⟩ = some (.int .i64 lo) := hB0.cell 0
  clear hlo2 hhi2 q hw0
  go_enter Tryz.func21, Tryz.ntmps21
  go_upto_region 1 with fail
  rw [HW0.out]
  go_upto_region 3 with (first | (((with_reducible show wpList _ _ _ (⟨_, .store _ _ _, _, _, _, _⟩ :: _) _ _); refine wpList_store_fld (by rfl) _ _ _ (by rfl) _ _ (by rfl) _ (by rfl) _ _ hB0 ?_ ?_ (by rfl) (by rfl) ?_; (next => first | omega | ((try simp) <;> omega)); (next => kernel_rfl); intro w1 hB1 hU1); have hB1b : Blk w1 w.heap.size 24 #[.int .i64 lo2, .int .i64 hi] := (by rw [HLO.out]; exact hB1); have c1 : w1.cell? ⟨w.heap.size, 1, none⟩ = some (.int .i64 hi) := hB1b.cell 1) | (((with_reducible show wpList _ _ _ (⟨_, .store _ _ _, _, _, _, _⟩ :: _) _ _); refine wpList_store_fld (by rfl) _ _ _ (by rfl) _ _ (by rfl) _ (by rfl) _ _ hB1b ?_ ?_ (by rfl) (by rfl) ?_; (next => first | omega | ((try simp) <;> omega)); (next => kernel_rfl); intro w2 hB2 hU2); have hB2b : Blk w2 w.heap.size 24 #[.int .i64 lo2, .int .i64 hi2] := (by rw [HHI.out]; exact hB2); have c2 : w2.cell? ⟨w.heap.size, 0, none⟩ = some (.int .i64 lo2) := hB2b.cell 0; have c3 : w2.cell? ⟨w.heap.size, 1, none⟩ = some (.int .i64 hi2) := hB2b.cell 1) | fail)
  have hb1 := below_upd hb0 (Nat.le_refl _) hU1
  have hb2 := below_upd hb1 (Nat.le_refl _) hU2
  clear hU1 hU2 hB1b c1 c0 hB0 hb0 HW0 hb1
  by_cases hle : lo2 ≤ hi2
  case neg =>
    have HY : Hid (Alx lo hi r L []) := Lib.hid (HX.out [] (.inr ⟨by omega, rfl⟩))
    have hd : decide (hi2 < lo2) = true := decide_eq_true (by omega)
    have hd2 : hi2 < lo2 := by omega
    clear HX HPR hle
    go_wp2_with fail
    go_ret
    exact ⟨⟨_, [], rfl, World.ownsRow_nil _ _ _ _, HY.out⟩, hb2⟩
  have hd2 : ¬ hi2 < lo2 := by omega
  obtain ⟨near, hnear⟩ : ∃ x, x = min (max r lo2) hi2 := ⟨_, rfl⟩
  have hn2 : max (min r hi2) lo2 = near := by rw [hnear]; omega
  have HX2 : Hid (∀ u, Al lo2 hi2 near L u → Alx lo hi r L u) := Lib.hid (fun u h => HX.out u (.inl ⟨hle, by rw [← hnear]; exact h⟩))
  have HN2 := Lib.hid hn2
  have HP2 := Lib.hid (HPR.out w2 hb2)
  clear HX hnear HPR hn2
  go_wp2_with fail
  rw [HN2.out]
  refine HP2.out.mono ?_
  rintro e w5 ⟨⟨v, l, rfl, hown, hin, hll⟩, hb5⟩
  have hb05 := below_ext hb2 hb5
  obtain ⟨Al, capl, rfl, hrdl, _, _, hfl⟩ := Cu.owns_i hown
  obtain ⟨t, ht1, ht2, ht3⟩ := cutP near l
  have HFIN : Hid (Alx lo hi r L (Ui l near t)) := Lib.hid (HX2.out _ (in_al hin ht2 ht3))
  have HT2 := Lib.hid ht2
  have HT3 := Lib.hid ht3
  have HRDL := Lib.hid hrdl
  have hz2 := hb2.size
  have hz5 := hb5.size
  clear hown hin HP2 hB2b c2 c3 hb2 hb5 HX2 ht2 ht3 hrdl
  go_wp2_with fail
  go_loopw [11, 9, 10] (fun p o b wr => ∃ (i : Nat) (vo : Value), p = .int .i64 i ∧ o = vo ∧ b = .bool (decide (t < i)) ∧ i ≤ l.length ∧ Hid (wr.ownsRow w5.heap.size 2 1 vo (Mi l near t i).length (ints (Mi l near t i))) ∧ Below w5.heap.size w5 wr) (fun p _ _ _ => l.length - (intOf p).toNat)
  case atStart => exact ⟨0, _, rfl, rfl, by simp, Nat.zero_le _, Lib.hid (by have h : Mi l near t 0 = [] := (by unfold Mi; rw [if_pos (Nat.zero_le _)]; rfl); rw [h]; exact World.ownsRow_nil _ _ _ _), Below.refl _ _⟩
  case round =>
    obtain ⟨i, vo, rfl, rfl, rfl, hi, HOWN, hbr⟩ := hrel
    have hzr := hbr.size
    have hMl := mi_len l near t i
    by_cases hlt : i < l.length
    · have e1 : (i : Int) < (l.length : Int) := by omega
      have e0 : (0 : Int) ≤ (i : Int) := by omega
      obtain ⟨ab, ao, rfl, hc1⟩ := HRDL.out.at hlt
      have hi1 : w5.cell? ⟨ab, ao + i * 1, none⟩ = some (.int .i64 l[i]) := hc1 0 _ rfl
      rw [Nat.mul_one] at hi1
      have hi2 : wr.cell? ⟨ab, ao + i, none⟩ = some (.int .i64 l[i]) := (hbr.cell (p := ⟨ab, ao + i, none⟩) (cell_lt hi1)).trans hi1
      have HAB : Hid (ab < w5.heap.size) := Lib.hid (cell_lt hi1)
      have HLOW : Hid (∀ h : i < t, Mi l near t (i + 1) = Mi l near t i ++ [l[i]]) := Lib.hid (fun h => mi_low h hlt)
      have HHIGH : Hid (∀ h : t < i, Mi l near t (i + 1) = Mi l near t i ++ [l[i]]) := Lib.hid (fun h => mi_high h hlt)
      have HAT : Hid (i = t → Mi l near t (i + 1) = Mi l near t i ++ Gn l near t ++ [l[i]]) := Lib.hid (fun h => by subst h; exact mi_at hlt)
      have HLX : Hid (i < t → l[i] < near) := Lib.hid (fun h => HT2.out i hlt h)
      have HLY : Hid (i = t → near ≤ l[i]) := Lib.hid (fun h => by subst h; exact HT3.out hlt)
      have HG : Hid (i = t → Gn l near t = if l[i] = near then [] else [near]) := Lib.hid (fun h => by subst h; unfold Gn; rw [List.getElem?_eq_getElem hlt]; simp)
      generalize l[i] = x at *
      clear hc1 hi1
      have HBR := Lib.hid hbr
      rcases Nat.lt_trichotomy i t with hit | hit | hit
      · have hd : decide (t < i) = false := decide_eq_false (by omega)
        have hxn := HLX.out hit
        have HE := Lib.hid (HLOW.out hit)
        clear HLX HLY HG HAT HHIGH HLOW
        rw [hd]
        have hdn : decide (t < i + 1) = false := decide_eq_false (by omega)
        have HBA : Hid (Below w5.heap.size wr (wr.alloc (.cells #[.int .i64 x] 2))) := Lib.hid ((show Below wr.heap.size wr (wr.alloc (.cells #[.int .i64 x] 2)) by (repeat (first | with_reducible exact Below.refl _ _ | (with_reducible assumption) | (with_reducible refine below_alloc ?_ _) | (with_reducible refine below_ext (w1 := ?_) ?_ ?_; rotate_left 2; (with_reducible assumption)) | (with_reducible refine Below.setCell ?_ ?_ _; rotate_left; ((try simp) <;> omega)) | (with_reducible refine Below.drew ?_) | (with_reducible refine below_drewN ?_ _) | fail))).mono hzr)
        have HOWA := Lib.hid (owns_ext HOWN.out (show Below wr.heap.size wr (wr.alloc (.cells #[.int .i64 x] 2)) by (repeat (first | with_reducible exact Below.refl _ _ | (with_reducible assumption) | (with_reducible refine below_alloc ?_ _) | (with_reducible refine below_ext (w1 := ?_) ?_ ?_; rotate_left 2; (with_reducible assumption)) | (with_reducible refine Below.setCell ?_ ?_ _; rotate_left; ((try simp) <;> omega)) | (with_reducible refine Below.drew ?_) | (with_reducible refine below_drewN ?_ _) | fail))))
        go_wp2_with (first | ((with_reducible show wpList _ _ _ (⟨_, .call ⟨.builtin .append, _, _⟩, _, _, _, _⟩ :: _) _ _); refine wpList_append_rd (by rfl) _ _ _ (by rfl) w5.heap.size 2 (.int .i64 0) 1 8 Tryz.underlying48 (by kernel_rfl) ⟨rfl, by decide⟩ _ _ _ (by rfl) HOWA.out (some ⟨wr.heap.size, 0, none⟩) 1 1 [[.int .i64 x]] (by rfl) (rd_own (Blk.new _ _ _ _ rfl) (by simp) (n := 1) (by simp)) ⟨rfl, ints_one x⟩ (by simp) ?_ ?_ ?_; (next => unfold maxLen; omega); (next => rw [sz_alloc]; omega); intro v3 w3 hown3 hb3 hz3 hk3) | fail)
        go_roundw
        case rel => exact ⟨i + 1, _, by go_num, rfl, by rw [hdn], by omega, Lib.hid (by rw [HE.out]; exact app_own hown3), HBR.out.trans (HBA.out.trans hb3)⟩
        case measure => (simp [intOf]; omega)
      · have hd : decide (t < i) = false := decide_eq_false (by omega)
        have hdn : decide (t < i + 1) = true := decide_eq_true (by omega)
        have hxn := HLY.out hit
        have HE := HAT.out hit
        have hG := HG.out hit
        have HIT := Lib.hid hit
        have hdz : decide (t < i) = false := hd
        clear HLX HLY HG HAT HHIGH HLOW hit
        rw [hd]
        by_cases hxe : x = near
        · rw [hG, if_pos hxe, List.append_nil] at HE
          have HE2 := Lib.hid HE
          have hne : (x != near) = false := by simpa using hxe
          have HBA : Hid (Below w5.heap.size wr (wr.alloc (.cells #[.int .i64 x] 2))) := Lib.hid ((show Below wr.heap.size wr (wr.alloc (.cells #[.int .i64 x] 2)) by (repeat (first | with_reducible exact Below.refl _ _ | (with_reducible assumption) | (with_reducible refine below_alloc ?_ _) | (with_reducible refine below_ext (w1 := ?_) ?_ ?_; rotate_left 2; (with_reducible assumption)) | (with_reducible refine Below.setCell ?_ ?_ _; rotate_left; ((try simp) <;> omega)) | (with_reducible refine Below.drew ?_) | (with_reducible refine below_drewN ?_ _) | fail))).mono (by omega))
          have HOWA := Lib.hid (owns_ext HOWN.out (show Below wr.heap.size wr (wr.alloc (.cells #[.int .i64 x] 2)) by (repeat (first | with_reducible exact Below.refl _ _ | (with_reducible assumption) | (with_reducible refine below_alloc ?_ _) | (with_reducible refine below_ext (w1 := ?_) ?_ ?_; rotate_left 2; (with_reducible assumption)) | (with_reducible refine Below.setCell ?_ ?_ _; rotate_left; ((try simp) <;> omega)) | (with_reducible refine Below.drew ?_) | (with_reducible refine below_drewN ?_ _) | fail))))
          clear hG HE
          subst hxe
          go_wp2_with (first | ((with_reducible show wpList _ _ _ (⟨_, .call ⟨.builtin .append, _, _⟩, _, _, _, _⟩ :: _) _ _); refine wpList_append_rd (by rfl) _ _ _ (by rfl) w5.heap.size 2 (.int .i64 0) 1 8 Tryz.underlying48 (by kernel_rfl) ⟨rfl, by decide⟩ _ _ _ (by rfl) HOWA.out (some ⟨wr.heap.size, 0, none⟩) 1 1 [[.int .i64 x]] (by rfl) (rd_own (Blk.new _ _ _ _ rfl) (by simp) (n := 1) (by simp)) ⟨rfl, ints_one x⟩ (by simp) ?_ ?_ ?_; (next => unfold maxLen; omega); (next => rw [sz_alloc]; omega); intro v3 w3 hown3 hb3 hz3 hk3) | fail)
          go_roundw
          case rel => exact ⟨i + 1, _, by go_num, rfl, by rw [hdn], by omega, Lib.hid (by rw [HE2.out]; exact app_own hown3), HBR.out.trans (HBA.out.trans hb3)⟩
          case measure => (simp [intOf]; omega)
        · rw [hG, if_neg hxe] at HE
          have HE2 := Lib.hid HE
          have hne : (x != near) = true := by simpa using hxe
          have HBA : Hid (Below w5.heap.size wr (wr.alloc (.cells #[.int .i64 near] 2))) := Lib.hid ((show Below wr.heap.size wr (wr.alloc (.cells #[.int .i64 near] 2)) by (repeat (first | with_reducible exact Below.refl _ _ | (with_reducible assumption) | (with_reducible refine below_alloc ?_ _) | (with_reducible refine below_ext (w1 := ?_) ?_ ?_; rotate_left 2; (with_reducible assumption)) | (with_reducible refine Below.setCell ?_ ?_ _; rotate_left; ((try simp) <;> omega)) | (with_reducible refine Below.drew ?_) | (with_reducible refine below_drewN ?_ _) | fail))).mono (by omega))
          have HOWA := Lib.hid (owns_ext HOWN.out (show Below wr.heap.size wr (wr.alloc (.cells #[.int .i64 near] 2)) by (repeat (first | with_reducible exact Below.refl _ _ | (with_reducible assumption) | (with_reducible refine below_alloc ?_ _) | (with_reducible refine below_ext (w1 := ?_) ?_ ?_; rotate_left 2; (with_reducible assumption)) | (with_reducible refine Below.setCell ?_ ?_ _; rotate_left; ((try simp) <;> omega)) | (with_reducible refine Below.drew ?_) | (with_reducible refine below_drewN ?_ _) | fail))))
          clear hG HE
          go_upto_region 16 with (first | ((with_reducible show wpList _ _ _ (⟨_, .call ⟨.builtin .append, _, _⟩, _, _, _, _⟩ :: _) _ _); refine wpList_append_rd (by rfl) _ _ _ (by rfl) w5.heap.size 2 (.int .i64 0) 1 8 Tryz.underlying48 (by kernel_rfl) ⟨rfl, by decide⟩ _ _ _ (by rfl) HOWA.out (some ⟨wr.heap.size, 0, none⟩) 1 1 [[.int .i64 near]] (by rfl) (rd_own (Blk.new _ _ _ _ rfl) (by simp) (n := 1) (by simp)) ⟨rfl, ints_one near⟩ (by simp) ?_ ?_ ?_; (next => unfold maxLen; omega); (next => rw [sz_alloc]; omega); intro v3 w3 hown3 hb3 hz3 hk3) | fail)
          have hi3 : w3.cell? ⟨ab, ao + i, none⟩ = some (.int .i64 x) := ((HBA.out.trans hb3).cell (p := ⟨ab, ao + i, none⟩) HAB.out).trans hi2
          have hz3w : w5.heap.size ≤ w3.heap.size := (by have h1 := hzr; have h2 := HBA.out.size; have h3 := hb3.size; omega)
          have hown3b := app_own hown3
          have hbr3 := HBR.out.trans (HBA.out.trans hb3)
          have hml3 : (Mi l near t i ++ [near]).length ≤ l.length + 2 := (by have := hMl; simp only [List.length_append, List.length_cons, List.length_nil]; omega)
          have HOWB := Lib.hid (owns_ext hown3b (show Below w3.heap.size w3 (w3.alloc (.cells #[.int .i64 x] 2)) by (repeat (first | with_reducible exact Below.refl _ _ | (with_reducible assumption) | (with_reducible refine below_alloc ?_ _) | (with_reducible refine below_ext (w1 := ?_) ?_ ?_; rotate_left 2; (with_reducible assumption)) | (with_reducible refine Below.setCell ?_ ?_ _; rotate_left; ((try simp) <;> omega)) | (with_reducible refine Below.drew ?_) | (with_reducible refine below_drewN ?_ _) | fail))))
          have HBB : Hid (Below w5.heap.size w3 (w3.alloc (.cells #[.int .i64 x] 2))) := Lib.hid ((show Below w3.heap.size w3 (w3.alloc (.cells #[.int .i64 x] 2)) by (repeat (first | with_reducible exact Below.refl _ _ | (with_reducible assumption) | (with_reducible refine below_alloc ?_ _) | (with_reducible refine below_ext (w1 := ?_) ?_ ?_; rotate_left 2; (with_reducible assumption)) | (with_reducible refine Below.setCell ?_ ?_ _; rotate_left; ((try simp) <;> omega)) | (with_reducible refine Below.drew ?_) | (with_reducible refine below_drewN ?_ _) | fail))).mono hz3w)
          clear hown3 hb3 hk3 hown3b
          go_wp2_with (first | ((with_reducible show wpList _ _ _ (⟨_, .call ⟨.builtin .append, _, _⟩, _, _, _, _⟩ :: _) _ _); refine wpList_append_rd (by rfl) _ _ _ (by rfl) w5.heap.size 2 (.int .i64 0) 1 8 Tryz.underlying48 (by kernel_rfl) ⟨rfl, by decide⟩ _ _ _ (by rfl) HOWB.out (some ⟨w3.heap.size, 0, none⟩) 1 1 [[.int .i64 x]] (by rfl) (rd_own (Blk.new _ _ _ _ rfl) (by simp) (n := 1) (by simp)) ⟨rfl, ints_one x⟩ (by simp) ?_ ?_ ?_; (next => unfold maxLen; omega); (next => rw [sz_alloc]; omega); intro v4 w4 hown4 hb4 hz4 hk4) | fail)
          go_roundw
          case rel => exact ⟨i + 1, _, by go_num, rfl, by rw [hdn], by omega, Lib.hid (by rw [HE2.out]; exact app_own hown4), hbr3.trans (HBB.out.trans hb4)⟩
          case measure => (simp [intOf]; omega)
      · have hd : decide (t < i) = true := decide_eq_true (by omega)
        have hdn : decide (t < i + 1) = true := decide_eq_true (by omega)
        have HE := Lib.hid (HHIGH.out hit)
        clear HLX HLY HG HAT HHIGH HLOW
        rw [hd]
        have HBA : Hid (Below w5.heap.size wr (wr.alloc (.cells #[.int .i64 x] 2))) := Lib.hid ((show Below wr.heap.size wr (wr.alloc (.cells #[.int .i64 x] 2)) by (repeat (first | with_reducible exact Below.refl _ _ | (with_reducible assumption) | (with_reducible refine below_alloc ?_ _) | (with_reducible refine below_ext (w1 := ?_) ?_ ?_; rotate_left 2; (with_reducible assumption)) | (with_reducible refine Below.setCell ?_ ?_ _; rotate_left; ((try simp) <;> omega)) | (with_reducible refine Below.drew ?_) | (with_reducible refine below_drewN ?_ _) | fail))).mono (by omega))
        have HOWA := Lib.hid (owns_ext HOWN.out (show Below wr.heap.size wr (wr.alloc (.cells #[.int .i64 x] 2)) by (repeat (first | with_reducible exact Below.refl _ _ | (with_reducible assumption) | (with_reducible refine below_alloc ?_ _) | (with_reducible refine below_ext (w1 := ?_) ?_ ?_; rotate_left 2; (with_reducible assumption)) | (with_reducible refine Below.setCell ?_ ?_ _; rotate_left; ((try simp) <;> omega)) | (with_reducible refine Below.drew ?_) | (with_reducible refine below_drewN ?_ _) | fail))))
        by_cases hxe : x = near
        · have hne : (x != near) = false := by simpa using hxe
          subst hxe
          go_wp2_with (first | ((with_reducible show wpList _ _ _ (⟨_, .call ⟨.builtin .append, _, _⟩, _, _, _, _⟩ :: _) _ _); refine wpList_append_rd (by rfl) _ _ _ (by rfl) w5.heap.size 2 (.int .i64 0) 1 8 Tryz.underlying48 (by kernel_rfl) ⟨rfl, by decide⟩ _ _ _ (by rfl) HOWA.out (some ⟨wr.heap.size, 0, none⟩) 1 1 [[.int .i64 x]] (by rfl) (rd_own (Blk.new _ _ _ _ rfl) (by simp) (n := 1) (by simp)) ⟨rfl, ints_one x⟩ (by simp) ?_ ?_ ?_; (next => unfold maxLen; omega); (next => rw [sz_alloc]; omega); intro v3 w3 hown3 hb3 hz3 hk3) | fail)
          go_roundw
          case rel => exact ⟨i + 1, _, by go_num, rfl, by rw [hdn], by omega, Lib.hid (by rw [HE.out]; exact app_own hown3), HBR.out.trans (HBA.out.trans hb3)⟩
          case measure => (simp [intOf]; omega)
        · have hne : (x != near) = true := by simpa using hxe
          go_wp2_with (first | ((with_reducible show wpList _ _ _ (⟨_, .call ⟨.builtin .append, _, _⟩, _, _, _, _⟩ :: _) _ _); refine wpList_append_rd (by rfl) _ _ _ (by rfl) w5.heap.size 2 (.int .i64 0) 1 8 Tryz.underlying48 (by kernel_rfl) ⟨rfl, by decide⟩ _ _ _ (by rfl) HOWA.out (some ⟨wr.heap.size, 0, none⟩) 1 1 [[.int .i64 x]] (by rfl) (rd_own (Blk.new _ _ _ _ rfl) (by simp) (n := 1) (by simp)) ⟨rfl, ints_one x⟩ (by simp) ?_ ?_ ?_; (next => unfold maxLen; omega); (next => rw [sz_alloc]; omega); intro v3 w3 hown3 hb3 hz3 hk3) | fail)
          go_roundw
          case rel => exact ⟨i + 1, _, by go_num, rfl, by rw [hdn], by omega, Lib.hid (by rw [HE.out]; exact app_own hown3), HBR.out.trans (HBA.out.trans hb3)⟩
          case measure => (simp [intOf]; omega)
    · have hie : i = l.length := by omega
      have e1 : ¬ (i : Int) < (l.length : Int) := by omega
      have HBR := Lib.hid hbr
      by_cases htl : t < i
      · have hd : decide (t < i) = true := decide_eq_true htl
        have HU : Hid (Mi l near t i = Ui l near t) := Lib.hid (by unfold Mi Ui; rw [if_neg (by omega), hie, List.take_length])
        rw [hd]
        clear hie
        go_wp2_with fail
        go_ret
        first | refine ⟨⟨_, _, rfl, ?_, HFIN.out⟩, hb05.trans (HBR.out.mono (by omega))⟩ | refine ⟨⟨_, rfl, _, ?_, HFIN.out⟩, hb05.trans (HBR.out.mono (by omega))⟩
        rw [← HU.out]
        exact Rk.owns_mono HOWN.out (by omega)
      · have hd : decide (t < i) = false := decide_eq_false htl
        have HU : Hid (Ui l near t = Mi l near t i ++ [near]) := Lib.hid (by
          unfold Mi Ui Gn
          have hti : t = i := by omega
          have hnn : ¬ (l[t]? = some near) := by rw [List.getElem?_eq_none (by omega)]; simp
          rw [if_neg hnn, if_pos (by omega), List.drop_of_length_le (by omega), List.append_nil, hti])
        rw [hd]
        have HBA : Hid (Below w5.heap.size wr (wr.alloc (.cells #[.int .i64 near] 2))) := Lib.hid ((show Below wr.heap.size wr (wr.alloc (.cells #[.int .i64 near] 2)) by (repeat (first | with_reducible exact Below.refl _ _ | (with_reducible assumption) | (with_reducible refine below_alloc ?_ _) | (with_reducible refine below_ext (w1 := ?_) ?_ ?_; rotate_left 2; (with_reducible assumption)) | (with_reducible refine Below.setCell ?_ ?_ _; rotate_left; ((try simp) <;> omega)) | (with_reducible refine Below.drew ?_) | (with_reducible refine below_drewN ?_ _) | fail))).mono (by omega))
        have HOWA := Lib.hid (owns_ext HOWN.out (show Below wr.heap.size wr (wr.alloc (.cells #[.int .i64 near] 2)) by (repeat (first | with_reducible exact Below.refl _ _ | (with_reducible assumption) | (with_reducible refine below_alloc ?_ _) | (with_reducible refine below_ext (w1 := ?_) ?_ ?_; rotate_left 2; (with_reducible assumption)) | (with_reducible refine Below.setCell ?_ ?_ _; rotate_left; ((try simp) <;> omega)) | (with_reducible refine Below.drew ?_) | (with_reducible refine below_drewN ?_ _) | fail))))
        clear hie
        go_wp2_with (first | ((with_reducible show wpList _ _ _ (⟨_, .call ⟨.builtin .append, _, _⟩, _, _, _, _⟩ :: _) _ _); refine wpList_append_rd (by rfl) _ _ _ (by rfl) w5.heap.size 2 (.int .i64 0) 1 8 Tryz.underlying48 (by kernel_rfl) ⟨rfl, by decide⟩ _ _ _ (by rfl) HOWA.out (some ⟨wr.heap.size, 0, none⟩) 1 1 [[.int .i64 near]] (by rfl) (rd_own (Blk.new _ _ _ _ rfl) (by simp) (n := 1) (by simp)) ⟨rfl, ints_one near⟩ (by simp) ?_ ?_ ?_; (next => unfold maxLen; omega); (next => rw [sz_alloc]; omega); intro v3 w3 hown3 hb3 hz3 hk3) | fail)
        go_ret
        first | refine ⟨⟨_, _, rfl, ?_, HFIN.out⟩, hb05.trans ((HBR.out.trans (HBA.out.trans hb3)).mono (by omega))⟩ | refine ⟨⟨_, rfl, _, ?_, HFIN.out⟩, hb05.trans ((HBR.out.trans (HBA.out.trans hb3)).mono (by omega))⟩
        rw [HU.out]
        exact Rk.owns_mono (app_own hown3) (by omega)
end
end Cl
end Go.Proofs.YtacpjpkhmdcagaaGreat
namespace Go.Proofs.YtacpjpkhmdcagaaGreat
set_option linter.unusedVariables false
open Go.RowKit
namespace Cl
set_option maxHeartbeats 2000000
set_option maxRecDepth 10000
open Bk (Bs osOf Sl)
theorem choose_nil (r lo hi : Int) (w : World) : Calls Tryz.prog 10 #[.pointer none, .int .i64 r, .agg #[.int .i64 lo, .int .i64 hi]] w fun e w' => e = .returned (.tuple #[.agg (Pr.mk 0 0 0).arr, .bool false]) ∧ Below w.heap.size w w' := by
  have hB0 : Blk (((w.alloc (.cells #[.int .i64 r] 2)).alloc (.cells #[.int .i64 lo, .int .i64 hi] 24)).alloc (.cells #[.int .i64 0, .int .i64 0, .int .i64 0] 32)) (w.heap.size + 1) 24 #[.int .i64 lo, .int .i64 hi] := (Blk.new _ _ _ _ (sz_alloc _ _)).alloc _
  have hR0 : Blk (((w.alloc (.cells #[.int .i64 r] 2)).alloc (.cells #[.int .i64 lo, .int .i64 hi] 24)).alloc (.cells #[.int .i64 0, .int .i64 0, .int .i64 0] 32)) (w.heap.size + 1 + 1) 32 #[.int .i64 0, .int .i64 0, .int .i64 0] := Blk.new _ _ _ _ (by simp only [sz_alloc])
  have hb0 : Below w.heap.size w (((w.alloc (.cells #[.int .i64 r] 2)).alloc (.cells #[.int .i64 lo, .int .i64 hi] 24)).alloc (.cells #[.int .i64 0, .int .i64 0, .int .i64 0] 32)) := by (repeat (first | with_reducible exact Below.refl _ _ | (with_reducible assumption) | (with_reducible refine below_alloc ?_ _) | (with_reducible refine below_ext (w1 := ?_) ?_ ?_; rotate_left 2; (with_reducible assumption)) | (with_reducible refine Below.setCell ?_ ?_ _; rotate_left; ((try simp) <;> omega)) | (with_reducible refine Below.drew ?_) | (with_reducible refine below_drewN ?_ _) | fail))
  have HC := Lib.hid (fun W => cut_any lo hi W)
  generalize hw0 : ((w.alloc (.cells #[.int .i64 r] 2)).alloc (.cells #[.int .i64 lo, .int .i64 hi] 24)).alloc (.cells #[.int .i64 0, .int .i64 0, .int .i64 0] 32) = w0 at hB0 hR0 hb0
  have HW0 := Lib.hid hw0
  clear hw0
  go_enter Tryz.func10, Tryz.ntmps10
  go_upto_region 1 with fail
  rw [HW0.out]
  go_wp2_with (first | ((with_reducible show wpList _ _ _ (⟨_, .load 24 _, _, _, _, _⟩ :: _) _ _); refine wpList_load_ho 24 _ (by rfl) (by rfl) ?_ (.pointer (some ⟨_, 0, none⟩)) (by rfl) ?_ _ Tryz.underlying24 rfl ?_ ?_; rotate_left; (next => (repeat (first | (with_reducible refine BlkAt.new _ _ _ _ ?_; ((try simp) <;> omega)) | (with_reducible assumption) | (with_reducible refine Blk.at (t := ?_) ?_; rotate_left; with_reducible assumption) | with_reducible refine BlkAt.alloc ?_ _ | with_reducible refine BlkAt.drew ?_ | (with_reducible refine BlkAt.setSame ?_ _ _) | (with_reducible refine BlkAt.setCell ?_ ?_ _; rotate_left; ((try simp) <;> omega)) | (with_reducible refine BlkAt.ext (w := ?_) ?_ ?_; rotate_left 2; (with_reducible assumption)) | fail))); (next => kernel_rfl)) | fail)
  refine (HC.out _).mono ?_
  rintro e w2 ⟨rfl, hb2⟩
  have hB2 := hB0.ext hb2
  have hR2 := hR0.ext hb2
  have hb02 := below_ext hb0 hb2
  clear hB0 hR0 hb0 hb2 HC HW0
  go_wp2_with (first | (((with_reducible show wpList _ _ _ (⟨_, .store 24 _ _, _, _, _, _⟩ :: _) _ _); refine wpList_store_blk (by rfl) 24 _ _ (by rfl) _ _ (by rfl) (by rfl) _ _ hB2 (by kernel_rfl) (by rfl) ?_ ?_; (next => exact two_one ..); intro w3 hB3 hU3); have hR3 := hR2.upd (show w.heap.size + 1 + 1 ≠ w.heap.size + 1 by omega) hU3) | ((with_reducible show wpList _ _ _ (⟨_, .build _ _, _, _, _, _⟩ :: _) _ _); refine wpList_build_is (by rfl) _ _ (by rfl) ?_ ?_ ?_; rotate_left; (next => simp only [List.map_toArray, List.map_nil, go_sem]; exact built_c0 ..)) | ((with_reducible show wpList _ _ _ (⟨_, .store 32 _ _, _, _, _, _⟩ :: _) _ _); refine wpList_store_blk (by rfl) 32 _ _ (by rfl) _ _ (by rfl) (by rfl) _ _ hR3 (by kernel_rfl) (by rfl) ?_ ?_; (next => exact pr_one ..); intro w4 hR4 hU4) | fail)
  refine bodyPost_ret (results_cpr2 rfl _ _ (w.heap.size + 1 + 1) _ (.bool false) (by rfl) (by rfl) hR4 rfl) rfl ⟨rfl, below_upd (below_upd hb02 (by omega) hU3) (by omega) hU4⟩
theorem free_nil (r : Int) (w : World) : Calls Tryz.prog 14 #[.pointer none, .int .i64 r] w fun e w' => e = .returned (.tuple #[.agg (Pr.mk 0 0 0).arr, .bool false]) ∧ Below w.heap.size w w' := by
  have hR0 : Blk (w.alloc (.cells #[.int .i64 0, .int .i64 0, .int .i64 0] 32)) w.heap.size 32 #[.int .i64 0, .int .i64 0, .int .i64 0] := Blk.new _ _ _ _ rfl
  have hb0 : Below w.heap.size w (w.alloc (.cells #[.int .i64 0, .int .i64 0, .int .i64 0] 32)) := by (repeat (first | with_reducible exact Below.refl _ _ | (with_reducible assumption) | (with_reducible refine below_alloc ?_ _) | (with_reducible refine below_ext (w1 := ?_) ?_ ?_; rotate_left 2; (with_reducible assumption)) | (with_reducible refine Below.setCell ?_ ?_ _; rotate_left; ((try simp) <;> omega)) | (with_reducible refine Below.drew ?_) | (with_reducible refine below_drewN ?_ _) | fail))
  have HWH := Lib.hid (fun W => whole_any W)
  have HCH := Lib.hid (fun W => choose_nil r 1 1099511627776 W)
  go_enter Tryz.func14, Tryz.ntmps14
  go_wp2_with fail
  refine (HWH.out _).mono ?_
  rintro e w2 ⟨rfl, hb2⟩
  have hR2 := hR0.ext hb2
  have hb02 := below_ext hb0 hb2
  clear hR0 hb0 hb2
  go_wp2_with fail
  refine (HCH.out _).mono ?_
  rintro e w3 ⟨rfl, hb3⟩
  have hR3 := hR2.ext hb3
  have hb03 := below_ext hb02 hb3
  clear hR2 hb02 hb3
  go_wp2_with (first | ((with_reducible show wpList _ _ _ (⟨_, .store 32 _ _, _, _, _, _⟩ :: _) _ _); refine wpList_store_blk (by rfl) 32 _ _ (by rfl) _ _ (by rfl) (by rfl) _ _ hR3 (by kernel_rfl) (by rfl) ?_ ?_; (next => exact pr_one ..); intro w4 hR4 hU4) | fail)
  refine bodyPost_ret (results_cpr2 rfl _ _ w.heap.size _ (.bool false) (by rfl) (by rfl) hR4 rfl) rfl ⟨rfl, below_upd hb03 (Nat.le_refl _) hU4⟩
theorem free_any {w : World} {c : Nat → Nat} {b N most k : Nat} {ss : List Sl} (S : Bs w c b N most k ss) (r : Int) : Calls Tryz.prog 14 #[.pointer (some ⟨b, 0, none⟩), .int .i64 r] w (ChPost w 1 1099511627776 r (osOf ss)) := by
  have hR0 : Blk (w.alloc (.cells #[.int .i64 0, .int .i64 0, .int .i64 0] 32)) w.heap.size 32 #[.int .i64 0, .int .i64 0, .int .i64 0] := Blk.new _ _ _ _ rfl
  have hb0 : Below w.heap.size w (w.alloc (.cells #[.int .i64 0, .int .i64 0, .int .i64 0] 32)) := by (repeat (first | with_reducible exact Below.refl _ _ | (with_reducible assumption) | (with_reducible refine below_alloc ?_ _) | (with_reducible refine below_ext (w1 := ?_) ?_ ?_; rotate_left 2; (with_reducible assumption)) | (with_reducible refine Below.setCell ?_ ?_ _; rotate_left; ((try simp) <;> omega)) | (with_reducible refine Below.drew ?_) | (with_reducible refine below_drewN ?_ _) | fail))
  have HWH := Lib.hid (fun W => whole_any W)
  have HCH := Lib.hid (fun W (hW : Below w.heap.size w W) => choose_any (S.ext hW) r 1 1099511627776)
  clear S
  go_enter Tryz.func14, Tryz.ntmps14
  go_wp2_with fail
  refine (HWH.out _).mono ?_
  rintro e w2 ⟨rfl, hb2⟩
  have hR2 := hR0.ext hb2
  have hb02 := below_ext hb0 hb2
  clear hR0 hb0 hb2
  go_wp2_with fail
  refine (HCH.out _ hb02).mono ?_
  rintro e w3 ⟨⟨u, hu, rfl⟩, hb3⟩
  have hR3 := hR2.ext hb3
  have hb03 := below_ext hb02 hb3
  have HU := Lib.hid hu
  clear hR2 hb02 hb3 hu
  generalize hz : chB (osOf ss) r u = z
  obtain ⟨z1, z2⟩ := z
  have HZ := Lib.hid hz
  clear hz
  go_wp2_with (first | ((with_reducible show wpList _ _ _ (⟨_, .store 32 _ _, _, _, _, _⟩ :: _) _ _); refine wpList_store_blk (by rfl) 32 _ _ (by rfl) _ _ (by rfl) (by rfl) _ _ hR3 (by kernel_rfl) (by rfl) ?_ ?_; (next => exact pr_one ..); intro w4 hR4 hU4) | fail)
  refine bodyPost_ret (results_cpr2 rfl _ _ w.heap.size _ (.bool z2) (by rfl) (by rfl) hR4 rfl) rfl ⟨⟨u, HU.out, by rw [HZ.out]⟩, below_upd hb03 (Nat.le_refl _) hU4⟩
end Cl
end Go.Proofs.YtacpjpkhmdcagaaGreat
namespace Go.Proofs.YtacpjpkhmdcagaaGreat
set_option linter.unusedVariables false
open Go.RowKit
namespace Cl
set_option maxHeartbeats 4000000
set_option maxRecDepth 10000
open Rk (Rb)
open Cu (ic dem sup Pt pt_one)
theorem built_r (x y z : Int) : Tryz.prog.built 35 [(0, .int .i64 x), (1, .int .i64 y), (2, .int .i64 z)] = some (Pr.mk x y z).arr := by kernel_rfl
theorem built_r0 : Tryz.prog.built 35 [] = some (Pr.mk 0 0 0).arr := by kernel_rfl
theorem results_rpr {fn : Func} {p : Tmp} (h : fn.results = #[.cell p 35]) (tmps : Array Value) (w : World) (g : Nat) (cs : Array Value) (hp : tmps.getD p undef = .pointer (some ⟨g, 0, none⟩)) (hb : Blk w g 35 cs) (h3 : cs.size = 3) :
    (results fn tmps).run Tryz.prog w = .ok (.agg cs) w :=
  results_cell_row h _ _ _ _ _ _ _ hp hb Tryz.underlying35 rfl (by rw [h3]; kernel_rfl)
theorem results_rpr2 {fn : Func} {p u : Tmp} (h : fn.results = #[.cell p 35, .tmp u]) (tmps : Array Value) (w : World) (g : Nat) (cs : Array Value) (x : Value) (hp : tmps.getD p undef = .pointer (some ⟨g, 0, none⟩)) (hx : tmps.getD u undef = x) (hb : Blk w g 35 cs) (h4 : cs.size = 3) :
    (results fn tmps).run Tryz.prog w = .ok (.tuple #[.agg cs, x]) w := by
  rw [results_cell_tmp h, hp, hx]
  simp only [asAddr, Sem.run_pure, Result.andThen_ok, run_loadVar_row w g 35 35 cs _ _ hb Tryz.underlying35 rfl (by rw [h4]; kernel_rfl)]
section
variable {w : World} {rb N most : Nat} {L : List Ord} {A : Option Addr} {cap : Nat}
theorem rof_any (q : Rb w rb (N : Int) (most : Int) L A cap) (hok : ∀ o ∈ L, 0 ≤ o.qty ∧ o.qty ≤ 4294967296) (p : Int) : Calls Tryz.prog 11 #[.pointer (some ⟨rb, 0, none⟩), .int .i64 p] w fun e w' => e = .returned (.agg (prO L p).arr) ∧ Below w.heap.size w w' := by
  have hR0 : Blk (w.alloc (.cells #[.int .i64 0, .int .i64 0, .int .i64 0] 35)) w.heap.size 35 #[.int .i64 0, .int .i64 0, .int .i64 0] := Blk.new _ _ _ _ rfl
  have hb0 : Below w.heap.size w (w.alloc (.cells #[.int .i64 0, .int .i64 0, .int .i64 0] 35)) := by (repeat (first | with_reducible exact Below.refl _ _ | (with_reducible assumption) | (with_reducible refine below_alloc ?_ _) | (with_reducible refine below_ext (w1 := ?_) ?_ ?_; rotate_left 2; (with_reducible assumption)) | (with_reducible refine Below.setCell ?_ ?_ _; rotate_left; ((try simp) <;> omega)) | (with_reducible refine Below.drew ?_) | (with_reducible refine below_drewN ?_ _) | fail))
  have HA := Lib.hid (Cu.rat_any (q.ext hb0) hok p)
  obtain ⟨pt, hpt⟩ : ∃ x, x = Pt.mk p (dem L p) (sup L p) := ⟨_, rfl⟩
  obtain ⟨pr, hpr⟩ : ∃ x, x = prO L p := ⟨_, rfl⟩
  rw [← hpt] at HA
  rw [← hpr]
  have HV := Lib.hid (fun W => Cu.rvol_any pt W)
  have HO := Lib.hid (fun W => Cu.rodds_any pt W)
  have hbu : Tryz.prog.built 35 [(0, .int .i64 p), (1, .int .i64 (min pt.demand pt.supply)), (2, .int .i64 (Cu.oddsP pt))] = some pr.arr := by rw [hpr, hpt]; exact built_r _ _ _
  clear q hok hpt hpr
  go_enter Tryz.func11, Tryz.ntmps11
  go_wp2_with fail
  refine HA.out.mono ?_
  rintro e w2 ⟨rfl, hb2⟩
  have hR2 := hR0.ext hb2
  have hb02 := below_ext hb0 hb2
  have hN0 : Blk (w2.alloc (.cells #[.int .i64 0, .int .i64 0, .int .i64 0] 72)) w2.heap.size 72 #[.int .i64 0, .int .i64 0, .int .i64 0] := Blk.new _ _ _ _ rfl
  clear hR0 hb0 hb2
  go_wp2_with (first | ((with_reducible show wpList _ _ _ (⟨_, .store 72 _ _, _, _, _, _⟩ :: _) _ _); refine wpList_store_blk (by rfl) 72 _ _ (by rfl) _ _ (by rfl) (by rfl) _ _ hN0 (by kernel_rfl) (by rfl) ?_ ?_; (next => exact pt_one ..); intro w3 hN3 hU3) | fail)
  have hb23 : Below w2.heap.size w2 w3 := below_upd (by (repeat (first | with_reducible exact Below.refl _ _ | (with_reducible assumption) | (with_reducible refine below_alloc ?_ _) | (with_reducible refine below_ext (w1 := ?_) ?_ ?_; rotate_left 2; (with_reducible assumption)) | (with_reducible refine Below.setCell ?_ ?_ _; rotate_left; ((try simp) <;> omega)) | (with_reducible refine Below.drew ?_) | (with_reducible refine below_drewN ?_ _) | fail))) (Nat.le_refl _) hU3
  have hR3 := hR2.ext hb23
  have hb03 := below_ext hb02 hb23
  have hX3 : Blk w3 w2.heap.size 72 pt.arr := hN3
  have hxl := hX3.lt
  have hrl := hR3.lt
  clear hN0 hU3 hR2 hb02 hb23 hN3
  refine wp_region_below_tail 6 (by kernel_rfl) (by kernel_rfl) ?_
  simp only [List.take_succ_cons, List.take_zero, List.drop_succ_cons, List.drop_zero]
  repeat (first | (refine q_build (by rfl) _ _ (by rfl) ?_ ?_ ?_; rotate_left; (next => simp only [List.map_toArray, List.map_cons, List.map_nil, go_sem]; exact hbu); (try simp only [Act.put, List.setIfInBounds_toArray, List.set_cons_zero, List.set_cons_succ])) | go_big_quiet_skip | (go_big_quiet_want; go_big_quiet_op; go_big_quiet_on) | (refine q_load_blk (by rfl) 72 _ (by rfl) ?_ (.pointer (some ⟨_, 0, none⟩)) (by rfl) ?_ _ (fun _ h => h) Tryz.underlying72 rfl ?_ ?_; rotate_left; (next => (repeat (first | (with_reducible refine BlkAt.new _ _ _ _ ?_; ((try simp) <;> omega)) | (with_reducible assumption) | (with_reducible refine Blk.at (t := ?_) ?_; rotate_left; with_reducible assumption) | with_reducible refine BlkAt.alloc ?_ _ | with_reducible refine BlkAt.drew ?_ | (with_reducible refine BlkAt.setSame ?_ _ _) | (with_reducible refine BlkAt.setCell ?_ ?_ _; rotate_left; ((try simp) <;> omega)) | (with_reducible refine BlkAt.ext (w := ?_) ?_ ?_; rotate_left 2; (with_reducible assumption)) | fail))); (next => kernel_rfl); (try simp only [Act.put, List.setIfInBounds_toArray, List.set_cons_zero, List.set_cons_succ])) | (refine q_load_fld (by rfl) _ _ (by rfl) (fun _ h => h) _ _ (by rfl) ?_ ?_ ?_ ?_ ?_ ?_; rotate_left; (next => (repeat (first | (with_reducible refine BlkAt.new _ _ _ _ ?_; ((try simp) <;> omega)) | (with_reducible assumption) | (with_reducible refine Blk.at (t := ?_) ?_; rotate_left; with_reducible assumption) | with_reducible refine BlkAt.alloc ?_ _ | with_reducible refine BlkAt.drew ?_ | (with_reducible refine BlkAt.setSame ?_ _ _) | (with_reducible refine BlkAt.setCell ?_ ?_ _; rotate_left; ((try simp) <;> omega)) | (with_reducible refine BlkAt.ext (w := ?_) ?_ ?_; rotate_left 2; (with_reducible assumption)) | fail))); rotate_left; (next => first | (simp only [go_sem]; rfl) | rfl); (next => kernel_rfl); (try simp only [Act.put, List.setIfInBounds_toArray, List.set_cons_zero, List.set_cons_succ])) | (refine q_rem (by rfl) _ _ _ _ (by rfl) _ _ (by rfl) (by rfl) (by kernel_rfl) (by kernel_rfl) ?_ ?_; (next => omega); (try simp only [Act.put, List.setIfInBounds_toArray, List.set_cons_zero, List.set_cons_succ])) | (refine q_step_ex (by rfl) ?_; apply Exists.intro; refine ⟨fun W hW => ?_, ?_⟩; (next => (have hWc := fun (b o : Nat) (h : b < _) => (Ext.out hW).cell (p := ⟨b, o, none⟩) h); (try have hLK := HLK.out W (Ext.out hW)); go_simp; first | rfl | (go_at_call 36; refine (HV.out _).mono ?_; rintro e w'' ⟨rfl, hb2⟩; exact ⟨rfl, below_ext hW hb2⟩) | (go_at_call 37; refine (HO.out _).mono ?_; rintro e w'' ⟨rfl, hb2⟩; exact ⟨rfl, below_ext hW hb2⟩) | fail); (try simp only [Act.put, List.setIfInBounds_toArray, List.set_cons_zero, List.set_cons_succ])) | fail)
  refine wpQuiet_nil ?_
  intro w4 hb4
  have hR4 := hR3.ext hb4
  have hb04 := below_ext hb03 hb4
  go_wp2_with (first | ((with_reducible show wpList _ _ _ (⟨_, .store 35 _ _, _, _, _, _⟩ :: _) _ _); refine wpList_store_blk (by rfl) 35 _ _ (by rfl) _ _ (by rfl) (by rfl) _ _ hR4 (by kernel_rfl) (by rfl) ?_ ?_; (next => exact pr_one ..); intro w5 hR5 hU5) | fail)
  refine bodyPost_ret (results_rpr rfl _ _ w.heap.size _ (by rfl) hR5 rfl) rfl ⟨rfl, below_upd hb04 (Nat.le_refl _) hU5⟩
theorem less_step (L : List Ord) (r : Int) (p : Int) (m : Pr) : stepF r m (prO L p) = if lessI (prO L p) m r = true then prO L p else m := by
  unfold stepF lessI
  by_cases h : ordI (prO L p) m r < 0 <;> simp [h]
theorem rchoose_any (q : Rb w rb (N : Int) (most : Int) L A cap) (hok : ∀ o ∈ L, 0 ≤ o.qty ∧ o.qty ≤ 4294967296) (r lo hi : Int) : Calls Tryz.prog 17 #[.pointer (some ⟨rb, 0, none⟩), .int .i64 r, .agg #[.int .i64 lo, .int .i64 hi]] w (ChPost w lo hi r L) := by
  have hB0 : Blk ((w.alloc (.cells #[.int .i64 lo, .int .i64 hi] 24)).alloc (.cells #[.int .i64 0, .int .i64 0, .int .i64 0] 35)) w.heap.size 24 #[.int .i64 lo, .int .i64 hi] := (Blk.new w _ _ _ rfl).alloc _
  have hR0 : Blk ((w.alloc (.cells #[.int .i64 lo, .int .i64 hi] 24)).alloc (.cells #[.int .i64 0, .int .i64 0, .int .i64 0] 35)) (w.heap.size + 1) 35 #[.int .i64 0, .int .i64 0, .int .i64 0] := Blk.new _ _ _ _ (sz_alloc _ _)
  have hb0 : Below w.heap.size w ((w.alloc (.cells #[.int .i64 lo, .int .i64 hi] 24)).alloc (.cells #[.int .i64 0, .int .i64 0, .int .i64 0] 35)) := by (repeat (first | with_reducible exact Below.refl _ _ | (with_reducible assumption) | (with_reducible refine below_alloc ?_ _) | (with_reducible refine below_ext (w1 := ?_) ?_ ?_; rotate_left 2; (with_reducible assumption)) | (with_reducible refine Below.setCell ?_ ?_ _; rotate_left; ((try simp) <;> omega)) | (with_reducible refine Below.drew ?_) | (with_reducible refine below_drewN ?_ _) | fail))
  generalize hw0 : (w.alloc (.cells #[.int .i64 lo, .int .i64 hi] 24)).alloc (.cells #[.int .i64 0, .int .i64 0, .int .i64 0] 35) = w0 at hB0 hR0 hb0
  have HW0 := Lib.hid hw0
  have HAL := Lib.hid (rallowed_any (q.ext hb0) r lo hi)
  have HOF := Lib.hid (fun p W (hW : Below w.heap.size w W) => rof_any (q.ext hW) hok p)
  have hlen := q.len
  have hrl := hR0.lt
  clear hw0 q hok
  go_enter Tryz.func17, Tryz.ntmps17
  go_upto_region 1 with fail
  rw [HW0.out]
  go_wp2_with (first | ((with_reducible show wpList _ _ _ (⟨_, .load 24 _, _, _, _, _⟩ :: _) _ _); refine wpList_load_ho 24 _ (by rfl) (by rfl) ?_ (.pointer (some ⟨_, 0, none⟩)) (by rfl) ?_ _ Tryz.underlying24 rfl ?_ ?_; rotate_left; (next => (repeat (first | (with_reducible refine BlkAt.new _ _ _ _ ?_; ((try simp) <;> omega)) | (with_reducible assumption) | (with_reducible refine Blk.at (t := ?_) ?_; rotate_left; with_reducible assumption) | with_reducible refine BlkAt.alloc ?_ _ | with_reducible refine BlkAt.drew ?_ | (with_reducible refine BlkAt.setSame ?_ _ _) | (with_reducible refine BlkAt.setCell ?_ ?_ _; rotate_left; ((try simp) <;> omega)) | (with_reducible refine BlkAt.ext (w := ?_) ?_ ?_; rotate_left 2; (with_reducible assumption)) | fail))); (next => kernel_rfl)) | fail)
  refine HAL.out.mono ?_
  rintro e w2 ⟨⟨v, u, rfl, hown, hal⟩, hb2⟩
  have hul := alx_len hal
  have HUX := Lib.hid hal
  obtain ⟨Au, capu, rfl, hrdu, _, _, hfu⟩ := Cu.owns_i hown
  have hR2 := hR0.ext hb2
  have hb02 := below_ext hb0 hb2
  have hN0 : Blk (w2.alloc (.cells #[.int .i64 0, .int .i64 0, .int .i64 0] 35)) w2.heap.size 35 #[.int .i64 0, .int .i64 0, .int .i64 0] := Blk.new _ _ _ _ rfl
  have hz2 := hb2.size
  have HRDU := Lib.hid hrdu
  clear hown hal HAL hB0 hR0 hb0 hb2 hrdu HW0
  go_upto_region 3 with (first | ((with_reducible show wpList _ _ _ (⟨_, .build _ _, _, _, _, _⟩ :: _) _ _); refine wpList_build_is (by rfl) _ _ (by rfl) ?_ ?_ ?_; rotate_left; (next => simp only [List.map_toArray, List.map_nil, go_sem]; exact built_r0 ..)) | ((with_reducible show wpList _ _ _ (⟨_, .store 35 _ _, _, _, _, _⟩ :: _) _ _); refine wpList_store_blk (by rfl) 35 _ _ (by rfl) _ _ (by rfl) (by rfl) _ _ hN0 (by kernel_rfl) (by rfl) ?_ ?_; (next => exact pr_one ..); intro w3 hN3 hU3) | fail)
  have hM3 : Blk w3 w2.heap.size 35 (Pr.mk 0 0 0).arr := hN3
  have hb23 : Below w2.heap.size w2 w3 := below_upd (by (repeat (first | with_reducible exact Below.refl _ _ | (with_reducible assumption) | (with_reducible refine below_alloc ?_ _) | (with_reducible refine below_ext (w1 := ?_) ?_ ?_; rotate_left 2; (with_reducible assumption)) | (with_reducible refine Below.setCell ?_ ?_ _; rotate_left; ((try simp) <;> omega)) | (with_reducible refine Below.drew ?_) | (with_reducible refine below_drewN ?_ _) | fail))) (Nat.le_refl _) hU3
  have hR3 := hR2.ext hb23
  have hb03 := below_ext hb02 hb23
  obtain ⟨mb, hmb⟩ : ∃ b, b = w2.heap.size := ⟨_, rfl⟩
  have HMB := Lib.hid hmb
  rw [← hmb] at hM3 hz2 ⊢
  clear hN0 hN3 hU3 hR2 hmb
  go_wp2_with fail
  go_loopw [10] (fun x wr => ∃ (k : Nat) (y : Pr), x = .int .i64 k ∧ k ≤ u.length ∧ Hid (minF r ((u.take k).map (prO L)) = y) ∧ Blk wr mb 35 y.arr ∧ Blk wr (w.heap.size + 1) 35 #[.int .i64 0, .int .i64 0, .int .i64 0] ∧ Below mb w2 wr) (fun x _ => u.length - (intOf x).toNat)
  case atStart => exact ⟨0, _, rfl, Nat.zero_le _, Lib.hid rfl, hM3, hR3, by rw [HMB.out]; exact hb23⟩
  case round =>
    obtain ⟨k, y, rfl, hk, HY, hM, hRr, hbr⟩ := hrel
    have hmbe := HMB.out
    have hb2r : Below w2.heap.size w2 wr := by rw [← hmbe]; exact hbr
    have hbwr := below_ext hb02 hb2r
    have lM := hM.lt
    by_cases hlt : k < u.length
    · have e1 : (k : Int) < (u.length : Int) := by omega
      have e0 : (0 : Int) ≤ (k : Int) := by omega
      obtain ⟨ab, ao, rfl, hc1⟩ := HRDU.out.at hlt
      have hi1 : w2.cell? ⟨ab, ao + k * 1, none⟩ = some (.int .i64 u[k]) := hc1 0 _ rfl
      rw [Nat.mul_one] at hi1
      have hi2 : wr.cell? ⟨ab, ao + k, none⟩ = some (.int .i64 u[k]) := (hb2r.cell (p := ⟨ab, ao + k, none⟩) (cell_lt hi1)).trans hi1
      have HS : Hid (k ≠ 0 → minF r ((u.take (k + 1)).map (prO L)) = stepF r y (prO L u[k])) := Lib.hid (fun h => by
        rw [← HY.out]
        have h1 := minF_take (r := r) (l := u.map (prO L)) (k := k) (by rw [List.length_map]; exact hlt) (by omega)
        rw [List.getElem_map] at h1
        rw [List.map_take, List.map_take]
        exact h1)
      have HZ : Hid (k = 0 → minF r ((u.take (k + 1)).map (prO L)) = prO L u[k]) := Lib.hid (fun h => by
        subst h
        cases u with
        | nil => simp at hlt
        | cons a u => rfl)
      have HL1 : Hid (stepF r y (prO L u[k]) = if lessI (prO L u[k]) y r = true then prO L u[k] else y) := Lib.hid (less_step L r u[k] y)
      have HO := Lib.hid (HOF.out u[k] wr hbwr)
      generalize u[k] = p at *
      obtain ⟨pr, hpr⟩ : ∃ x, x = prO L p := ⟨_, rfl⟩
      rw [← hpr] at HS HZ HL1 HO
      have HLE := Lib.hid (fun W => rless_any pr y r W)
      clear hpr hc1 hi1 hmbe
      go_wp2_with fail
      refine HO.out.mono ?_
      rintro e w5 ⟨rfl, hb5⟩
      have hM5 := hM.ext hb5
      have hR5 := hRr.ext hb5
      have hP0 : Blk (w5.alloc (.cells #[.int .i64 0, .int .i64 0, .int .i64 0] 35)) w5.heap.size 35 #[.int .i64 0, .int .i64 0, .int .i64 0] := Blk.new _ _ _ _ rfl
      have hbm5 : Below mb w2 w5 := hbr.trans (hb5.mono (by omega))
      have lM5 := hM5.lt
      have lR5 := hR5.lt
      clear hM hRr hb5 hbr hb2r hbwr hi2 HO
      go_upto_region 7 with (first | ((with_reducible show wpList _ _ _ (⟨_, .store 35 _ _, _, _, _, _⟩ :: _) _ _); refine wpList_store_blk (by rfl) 35 _ _ (by rfl) _ _ (by rfl) (by rfl) _ _ hP0 (by kernel_rfl) (by rfl) ?_ ?_; (next => exact pr_one ..); intro w6 hP6 hU6) | fail)
      have hb56 : Below w5.heap.size w5 w6 := below_upd (by (repeat (first | with_reducible exact Below.refl _ _ | (with_reducible assumption) | (with_reducible refine below_alloc ?_ _) | (with_reducible refine below_ext (w1 := ?_) ?_ ?_; rotate_left 2; (with_reducible assumption)) | (with_reducible refine Below.setCell ?_ ?_ _; rotate_left; ((try simp) <;> omega)) | (with_reducible refine Below.drew ?_) | (with_reducible refine below_drewN ?_ _) | fail))) (Nat.le_refl _) hU6
      have hM6 := hM5.ext hb56
      have hR6 := hR5.ext hb56
      have hP6' : Blk w6 w5.heap.size 35 pr.arr := hP6
      have hbm6 : Below mb w2 w6 := hbm5.trans (hb56.mono (by omega))
      have lM6 := hM6.lt
      obtain ⟨pb, hpb⟩ : ∃ b, b = w5.heap.size := ⟨_, rfl⟩
      rw [← hpb] at hP6' lM5 lR5 ⊢
      clear hP0 hP6 hU6 hM5 hR5 hb56 hbm5 hpb
      by_cases hk0 : k = 0
      · have HE := Lib.hid (HZ.out hk0)
        have e2 : ((k : Int) == 0) = true := by simpa using hk0
        have HK := Lib.hid hk0
        clear hk0 HS HZ HL1
        go_wp2_with (first | ((with_reducible show wpList _ _ _ (⟨_, .load 35 _, _, _, _, _⟩ :: _) _ _); refine wpList_load_ho 35 _ (by rfl) (by rfl) ?_ (.pointer (some ⟨_, 0, none⟩)) (by rfl) ?_ _ Tryz.underlying35 rfl ?_ ?_; rotate_left; (next => (repeat (first | (with_reducible refine BlkAt.new _ _ _ _ ?_; ((try simp) <;> omega)) | (with_reducible assumption) | (with_reducible refine Blk.at (t := ?_) ?_; rotate_left; with_reducible assumption) | with_reducible refine BlkAt.alloc ?_ _ | with_reducible refine BlkAt.drew ?_ | (with_reducible refine BlkAt.setSame ?_ _ _) | (with_reducible refine BlkAt.setCell ?_ ?_ _; rotate_left; ((try simp) <;> omega)) | (with_reducible refine BlkAt.ext (w := ?_) ?_ ?_; rotate_left 2; (with_reducible assumption)) | fail))); (next => kernel_rfl)) | ((with_reducible show wpList _ _ _ (⟨_, .store 35 _ _, _, _, _, _⟩ :: _) _ _); refine wpList_store_blk (by rfl) 35 _ _ (by rfl) _ _ (by rfl) (by rfl) _ _ hM6 (by kernel_rfl) (by rfl) ?_ ?_; (next => exact pr_one ..); intro w7 hM7 hU7) | fail)
        go_roundw
        case rel => exact ⟨k + 1, pr, by go_num, by omega, HE, hM7, hR6.upd (by omega) hU7, below_upd hbm6 (Nat.le_refl _) hU7⟩
        case measure => (simp [intOf]; omega)
      · have HE := Lib.hid (HS.out hk0)
        have e2 : ((k : Int) == 0) = false := by simpa using hk0
        clear hk0 HS HZ
        cases hls : lessI pr y r with
        | true =>
          rw [hls] at HLE HL1
          have HE2 : Hid (minF r ((u.take (k + 1)).map (prO L)) = pr) := Lib.hid (by rw [HE.out, HL1.out]; rfl)
          clear hls HL1 HE
          go_wp2_with (first | ((with_reducible show wpList _ _ _ (⟨_, .load 35 _, _, _, _, _⟩ :: _) _ _); refine wpList_load_ho 35 _ (by rfl) (by rfl) ?_ (.pointer (some ⟨_, 0, none⟩)) (by rfl) ?_ _ Tryz.underlying35 rfl ?_ ?_; rotate_left; (next => (repeat (first | (with_reducible refine BlkAt.new _ _ _ _ ?_; ((try simp) <;> omega)) | (with_reducible assumption) | (with_reducible refine Blk.at (t := ?_) ?_; rotate_left; with_reducible assumption) | with_reducible refine BlkAt.alloc ?_ _ | with_reducible refine BlkAt.drew ?_ | (with_reducible refine BlkAt.setSame ?_ _ _) | (with_reducible refine BlkAt.setCell ?_ ?_ _; rotate_left; ((try simp) <;> omega)) | (with_reducible refine BlkAt.ext (w := ?_) ?_ ?_; rotate_left 2; (with_reducible assumption)) | fail))); (next => kernel_rfl)) | (go_at_call 16; refine (HLE.out _).mono ?_; rintro e w7 ⟨rfl, hb7⟩; have hM7 := hM6.ext hb7; have hR7 := hR6.ext hb7; have hP7 : Blk w7 pb 35 pr.arr := Blk.ext hP6' hb7; have hbm7 := hbm6.trans (hb7.mono (Nat.le_of_lt lM6))) | ((with_reducible show wpList _ _ _ (⟨_, .store 35 _ _, _, _, _, _⟩ :: _) _ _); refine wpList_store_blk (by rfl) 35 _ _ (by rfl) _ _ (by rfl) (by rfl) _ _ hM7 (by kernel_rfl) (by rfl) ?_ ?_; (next => exact pr_one ..); intro w8 hM8 hU8) | fail)
          go_roundw
          case rel => exact ⟨k + 1, pr, by go_num, by omega, HE2, hM8, hR7.upd (by omega) hU8, below_upd hbm7 (Nat.le_refl _) hU8⟩
          case measure => (simp [intOf]; omega)
        | false =>
          rw [hls] at HLE HL1
          have HE2 : Hid (minF r ((u.take (k + 1)).map (prO L)) = y) := Lib.hid (by rw [HE.out, HL1.out]; rfl)
          clear hls HL1 HE
          go_wp2_with (first | ((with_reducible show wpList _ _ _ (⟨_, .load 35 _, _, _, _, _⟩ :: _) _ _); refine wpList_load_ho 35 _ (by rfl) (by rfl) ?_ (.pointer (some ⟨_, 0, none⟩)) (by rfl) ?_ _ Tryz.underlying35 rfl ?_ ?_; rotate_left; (next => (repeat (first | (with_reducible refine BlkAt.new _ _ _ _ ?_; ((try simp) <;> omega)) | (with_reducible assumption) | (with_reducible refine Blk.at (t := ?_) ?_; rotate_left; with_reducible assumption) | with_reducible refine BlkAt.alloc ?_ _ | with_reducible refine BlkAt.drew ?_ | (with_reducible refine BlkAt.setSame ?_ _ _) | (with_reducible refine BlkAt.setCell ?_ ?_ _; rotate_left; ((try simp) <;> omega)) | (with_reducible refine BlkAt.ext (w := ?_) ?_ ?_; rotate_left 2; (with_reducible assumption)) | fail))); (next => kernel_rfl)) | (go_at_call 16; refine (HLE.out _).mono ?_; rintro e w7 ⟨rfl, hb7⟩; have hM7 := hM6.ext hb7; have hR7 := hR6.ext hb7; have hbm7 := hbm6.trans (hb7.mono (Nat.le_of_lt lM6))) | fail)
          go_roundw
          case rel => exact ⟨k + 1, y, by go_num, by omega, HE2, hM7, hR7, hbm7⟩
          case measure => (simp [intOf]; omega)
    · have hke : k = u.length := by omega
      have e1 : ¬ (k : Int) < (u.length : Int) := by omega
      have HCB : Hid (chB L r u = if y.volume = 0 then (⟨0, 0, 0⟩, false) else (y, true)) := Lib.hid (by
        have h := HY.out
        rw [hke, List.take_length] at h
        unfold chB
        rw [h])
      have c1 : wr.cell? ⟨mb, 1, none⟩ = some (.int .i64 y.volume) := hM.cell 1
      have lR := hRr.lt
      clear hke HY hmbe
      by_cases hv : y.volume = 0
      · have HCB2 : Hid (chB L r u = (⟨0, 0, 0⟩, false)) := Lib.hid (by rw [HCB.out, if_pos hv])
        have hv2 : (y.volume == 0) = true := by simpa using hv
        go_wp2_with (first | ((with_reducible show wpList _ _ _ (⟨_, .build _ _, _, _, _, _⟩ :: _) _ _); refine wpList_build_is (by rfl) _ _ (by rfl) ?_ ?_ ?_; rotate_left; (next => simp only [List.map_toArray, List.map_nil, go_sem]; exact built_r0 ..)) | ((with_reducible show wpList _ _ _ (⟨_, .store 35 _ _, _, _, _, _⟩ :: _) _ _); refine wpList_store_blk (by rfl) 35 _ _ (by rfl) _ _ (by rfl) (by rfl) _ _ hRr (by kernel_rfl) (by rfl) ?_ ?_; (next => exact pr_one ..); intro w5 hR5 hU5) | fail)
        refine bodyPost_ret (results_rpr2 rfl _ _ (w.heap.size + 1) _ (.bool false) (by rfl) (by rfl) hR5 rfl) rfl ⟨⟨u, HUX.out, by rw [HCB2.out]⟩, below_upd hbwr (Nat.le_succ _) hU5⟩
      · have HCB2 : Hid (chB L r u = (y, true)) := Lib.hid (by rw [HCB.out, if_neg hv])
        have hv2 : (y.volume == 0) = false := by simpa using hv
        go_wp2_with (first | ((with_reducible show wpList _ _ _ (⟨_, .load 35 _, _, _, _, _⟩ :: _) _ _); refine wpList_load_ho 35 _ (by rfl) (by rfl) ?_ (.pointer (some ⟨_, 0, none⟩)) (by rfl) ?_ _ Tryz.underlying35 rfl ?_ ?_; rotate_left; (next => (repeat (first | (with_reducible refine BlkAt.new _ _ _ _ ?_; ((try simp) <;> omega)) | (with_reducible assumption) | (with_reducible refine Blk.at (t := ?_) ?_; rotate_left; with_reducible assumption) | with_reducible refine BlkAt.alloc ?_ _ | with_reducible refine BlkAt.drew ?_ | (with_reducible refine BlkAt.setSame ?_ _ _) | (with_reducible refine BlkAt.setCell ?_ ?_ _; rotate_left; ((try simp) <;> omega)) | (with_reducible refine BlkAt.ext (w := ?_) ?_ ?_; rotate_left 2; (with_reducible assumption)) | fail))); (next => kernel_rfl)) | ((with_reducible show wpList _ _ _ (⟨_, .store 35 _ _, _, _, _, _⟩ :: _) _ _); refine wpList_store_blk (by rfl) 35 _ _ (by rfl) _ _ (by rfl) (by rfl) _ _ hRr (by kernel_rfl) (by rfl) ?_ ?_; (next => exact pr_one ..); intro w5 hR5 hU5) | fail)
        refine bodyPost_ret (results_rpr2 rfl _ _ (w.heap.size + 1) _ (.bool true) (by rfl) (by rfl) hR5 rfl) rfl ⟨⟨u, HUX.out, by rw [HCB2.out]⟩, below_upd hbwr (Nat.le_succ _) hU5⟩
theorem rfree_any (q : Rb w rb (N : Int) (most : Int) L A cap) (hok : ∀ o ∈ L, 0 ≤ o.qty ∧ o.qty ≤ 4294967296) (r : Int) : Calls Tryz.prog 18 #[.pointer (some ⟨rb, 0, none⟩), .int .i64 r] w (ChPost w 1 1099511627776 r L) := by
  have hR0 : Blk (w.alloc (.cells #[.int .i64 0, .int .i64 0, .int .i64 0] 35)) w.heap.size 35 #[.int .i64 0, .int .i64 0, .int .i64 0] := Blk.new _ _ _ _ rfl
  have hb0 : Below w.heap.size w (w.alloc (.cells #[.int .i64 0, .int .i64 0, .int .i64 0] 35)) := by (repeat (first | with_reducible exact Below.refl _ _ | (with_reducible assumption) | (with_reducible refine below_alloc ?_ _) | (with_reducible refine below_ext (w1 := ?_) ?_ ?_; rotate_left 2; (with_reducible assumption)) | (with_reducible refine Below.setCell ?_ ?_ _; rotate_left; ((try simp) <;> omega)) | (with_reducible refine Below.drew ?_) | (with_reducible refine below_drewN ?_ _) | fail))
  have HCH := Lib.hid (rchoose_any (q.ext hb0) hok r 1 1099511627776)
  clear q hok
  go_enter Tryz.func18, Tryz.ntmps18
  go_wp2_with (first | ((with_reducible show wpList _ _ _ (⟨_, .build _ _, _, _, _, _⟩ :: _) _ _); refine wpList_build_is (by rfl) _ _ (by rfl) ?_ ?_ ?_; rotate_left; (next => simp only [List.map_toArray, List.map_cons, List.map_nil, go_sem]; exact built_b ..)) | fail)
  refine HCH.out.mono ?_
  rintro e w3 ⟨⟨u, hu, rfl⟩, hb3⟩
  have hR3 := hR0.ext hb3
  have hb03 := below_ext hb0 hb3
  have HU := Lib.hid hu
  clear hR0 hb0 hb3 hu HCH
  generalize hz : chB L r u = z
  obtain ⟨z1, z2⟩ := z
  have HZ := Lib.hid hz
  clear hz
  go_wp2_with (first | ((with_reducible show wpList _ _ _ (⟨_, .store 35 _ _, _, _, _, _⟩ :: _) _ _); refine wpList_store_blk (by rfl) 35 _ _ (by rfl) _ _ (by rfl) (by rfl) _ _ hR3 (by kernel_rfl) (by rfl) ?_ ?_; (next => exact pr_one ..); intro w4 hR4 hU4) | fail)
  refine bodyPost_ret (results_rpr2 rfl _ _ w.heap.size _ (.bool z2) (by rfl) (by rfl) hR4 rfl) rfl ⟨⟨u, HU.out, by rw [HZ.out]⟩, below_upd hb03 (Nat.le_refl _) hU4⟩
end
end Cl
end Go.Proofs.YtacpjpkhmdcagaaGreat
namespace Go.Proofs.YtacpjpkhmdcagaaGreat
set_option linter.unusedVariables false
open Go.RowKit
namespace Cl
set_option maxHeartbeats 2000000
set_option maxRecDepth 10000
open Rk (Rb)
open Cu (ic dem sup)
open Bk (bkO osOf)
theorem same_any {w : World} {l : List Int} {A A2 : Option Addr} {cap cap2 : Nat} (hr : Rd w 1 A (l.map ic)) (hr2 : Rd w 1 A2 (l.map ic)) (hl : l.length ≤ 2000) : Calls Tryz.prog 19 #[.slice A l.length cap, .slice A2 l.length cap2] w fun e w' => e = .returned (.bool true) ∧ Below w.heap.size w w' := by
  go_enter Tryz.func19, Tryz.ntmps19
  go_wp2_with fail
  go_loopw [5] (fun p wr => ∃ k : Nat, p = .int .i64 k ∧ k ≤ l.length ∧ Below w.heap.size w wr) (fun p _ => l.length - (intOf p).toNat)
  case atStart => exact ⟨0, rfl, Nat.zero_le _, Below.refl _ _⟩
  case round =>
    obtain ⟨k, rfl, hk, hb⟩ := hrel
    by_cases hlt : k < l.length
    · have e1 : (k : Int) < (l.length : Int) := by omega
      have e0 : (0 : Int) ≤ (k : Int) := by omega
      obtain ⟨b1, o1, rfl, hc1⟩ := hr.at hlt
      obtain ⟨b2, o2, rfl, hc2⟩ := hr2.at hlt
      have hi1 : w.cell? ⟨b1, o1 + k * 1, none⟩ = some (.int .i64 l[k]) := hc1 0 _ rfl
      have hi2 : w.cell? ⟨b2, o2 + k * 1, none⟩ = some (.int .i64 l[k]) := hc2 0 _ rfl
      rw [Nat.mul_one] at hi1 hi2
      have d1 : wr.cell? ⟨b1, o1 + k, none⟩ = some (.int .i64 l[k]) := (hb.cell (p := ⟨b1, o1 + k, none⟩) (cell_lt hi1)).trans hi1
      have d2 : wr.cell? ⟨b2, o2 + k, none⟩ = some (.int .i64 l[k]) := (hb.cell (p := ⟨b2, o2 + k, none⟩) (cell_lt hi2)).trans hi2
      have l1 : b1 < wr.heap.size := cell_lt d1
      have l2 : b2 < wr.heap.size := cell_lt d2
      generalize l[k] = x at *
      have hne : (x != x) = false := by simp
      clear hc1 hc2 hi1 hi2
      go_wp2_with fail
      refine wp_region_below_lit (by kernel_rfl) (by kernel_rfl) ?_
      repeat (first | go_big_quiet_skip | (go_big_quiet_want; go_big_quiet_op; go_big_quiet_on) | (refine q_load_fld (by rfl) _ _ (by rfl) (fun _ h => h) _ _ (by rfl) ?_ ?_ ?_ ?_ ?_ ?_; rotate_left; (next => (repeat (first | (with_reducible refine BlkAt.new _ _ _ _ ?_; ((try simp) <;> omega)) | (with_reducible assumption) | (with_reducible refine Blk.at (t := ?_) ?_; rotate_left; with_reducible assumption) | with_reducible refine BlkAt.alloc ?_ _ | with_reducible refine BlkAt.drew ?_ | (with_reducible refine BlkAt.setSame ?_ _ _) | (with_reducible refine BlkAt.setCell ?_ ?_ _; rotate_left; ((try simp) <;> omega)) | (with_reducible refine BlkAt.ext (w := ?_) ?_ ?_; rotate_left 2; (with_reducible assumption)) | fail))); rotate_left; (next => first | (simp only [go_sem]; rfl) | rfl); (next => kernel_rfl); (try simp only [Act.put, List.setIfInBounds_toArray, List.set_cons_zero, List.set_cons_succ])) | (refine q_rem (by rfl) _ _ _ _ (by rfl) _ _ (by rfl) (by rfl) (by kernel_rfl) (by kernel_rfl) ?_ ?_; (next => omega); (try simp only [Act.put, List.setIfInBounds_toArray, List.set_cons_zero, List.set_cons_succ])) | (refine q_step_ex (by rfl) ?_; apply Exists.intro; refine ⟨fun W hW => ?_, ?_⟩; (next => (have hWc := fun (b o : Nat) (h : b < _) => (Ext.out hW).cell (p := ⟨b, o, none⟩) h); (try have hLK := HLK.out W (Ext.out hW)); go_simp; first | rfl | fail); (try simp only [Act.put, List.setIfInBounds_toArray, List.set_cons_zero, List.set_cons_succ])) | fail)
      refine wpQuiet_nil ?_
      intro w3 hb3
      go_wp2_with fail
      go_roundw
      case rel => exact ⟨k + 1, by go_num, by omega, below_ext hb hb3⟩
      case measure => (simp [intOf]; omega)
    · have e1 : ¬ (k : Int) < (l.length : Int) := by omega
      go_wp2_with fail
      go_ret
      exact ⟨rfl, hb⟩
section
variable {w : World} {rb N most : Nat} {L : List Ord} {A : Option Addr} {cap : Nat}
theorem has_any (q : Rb w rb (N : Int) (most : Int) L A cap) (p : Int) : Calls Tryz.prog 13 #[.pointer (some ⟨rb, 0, none⟩), .int .i64 p] w fun e w' => e = .returned (.bool (decide (∃ o ∈ L, o.price = p))) ∧ w = w' := by
  have hlen := q.len
  go_enter Tryz.func13, Tryz.ntmps13
  go_wp2_with fail
  go_loopw [5] (fun x wr => ∃ k : Nat, x = .int .i64 k ∧ k ≤ L.length ∧ Hid (∀ o ∈ L.take k, o.price ≠ p) ∧ wr = w) (fun x _ => L.length - (intOf x).toNat)
  case atStart => exact ⟨0, rfl, Nat.zero_le _, Lib.hid (fun o ho => by simp at ho), by first | rfl | trivial⟩
  case round =>
    obtain ⟨k, rfl, hk, HN, rfl⟩ := hrel
    have c0 : wr.cell? ⟨rb, 2, none⟩ = some (.slice A L.length cap) := q.hd.cell 2
    by_cases hlt : k < L.length
    · have e1 : (k : Int) < (L.length : Int) := by omega
      obtain ⟨b, o, rfl, hrg⟩ := q.at hlt
      have h1 : wr.cell? ⟨b, o + k * 7 + 3, none⟩ = some (.int .i64 L[k].price) := hrg 3 _ rfl
      have HT : Hid (L.take (k + 1) = L.take k ++ [L[k]]) := Lib.hid (List.take_succ_eq_append_getElem hlt)
      have HM : Hid (L[k] ∈ L) := Lib.hid (List.getElem_mem hlt)
      generalize L[k] = x at *
      by_cases he : x.price = p
      · have HF : Hid (decide (∃ o ∈ L, o.price = p) = true) := Lib.hid (decide_eq_true ⟨x, HM.out, he⟩)
        have e2 : (x.price == p) = true := by simpa using he
        clear he
        go_wp2_with fail
        go_ret
        exact ⟨by rw [HF.out]; rfl, rfl⟩
      · have HN2 : Hid (∀ o ∈ L.take (k + 1), o.price ≠ p) := Lib.hid (fun o ho => by
          rw [HT.out] at ho
          rcases List.mem_append.1 ho with ho | ho
          · exact HN.out o ho
          · rw [List.mem_singleton.1 ho]; exact he)
        have e2 : (x.price == p) = false := by simpa using he
        go_wp2_with fail
        go_roundw
        case rel => exact ⟨k + 1, by go_num, by omega, HN2, by first | rfl | trivial⟩
        case measure => (simp [intOf]; omega)
    · have HF : Hid (decide (∃ o ∈ L, o.price = p) = false) := Lib.hid (decide_eq_false (fun ⟨o, h1, h2⟩ => HN.out o (by rw [List.take_of_length_le (by omega)]; exact h1) h2))
      have e1 : ¬ (k : Int) < (L.length : Int) := by omega
      go_wp2_with fail
      go_ret
      exact ⟨by rw [HF.out]; rfl, rfl⟩
end
/-! ### the example -/
def al17 : List Ord := [⟨1, 0, 0, 10, 3, 0, 0⟩, ⟨2, 0, 1, 9, 2, 0, 0⟩]
def flatO4 (l : List Ord) : List Value := (l.map Ord.cells).flatten
theorem al17_wf : ∀ o ∈ al17, Idx.Wf o.id := by
  intro o ho
  simp [al17] at ho
  rcases ho with rfl | rfl <;> rfl
theorem al17_bk : bkO al17 = al17 := rfl
theorem al17_u {u : List Int} (h : Alx 1 1099511627776 8 al17 u) : u = [8, 9, 10] := by
  refine alx_uniq h (.inl ⟨by decide, by decide, fun p => ?_⟩)
  have e : min (max (8 : Int) (max 1 1)) (min 1099511627776 1099511627776) = 8 := by decide
  rw [e]
  simp [al17]
  omega
theorem al17_ch : chB al17 8 [8, 9, 10] = (⟨9, 2, 1⟩, true) := by kernel_rfl
def prEq (x y : Pr) : Bool := x.price == y.price && (x.volume == y.volume && x.odds == y.odds)
theorem prEq_iff (x y : Pr) : prEq x y = true ↔ x = y := by
  obtain ⟨a1, a2, a3⟩ := x
  obtain ⟨b1, b2, b3⟩ := y
  simp [prEq]
theorem prEq_refl (x : Pr) : prEq x x = true := (prEq_iff x x).2 rfl
theorem guardPr : Tryz.prog.eqGuardType Tryz.prog.depth 32 = false := by kernel_rfl
theorem eqPr (x y : Pr) (w : World) : (Op.equalIn 10000 32 (.agg x.arr) (.agg y.arr)).run Tryz.prog w = .ok (prEq x y) w := by
  have u4 := Tryz.underlying2
  have a4 := Tryz.isAgg2
  have z4 := Tryz.sizeOf2
  have hS : Tryz.prog.underlying 32 = some (.struct (Tryz.prog.fieldsOf 32)) := by kernel_rfl
  have hp : Tryz.prog.stoodInHeld 32 = false := by kernel_rfl
  rw [show (10000 : Nat) = 9999 + 1 from rfl, run_equalIn_agg w 9999 32 _ _ hS hp]
  simp only [Program.fieldsOf, Tryz.underlying32]
  go_simp
  unfold prEq
  by_cases h1 : x.price = y.price
  · by_cases h2 : x.volume = y.volume
    · by_cases h3 : x.odds = y.odds <;> simp [h1, h2, h3]
    · simp [h1, h2]
  · simp [h1]
theorem q_eq_pr {ops : Array Oper} {C : World → Prop} {Q : Act → Prop} {a : Act} {o : Oper} {rest : List Oper} (hgd : Region.wanted o (yielded ops a.tmps) = true) (x y : Operand) (u : TypeId) (ho : o.op = .binOp .eql 32 x y u)
    (p q : Pr) (hx : a.eval x = .agg p.arr) (hy : a.eval y = .agg q.arr) (b : Bool) (hb : prEq p q = b) (h : wpQuiet Tryz.prog ops C Q rest (a.put o.dst (.bool b))) : wpQuiet Tryz.prog ops C Q (o :: rest) a :=
  q_step hgd _ (fun w _ => by
    unfold Oper.quietAt execOp
    simp only [ho, hx, hy, Sem.run_bind, run_eqGuard_agg _ _ _ _ _ _ _ guardPr, Result.andThen_ok, run_eql_struct, eqPr, hb]
    exact ⟨rfl, rfl⟩) h
theorem wpList_eq_pr {ops : Array Oper} {rest : List Oper} {o : Oper} {a : Act} {w : World} {Q : Exit → Act → World → Prop} (hgd : Region.wanted o (yielded ops a.tmps) = true) (x y : Operand) (u : TypeId) (ho : o.op = .binOp .eql 32 x y u)
    (p q : Pr) (hx : a.eval x = .agg p.arr) (hy : a.eval y = .agg q.arr) (b : Bool) (hb : prEq p q = b) (h : wpList Tryz.prog ops Q rest (a.put o.dst (.bool b)) w) : wpList Tryz.prog ops Q (o :: rest) a w :=
  wpList_step fun K hK => by
    rw [if_pos hgd]
    unfold Oper.wp execOp
    simp only [ho, hx, hy, Sem.run_bind, run_eqGuard_agg _ _ _ _ _ _ _ guardPr, Result.andThen_ok, run_eql_struct, eqPr, hb]
    exact hK _ _ h
theorem alive_any (w : World) : Calls Tryz.prog 8 #[] w fun e w' => e = .returned (.bool true) ∧ Below w.heap.size w w' := by
  have hX : Blk (w.alloc (.cells (flatO4 al17).toArray 52)) w.heap.size 52 (flatO4 al17).toArray := Blk.new _ _ _ _ rfl
  have hbX : Below w.heap.size w (w.alloc (.cells (flatO4 al17).toArray 52)) := by (repeat (first | with_reducible exact Below.refl _ _ | (with_reducible assumption) | (with_reducible refine below_alloc ?_ _) | (with_reducible refine below_ext (w1 := ?_) ?_ ?_; rotate_left 2; (with_reducible assumption)) | (with_reducible refine Below.setCell ?_ ?_ _; rotate_left; ((try simp) <;> omega)) | (with_reducible refine Below.drew ?_) | (with_reducible refine below_drewN ?_ _) | fail))
  have HB := Lib.hid (Bk.books_any al17 al17_wf (some ⟨w.heap.size, 0, none⟩) 2 _ (rd_own hX (by simp [al17, Ord.cells]) (n := 2) (by simp [flatO4, al17, Ord.cells])) (by decide))
  go_enter Tryz.func8, Tryz.ntmps8
  go_wp2_with fail
  refine HB.out.mono ?_
  rintro e w1 ⟨b, rb, c, ss, A, cap, rfl, W1⟩
  have HF := Lib.hid (free_any W1.two.bs 8)
  rw [W1.os, al17_bk] at HF
  have hb1 := below_ext hbX W1.below
  clear W1 hX hbX HB
  go_wp2_with fail
  refine HF.out.mono ?_
  rintro e w2 ⟨⟨u, hu, rfl⟩, hb2⟩
  rw [al17_u hu, al17_ch]
  have hN0 : Blk (w2.alloc (.cells #[.int .i64 0, .int .i64 0, .int .i64 0] 32)) w2.heap.size 32 #[.int .i64 0, .int .i64 0, .int .i64 0] := Blk.new _ _ _ _ rfl
  have hbN : Below w2.heap.size w2 (w2.alloc (.cells #[.int .i64 0, .int .i64 0, .int .i64 0] 32)) := by (repeat (first | with_reducible exact Below.refl _ _ | (with_reducible assumption) | (with_reducible refine below_alloc ?_ _) | (with_reducible refine below_ext (w1 := ?_) ?_ ?_; rotate_left 2; (with_reducible assumption)) | (with_reducible refine Below.setCell ?_ ?_ _; rotate_left; ((try simp) <;> omega)) | (with_reducible refine Below.drew ?_) | (with_reducible refine below_drewN ?_ _) | fail))
  clear hu HF
  go_wp2_with (first | ((with_reducible show wpList _ _ _ (⟨_, .build _ _, _, _, _, _⟩ :: _) _ _); refine wpList_build_is (by rfl) _ _ (by rfl) ?_ ?_ ?_; rotate_left; (next => simp only [List.map_toArray, List.map_cons, List.map_nil, go_sem]; exact built_c ..)) | ((with_reducible show wpList _ _ _ (⟨_, .binOp .eql 32 _ _ _, _, _, _, _⟩ :: _) _ _); refine wpList_eq_pr (by rfl) _ _ _ (by rfl) _ _ (by rfl) (by rfl) _ (prEq_refl _) ?_) | ((with_reducible show wpList _ _ _ (⟨_, .store 32 _ _, _, _, _, _⟩ :: _) _ _); refine wpList_store_blk (by rfl) 32 _ _ (by rfl) _ _ (by rfl) (by rfl) _ _ hN0 (by kernel_rfl) (by rfl) ?_ ?_; (next => exact pr_one ..); intro w3 hN3 hU3) | ((with_reducible show wpList _ _ _ (⟨_, .load 32 _, _, _, _, _⟩ :: _) _ _); refine wpList_load_ho 32 _ (by rfl) (by rfl) ?_ (.pointer (some ⟨_, 0, none⟩)) (by rfl) ?_ _ Tryz.underlying32 rfl ?_ ?_; rotate_left; (next => (repeat (first | (with_reducible refine BlkAt.new _ _ _ _ ?_; ((try simp) <;> omega)) | (with_reducible assumption) | (with_reducible refine Blk.at (t := ?_) ?_; rotate_left; with_reducible assumption) | with_reducible refine BlkAt.alloc ?_ _ | with_reducible refine BlkAt.drew ?_ | (with_reducible refine BlkAt.setSame ?_ _ _) | (with_reducible refine BlkAt.setCell ?_ ?_ _; rotate_left; ((try simp) <;> omega)) | (with_reducible refine BlkAt.ext (w := ?_) ?_ ?_; rotate_left 2; (with_reducible assumption)) | fail))); (next => kernel_rfl)) | fail)
  go_ret
  exact ⟨rfl, below_ext hb1 (below_ext hb2 (below_upd hbN (Nat.le_refl _) hU3))⟩
end Cl
end Go.Proofs.YtacpjpkhmdcagaaGreat
