/- This text proves LadderSorts: whatever the input, the law returns true. It has no conditions. -/
import Derived.Test.YtbhidcfhpkljbaaLadV
namespace Go.Proofs.Ytbhidcfhpkljbaa
set_option linter.unusedVariables false
open Go.RowKit
namespace Lad
set_option maxHeartbeats 4000000
set_option maxRecDepth 10000
theorem rd_range {α : Type} {c : α → List Value} {w : World} {k : Nat} {A : Option Addr} {xs : List α} (h : Rd w k A (xs.map c)) {i : Nat} (hi : i < xs.length) :
    ∃ b off, A = some ⟨b, off, none⟩ ∧ w.rangeAt b (off + i * k) (c xs[i]) := by
  obtain ⟨b, off, e, hc⟩ := h.at hi
  exact ⟨b, off, e, fun j v hv => by rw [Nat.add_assoc]; exact hc j v hv⟩
/-- What holds of the world in the second loop. -/
structure Wst (w wr : World) (g bq : Nat) (side : Int) (v : Value) (ls : List Lvl) (u : Nat → Nat) (f : Nat → Bool) : Prop where
  L : La wr g side 40 v ls u
  q : ∃ cs, Blk wr bq 4 cs ∧ BCl f cs
  own : v.ownBlock ≠ some bq
  below : Below w.heap.size w wr
  far : w.heap.size ≤ g ∧ g < bq
section
variable {w wr w' : World} {g bq : Nat} {side : Int} {v v' : Value} {ls ls' : List Lvl} {u u' : Nat → Nat} {f : Nat → Bool}
theorem Wst.ext (S : Wst w wr g bq side v ls u f) (h : Below wr.heap.size wr w') : Wst w w' g bq side v ls u f := by
  obtain ⟨cs, h1, h2⟩ := S.q
  exact ⟨S.L.ext h, ⟨cs, h1.ext h, h2⟩, S.own, below_ext S.below h, S.far⟩
theorem Wst.step (S : Wst w wr g bq side v ls u f) (hs : LStep g v v' wr w') (L' : La w' g side 40 v' ls' u') : Wst w w' g bq side v' ls' u' f := by
  obtain ⟨cs, h1, h2⟩ := S.q
  have hl := h1.lt
  have hf := S.far
  refine ⟨L', ⟨cs, (hs.block bq hl (by omega) S.own).trans h1, h2⟩, ?_, S.below.trans (step_below S.L hs S.far.1), S.far⟩
  rcases hs.fresh with h | h
  · rw [h]; exact S.own
  · intro e
    have := h _ e
    omega
theorem Wst.blk {b : Nat} {t : TypeId} {cs : Array Value} (S : Wst w wr g bq side v ls u f) (hs : LStep g v v' wr w') (hb : Blk wr b t cs) (hg : b ≠ g) (hv : v.ownBlock ≠ some b) : Blk w' b t cs :=
  (hs.block b hb.lt hg hv).trans hb
theorem Wst.mark {cs : Array Value} {k : Nat} (S : Wst w wr g bq side v ls u f) (hC : BCl f cs) (hk : k < 40) (h : Blk w' bq 4 (cs.setIfInBounds k (.bool true))) (hu : Upd bq wr w') : Wst w w' g bq side v ls u (markB f k) := by
  have hf := S.far
  refine ⟨⟨(hu.block g (by omega)).trans S.L.hd, ?_, S.L.len, S.L.rng⟩, ⟨_, h, hC.set hk⟩, S.own, below_upd S.below (by omega) hu, hf⟩
  refine ⟨S.L.row.1, ?_⟩
  rcases S.L.row.2 with h0 | ⟨b, cap, cur, rfl, hb, hg, r⟩
  · exact .inl h0
  · exact .inr ⟨b, cap, cur, rfl, hb, (hu.block b (fun e => S.own (by rw [← e]; rfl))).trans hg, r⟩
end
theorem count_take {xs : List Int} {k : Nat} (hk : k < xs.length) (p : Int) : (xs.take (k + 1)).count p = (xs.take k).count p + if xs[k] = p then 1 else 0 := by
  rw [List.take_succ_eq_append_getElem hk, List.count_append, List.count_singleton]
  simp
theorem sorts_any (side : Int) (xs : List Int) (A : Option Addr) (cap : Nat) (w : World) (hr : Rd w 1 A (xs.map intC)) (hml : xs.length ≤ maxLen) :
    Calls Try.prog 3 #[.int .i64 side, .slice A xs.length cap] w fun e w' => e = .returned (.bool true) ∧ Below w.heap.size w w' := by
  unfold maxLen at hml
  have HR := Lib.hid hr
  clear hr
  by_cases hs : ¬ (side = 0 ∨ side = 1)
  · have h0 : ¬ side = 0 := fun h => hs (.inl h)
    have h1 : ¬ side = 1 := fun h => hs (.inr h)
    clear hs
    go_enter Try.func3, Try.ntmps3
    go_wp2_with (first | (go_at_call 5; refine (alive_any _).mono ?_; rintro e w'' ⟨rfl, hb2⟩) | fail)
    go_ret
    exact ⟨rfl, by (repeat (first | with_reducible exact Below.refl _ _ | (with_reducible assumption) | (with_reducible refine below_alloc ?_ _) | (with_reducible refine below_ext (w1 := ?_) ?_ ?_; rotate_left 2; (with_reducible assumption)) | (with_reducible refine Below.setCell ?_ ?_ _; rotate_left; ((try simp) <;> omega)) | (with_reducible refine Below.drew ?_) | (with_reducible refine below_drewN ?_ _) | fail))⟩
  have hs : side = 0 ∨ side = 1 := Decidable.not_not.1 hs
  by_cases h40 : 40 < xs.length
  · rcases hs with rfl | rfl
    all_goals
      go_enter Try.func3, Try.ntmps3
      go_wp2_with (first | (go_at_call 5; refine (alive_any _).mono ?_; rintro e w'' ⟨rfl, hb2⟩) | fail)
      go_ret
      exact ⟨rfl, by (repeat (first | with_reducible exact Below.refl _ _ | (with_reducible assumption) | (with_reducible refine below_alloc ?_ _) | (with_reducible refine below_ext (w1 := ?_) ?_ ?_; rotate_left 2; (with_reducible assumption)) | (with_reducible refine Below.setCell ?_ ?_ _; rotate_left; ((try simp) <;> omega)) | (with_reducible refine Below.drew ?_) | (with_reducible refine below_drewN ?_ _) | fail))⟩
  obtain ⟨s, hsd⟩ : ∃ s, s = side := ⟨_, rfl⟩
  have hs2 : Hid (s = 0 ∨ s = 1) := Lib.hid (by rw [hsd]; exact hs)
  have HN : Hid (∀ W, Calls Try.prog 6 #[.int .i64 side, .int .i64 40] W fun e w' => e = .returned (.tuple #[.pointer (some ⟨W.heap.size, 0, none⟩), .int .i64 0]) ∧ La w' W.heap.size s 40 (.slice none 0 0) [] (fun _ => 0) ∧ Below W.heap.size W w') := Lib.hid (fun W => by rw [hsd]; exact new_ok side 40 W hs (by omega))
  have HBt : Hid (∀ (W : World) (a b : Int), (1 ≤ a ∧ a ≤ 4611686018427387904) → (1 ≤ b ∧ b ≤ 4611686018427387904) → keyF s a < keyF s b → Calls Try.prog 9 #[.int .i64 side, .int .i64 a, .int .i64 b] W fun e w' => e = .returned (.bool true) ∧ W = w') := Lib.hid (fun W a b ha hb h => by
    have h1 := better_any side a b W hs ha hb
    rw [← hsd, decide_eq_true h] at h1
    rw [hsd] at h1
    exact h1)
  clear hsd
  rcases hs with rfl | rfl
  all_goals
    go_enter Try.func3, Try.ntmps3
    go_wp2_with fail
    refine (HN.out _).mono ?_
    rintro e w1 ⟨rfl, L1, hb1⟩
    have hgl := L1.hd.lt
    obtain ⟨g, hg⟩ : ∃ g, g = w.heap.size := ⟨_, rfl⟩
    rw [← hg] at L1 hgl ⊢
    have hgw : w.heap.size ≤ g := Nat.le_of_eq hg.symm
    clear hg
    have hK0 : Kept s [] ([] : List Lvl) (fun _ => 0) := ⟨fun i j _ h => absurd h (by simp), by simp, by simp, by simp, by simp, by simp, fun j => by simp [busy], by simp, fun _ _ => by decide⟩
    go_wp2_with fail
    go_loopw [7] (fun i wr => ∃ (k : Nat) (v : Value) (ls : List Lvl) (u : Nat → Nat), i = .int .i64 k ∧ k ≤ xs.length ∧ La wr g s 40 v ls u ∧ Kept s (xs.take k) ls u ∧ Below w.heap.size w wr) (fun i _ => xs.length - (intOf i).toNat)
    case atStart => exact ⟨0, _, _, _, rfl, Nat.zero_le _, L1, hK0, hb1⟩
    case round =>
      obtain ⟨k, v, ls, u, rfl, hk, L, K, hb⟩ := hrel
      clear L1 hK0 hgl
      by_cases hlt : k < xs.length
      · obtain ⟨rb, ro, rfl, hcx⟩ := (HR.out).at hlt
        have hx0 := hcx 0 _ rfl
        simp only [Nat.mul_one, Nat.add_zero] at hx0
        have hx1 : wr.cell? ⟨rb, ro + k, none⟩ = some (.int .i64 xs[k]) := (hb.cell (p := ⟨rb, ro + k, none⟩) (cell_lt hx0)).trans hx0
        clear hcx
        by_cases hlo : xs[k] < 1
        · clear K
          go_wp2_with (first | (go_at_call 5; refine (alive_any _).mono ?_; rintro e w'' ⟨rfl, hb3⟩) | fail)
          go_ret
          exact ⟨rfl, below_ext hb hb3⟩
        by_cases hhi : 4611686018427387904 < xs[k]
        · clear K
          go_wp2_with (first | (go_at_call 5; refine (alive_any _).mono ?_; rintro e w'' ⟨rfl, hb3⟩) | fail)
          go_ret
          exact ⟨rfl, below_ext hb hb3⟩
        have HP := Lib.hid (put3 (p := xs[k]) L K hs2.out ⟨by omega, by omega⟩ (by rw [List.length_take]; omega))
        have HT := Lib.hid (List.take_succ_eq_append_getElem hlt)
        have HL := Lib.hid L
        clear L K
        go_wp2_with (first | (go_at_call 7; refine HP.out.mono ?_; rintro e w3 ⟨qn, v', ls', u', rfl, L', K', hs'⟩) | fail)
        go_roundw
        case rel => exact ⟨k + 1, v', ls', u', by go_num, by omega, L', by rw [HT.out]; exact K', hb.trans (step_below HL.out hs' (by omega))⟩
        case measure => (simp [intOf] <;> omega)
      · have hk' : k = xs.length := by omega
        subst hk'
        rw [List.take_length] at K
        have R0 := rest_start K (by omega)
        have hlen40 : xs.length ≤ 40 := by omega
        clear K hlt hk
        go_wp2_with (first | (refine wpList_make_blk (by rfl) _ _ _ (by rfl) 4 (.bool false) 1 1 .i64 .i64 40 (by rfl) (by rfl) Try.underlying30 (by kernel_rfl) ⟨by decide, by decide⟩ ?_; intro w2 hT hb2 hz2) | fail)
        have S0 : Wst w w2 g wr.heap.size s v ls u (fun _ => false) := ⟨L.ext hb2, ⟨_, hT, bcl_new⟩, fun e => by have := (L.own_lt _ e).2; omega, below_ext hb hb2, by omega, L.hd.lt⟩
        clear hT L hb2
        generalize hbq : wr.heap.size = bq at *
        clear hbq hb hz2
        go_loopw [13, 11, 12] (fun i la tot wr => ∃ (n : Nat) (last total : Int) (ps : List Int) (v : Value) (ls : List Lvl) (u : Nat → Nat) (f : Nat → Bool), i = .int .i64 n ∧ la = .int .i64 last ∧ tot = .int .i64 total ∧ n ≤ 40 ∧ Rest s xs n last total ps ls u f ∧ Wst w wr g bq s v ls u f) (fun i _ _ _ => 40 - (intOf i).toNat)
        case atStart => exact ⟨0, 0, 0, xs, v, ls, u, _, rfl, rfl, rfl, by omega, R0, S0⟩
        case round =>
          obtain ⟨n, last, total, ps, v, ls, u, f, rfl, rfl, rfl, hn, R, S⟩ := hrel
          clear R0 S0
          by_cases hn40 : n < 40
          · cases ls with
            | nil =>
              have hto := rest_end R
              subst hto
              have HB := Lib.hid (best_none S.L)
              have HL : Hid (∀ W, Below wr.heap.size wr W → Calls Try.prog 11 #[.pointer (some ⟨g, 0, none⟩)] W fun e w' => e = .returned (.int .i64 0) ∧ W = w') := Lib.hid (fun W hW => len_any (S.L.ext hW))
              have hb := S.below
              clear R S
              go_wp2_with (first | (go_at_call 8; refine HB.out.mono ?_; rintro e w3 ⟨rfl, hb3⟩; have hR : Blk (w3.alloc (.cells lvlZ 32)) w3.heap.size 32 lvlZ := Blk.new _ _ _ _ rfl) | ((with_reducible show wpList _ _ _ (⟨_, .store 32 _ _, _, _, _, _⟩ :: _) _ _); refine wpList_store_blk (by rfl) 32 _ _ (by rfl) _ _ (by rfl) (by rfl) _ _ hR (by kernel_rfl) (by rfl) ?_ ?_; (next => simp [Value.oneCell', lvlZ]); intro w4 hR2 hU2; have hb4 : Below wr.heap.size wr w4 := below_upd (below_alloc hb3 _) hb3.size hU2) | (go_at_call 11; refine (HL.out _ hb4).mono ?_; rintro e w' ⟨rfl, rfl⟩) | (go_at_call 5; refine (alive_any _).mono ?_; rintro e w'' ⟨rfl, hb5⟩) | fail)
              go_ret
              exact ⟨rfl, below_ext (below_ext hb hb4) hb5⟩
            | cons x t =>
              have hxr := R.K.rng x (by simp)
              have hx40 := R.K.q0 x (by simp)
              obtain ⟨hxo, hxq⟩ := R.K.cnt x (by simp)
              rw [R.cnt x (by simp)] at hxo
              obtain ⟨qn, hqn⟩ : ∃ qn : Nat, x.queue = (qn : Int) := ⟨x.queue.toNat, by omega⟩
              have hqn40 : qn < 40 := by omega
              have hfq : f qn = false := by have := R.fl x (by simp); rwa [hqn, Int.toNat_natCast] at this
              have hup := R.K.up
              have hul := R.K.ul
              have hmle : xs.count x.price ≤ xs.length := List.count_le_length
              have hmpos : 0 < xs.count x.price := by
                rw [← R.cnt x (by simp)]
                exact List.count_pos_iff.2 (R.K.pos x (by simp))
              have hlas : 0 < n → (1 ≤ last ∧ last ≤ 4611686018427387904) ∧ keyF s last < keyF s x.price := fun h => ⟨(R.las h).1, (R.las h).2 x (by simp)⟩
              have ht0 := R.t0
              have htot := R.tot
              have R1 := rest_step R hqn
              have ht1 := R1.tot
              have hto40 : total + ((xs.count x.price : Nat) : Int) ≤ 40 := by omega
              clear R ht1 htot
              have HB := Lib.hid (best_some S.L)
              have HS := Lib.hid S
              have HLas := Lib.hid hlas
              clear hlas S
              obtain ⟨px, hpx⟩ : ∃ px, px = x.price := ⟨_, rfl⟩
              rw [← hpx] at hmle hmpos hxo hto40
              obtain ⟨m, hm⟩ : ∃ m, m = xs.count px := ⟨_, rfl⟩
              rw [← hm] at hmle hmpos hxo hto40
              have HPX := Lib.hid hpx
              have HM := Lib.hid hm
              have H1 := Lib.hid R1
              have HXO := Lib.hid hxo
              have HXQ := Lib.hid hxq
              have HQN := Lib.hid hqn
              have HUP := Lib.hid hup
              have HUL := Lib.hid hul
              have HF := Lib.hid hfq
              have HXR := Lib.hid hxr
              have hwl := HS.out.L.hd.lt
              clear R1 hxo hxq hqn hup hul hpx hfq hxr hm hx40
              go_wp2_with (first | (go_at_call 8; refine HB.out.mono ?_; rintro e w3 ⟨rfl, hb3⟩; have hR : Blk (w3.alloc (.cells lvlZ 32)) w3.heap.size 32 lvlZ := Blk.new _ _ _ _ rfl) | ((with_reducible show wpList _ _ _ (⟨_, .store 32 _ _, _, _, _, _⟩ :: _) _ _); refine wpList_store_blk (by rfl) 32 _ _ (by rfl) _ _ (by rfl) (by rfl) _ _ hR (by kernel_rfl) (by rfl) ?_ ?_; (next => simp [Value.oneCell', Lvl.arr, Lvl.cells]); intro w4 hR2 hU2) | fail)
              have hb4 : Below wr.heap.size wr w4 := below_upd (below_alloc hb3 _) hb3.size hU2
              have hbx : wr.heap.size ≤ w3.heap.size := hb3.size
              have hqlt : bq < wr.heap.size := by obtain ⟨cs, h, _⟩ := HS.out.q; exact h.lt
              have hown : ∀ b, v.ownBlock = some b → b < wr.heap.size := fun b hb => (HS.out.L.own_lt b hb).2
              have HS4 := Lib.hid (HS.out.ext hb4)
              generalize w3.heap.size = bx at *
              clear hb3 hR hU2 HB HS
              have Hown := Lib.hid hown
              clear hown
              have Hbl := Lib.hid hb4
              clear hb4
              obtain ⟨wo, rfl⟩ : ∃ wo : World, wo = wr := ⟨_, rfl⟩
              go_loopw [17, 16] (fun k c wr => ∃ j : Nat, k = .int .i64 j ∧ c = .int .i64 ((xs.take j).count px : Nat) ∧ j ≤ xs.length ∧ Below w4.heap.size w4 wr) (fun k _ _ => xs.length - (intOf k).toNat)
              case atStart => exact ⟨0, rfl, rfl, Nat.zero_le _, Below.refl _ _⟩
              case round =>
                obtain ⟨j, rfl, rfl, hj, hb5⟩ := hrel
                have hX := hR2.ext hb5
                have cx0 : wr.cell? ⟨bx, 0, none⟩ = some (.int .i64 px) := by rw [HPX.out]; exact hX.cell 0
                have hXl := hX.lt
                by_cases hlt3 : j < xs.length
                · obtain ⟨rb, ro, rfl, hcx⟩ := (HR.out).at hlt3
                  have hx0 := hcx 0 _ rfl
                  simp only [Nat.mul_one, Nat.add_zero] at hx0
                  have hx1 : wr.cell? ⟨rb, ro + j, none⟩ = some (.int .i64 xs[j]) := (((HS4.out.ext hb5).below).cell (p := ⟨rb, ro + j, none⟩) (cell_lt hx0)).trans hx0
                  have hrb := cell_lt hx1
                  have HC := Lib.hid (count_take hlt3 px)
                  have hcl : (xs.take j).count px ≤ j := Nat.le_trans List.count_le_length (by rw [List.length_take]; omega)
                  generalize (xs.take j).count px = c at *
                  clear hcx hX hR2
                  by_cases hpe : xs[j] = px
                  · rw [hpe] at hx1
                    rw [if_pos hpe] at HC
                    clear hpe hx0
                    go_wp2_with fail
                    refine wp_region_below_lit (by kernel_rfl) (by kernel_rfl) ?_
                    repeat (first | go_big_quiet_skip | (go_big_quiet_want; go_big_quiet_op; go_big_quiet_on) | (refine q_load_fld (by rfl) _ _ (by rfl) (fun _ h => h) _ _ (by rfl) ?_ ?_ ?_ ?_ ?_ ?_; rotate_left; (next => (repeat (first | (with_reducible refine BlkAt.new _ _ _ _ ?_; ((try simp) <;> omega)) | (with_reducible assumption) | (with_reducible refine Blk.at (t := ?_) ?_; rotate_left; with_reducible assumption) | with_reducible refine BlkAt.alloc ?_ _ | with_reducible refine BlkAt.drew ?_ | (with_reducible refine BlkAt.setSame ?_ _ _) | (with_reducible refine BlkAt.setCell ?_ ?_ _; rotate_left; ((try simp) <;> omega)) | (with_reducible refine BlkAt.ext (w := ?_) ?_ ?_; rotate_left 2; (with_reducible assumption)) | fail))); rotate_left; (next => first | (simp only [go_sem]; rfl) | rfl); (next => kernel_rfl); (try simp only [Act.put, List.setIfInBounds_toArray, List.set_cons_zero, List.set_cons_succ])) | (refine q_rem (by rfl) _ _ _ _ (by rfl) _ _ (by rfl) (by rfl) (by kernel_rfl) (by kernel_rfl) ?_ ?_; (next => omega); (try simp only [Act.put, List.setIfInBounds_toArray, List.set_cons_zero, List.set_cons_succ])) | (refine q_step_ex (by rfl) ?_; apply Exists.intro; refine ⟨fun W hW => ?_, ?_⟩; (next => (have hWc := fun (b o : Nat) (h : b < _) => (Ext.out hW).cell (p := ⟨b, o, none⟩) h); (try have hLK := HLK.out W (Ext.out hW)); go_simp; first | rfl | fail); (try simp only [Act.put, List.setIfInBounds_toArray, List.set_cons_zero, List.set_cons_succ])) | fail)
                    refine wpQuiet_nil ?_
                    intro wq hbq
                    go_wp2_with fail
                    go_roundw
                    case rel => exact ⟨j + 1, by go_num, by rw [HC.out]; go_num, by omega, below_ext hb5 hbq⟩
                    case measure => (simp [intOf] <;> omega)
                  · rw [if_neg hpe] at HC
                    clear hx0
                    go_wp2_with fail
                    refine wp_region_below_lit (by kernel_rfl) (by kernel_rfl) ?_
                    repeat (first | go_big_quiet_skip | (go_big_quiet_want; go_big_quiet_op; go_big_quiet_on) | (refine q_load_fld (by rfl) _ _ (by rfl) (fun _ h => h) _ _ (by rfl) ?_ ?_ ?_ ?_ ?_ ?_; rotate_left; (next => (repeat (first | (with_reducible refine BlkAt.new _ _ _ _ ?_; ((try simp) <;> omega)) | (with_reducible assumption) | (with_reducible refine Blk.at (t := ?_) ?_; rotate_left; with_reducible assumption) | with_reducible refine BlkAt.alloc ?_ _ | with_reducible refine BlkAt.drew ?_ | (with_reducible refine BlkAt.setSame ?_ _ _) | (with_reducible refine BlkAt.setCell ?_ ?_ _; rotate_left; ((try simp) <;> omega)) | (with_reducible refine BlkAt.ext (w := ?_) ?_ ?_; rotate_left 2; (with_reducible assumption)) | fail))); rotate_left; (next => first | (simp only [go_sem]; rfl) | rfl); (next => kernel_rfl); (try simp only [Act.put, List.setIfInBounds_toArray, List.set_cons_zero, List.set_cons_succ])) | (refine q_rem (by rfl) _ _ _ _ (by rfl) _ _ (by rfl) (by rfl) (by kernel_rfl) (by kernel_rfl) ?_ ?_; (next => omega); (try simp only [Act.put, List.setIfInBounds_toArray, List.set_cons_zero, List.set_cons_succ])) | (refine q_step_ex (by rfl) ?_; apply Exists.intro; refine ⟨fun W hW => ?_, ?_⟩; (next => (have hWc := fun (b o : Nat) (h : b < _) => (Ext.out hW).cell (p := ⟨b, o, none⟩) h); (try have hLK := HLK.out W (Ext.out hW)); go_simp; first | rfl | fail); (try simp only [Act.put, List.setIfInBounds_toArray, List.set_cons_zero, List.set_cons_succ])) | fail)
                    refine wpQuiet_nil ?_
                    intro wq hbq
                    go_wp2_with fail
                    go_roundw
                    case rel => exact ⟨j + 1, by go_num, by rw [HC.out]; go_num, by omega, below_ext hb5 hbq⟩
                    case measure => (simp [intOf] <;> omega)
                · have hj' : j = xs.length := by omega
                  subst hj'
                  rw [List.take_length, ← HM.out]
                  have HS5 := Lib.hid (HS4.out.ext hb5)
                  obtain ⟨cs, hBq, hC⟩ := HS5.out.q
                  have hcs := hC.1
                  have cx1 : wr.cell? ⟨bx, 1, none⟩ = some (.int .i64 (3 * (m : Int))) := by rw [← HXO.out, ← HXQ.out]; exact hX.cell 1
                  have cx2 : wr.cell? ⟨bx, 2, none⟩ = some (.int .i64 (m : Int)) := by rw [← HXO.out]; exact hX.cell 2
                  have cx3 : wr.cell? ⟨bx, 3, none⟩ = some (.int .i64 (qn : Int)) := by rw [← HQN.out]; exact hX.cell 3
                  have cq : wr.cell? ⟨bq, qn, none⟩ = some (.bool false) := (hBq.cell qn).trans (by rw [hC.2 qn hqn40, HF.out])
                  have hm40 : (m : Int) ≤ 40 := by omega
                  have e1 : (qn : Int) < 40 := by omega
                  have e2 : (qn : Int) ≤ 39 := by omega
                  have e3 : (0 : Int) ≤ (qn : Int) := by omega
                  have hql := hBq.lt
                  have HX := Lib.hid hX
                  have HC := Lib.hid hC
                  clear hX hC hlt3 hj
                  rcases Nat.eq_zero_or_pos n with hn0 | hn0
                  all_goals
                    have HBE : Hid (0 < n → Calls Try.prog 9 #[.int .i64 _, .int .i64 last, .int .i64 px] wr fun e w' => e = .returned (.bool true) ∧ wr = w') := Lib.hid (fun h => HBt.out wr last px (HLas.out h).1 (by rw [HPX.out]; exact HXR.out) (by rw [HPX.out]; exact (HLas.out h).2))
                    first | subst hn0 | skip
                    have hwl2 : bq ≠ bx := by omega
                    go_wp2_with (first | (go_at_call 9; refine (HBE.out hn0).mono ?_; rintro e w' ⟨rfl, rfl⟩) | (((with_reducible show wpList _ _ _ (⟨_, .store _ _ _, _, _, _, _⟩ :: _) _ _); refine wpList_store_fld (by rfl) _ _ _ (by rfl) _ _ (by rfl) _ (by rfl) _ _ hBq ?_ ?_ (by rfl) (by rfl) ?_; (next => first | omega | ((try simp) <;> omega)); (next => kernel_rfl); intro w5 hBq5 hU5); have cy0 : w5.cell? ⟨bx, 0, none⟩ = some (.int .i64 px) := (World.cell?_of_block (a := ⟨bx, 0, none⟩) (hU5.block bx (by omega))).trans cx0) | fail)
                    have S6 := HS5.out.mark HC.out hqn40 hBq5 hU5
                    have hX6 : Blk w5 bx 32 x.arr := (hU5.block bx (by omega)).trans HX.out
                    have hvb : v.ownBlock ≠ some bx := fun e => by have := Hown.out _ e; omega
                    clear hBq5 hU5 hBq cx0 cx1 cx2 cx3 cq cy0 HX HC HS5 HS4 Hbl hb5 hR2 HBE
                    obtain ⟨wp, rfl⟩ : ∃ wp : World, wp = wr := ⟨_, rfl⟩
                    go_loopw [18] (fun i wr => ∃ (k : Nat) (v : Value), i = .int .i64 k ∧ k ≤ m ∧ Wst w wr g bq s v (lsT x t m k) (uT u qn m k) (markB f qn) ∧ Blk wr bx 32 x.arr ∧ v.ownBlock ≠ some bx) (fun i _ => m - (intOf i).toNat)
                    case atStart => exact ⟨0, v, rfl, Nat.zero_le _, by rw [lsT_0 _ _ _ hmpos, uT_0 _ _ _ hmpos]; exact S6, hX6, hvb⟩
                    case round =>
                      obtain ⟨k, v2, rfl, hk, S7, hX7, hv7⟩ := hrel
                      clear S6 hX6 hvb
                      have cz0 : wr.cell? ⟨bx, 0, none⟩ = some (.int .i64 px) := by rw [HPX.out]; exact hX7.cell 0
                      by_cases hkm : k < m
                      · have HT : Hid (Calls Try.prog 10 #[.pointer (some ⟨g, 0, none⟩), .int .i64 px, .int .i64 3, .bool true] wr (TakePost g s v2 (qn : Int) (lsT x t m (k + 1)) (uT u qn m (k + 1)) wr)) := Lib.hid (by
                          rw [HPX.out, ← HQN.out]
                          exact take_step S7.L hkm HUP.out HXO.out HXQ.out (by omega) HXR.out HQN.out hqn40 HUL.out)
                        have HS7 := Lib.hid S7
                        have hbg : bx ≠ g := by have := S7.far; omega
                        clear S7
                        go_wp2_with (first | (go_at_call 10; refine HT.out.mono ?_; rintro e w8 ⟨v8, rfl, L8, hs8⟩; have cz3 : w8.cell? ⟨bx, 3, none⟩ = some (.int .i64 (qn : Int)) := by rw [← HQN.out]; exact (HS7.out.blk hs8 hX7 hbg hv7).cell 3) | fail)
                        go_roundw
                        case rel => exact ⟨k + 1, v8, by go_num, by omega, HS7.out.step hs8 L8, HS7.out.blk hs8 hX7 hbg hv7, by
                          rcases hs8.fresh with h | h
                          · rw [h]; exact hv7
                          · intro e
                            have h1 := h _ e
                            have h2 := hX7.lt
                            omega⟩
                        case measure => (simp [intOf] <;> omega)
                      · have hkm' : k = m := by omega
                        subst hkm'
                        rw [lsT_end, uT_end] at S7
                        have R2 := H1.out
                        rw [← HPX.out, ← HM.out] at R2
                        have HR2 := Lib.hid R2
                        have HS7 := Lib.hid S7
                        clear R2 S7
                        go_wp2_with fail
                        go_roundw
                        case rel => exact ⟨_, px, total + (k : Int), _, v2, t, clrU u qn, markB f qn, by go_num, rfl, by go_num, by omega, HR2.out, HS7.out⟩
                        case measure => (simp [intOf] <;> omega)
          · have hn' : n = 40 := by omega
            have hls : ls = [] := List.eq_nil_of_length_eq_zero (by have := R.len; omega)
            subst hls hn'
            have hto := rest_end R
            subst hto
            have HL : Hid (∀ W, Below wr.heap.size wr W → Calls Try.prog 11 #[.pointer (some ⟨g, 0, none⟩)] W fun e w' => e = .returned (.int .i64 0) ∧ W = w') := Lib.hid (fun W hW => len_any (S.L.ext hW))
            have hb := S.below
            clear R S hn40 hn
            go_wp2_with (first | (go_at_call 11; refine (HL.out _ (Below.refl _ _)).mono ?_; rintro e w' ⟨rfl, rfl⟩) | (go_at_call 5; refine (alive_any _).mono ?_; rintro e w'' ⟨rfl, hb5⟩) | fail)
            go_ret
            exact ⟨rfl, below_ext hb hb5⟩
open Go.ChangeShapes Go.WideShapes Go.ChangeAt Go.Deep
set_option maxRecDepth 100000 in
theorem argsLadderSorts (H : Type) (enc : TypeId × Value → H) (W : World) (args : Array Value) (hargs : Args Try.checked H enc [3, 22] W args) :
    Calls Try.prog 3 args W fun e W' => e = .returned (.bool true) ∧ Below W.heap.size W W' := by
  obtain ⟨base, ds, p, hval, hA⟩ := hargs
  obtain ⟨v0, vs0, d0, ds0, p0, q0, hargs, rfl, rfl, h0, r0⟩ := trodAll_cons hA
  obtain ⟨v1, vs1, d1, ds1, p1, q1, rfl, rfl, rfl, h1, r1⟩ := trodAll_cons r0
  obtain ⟨rfl, rfl, rfl⟩ := trodAll_nil r1
  obtain rfl : args = #[v0, v1] := by cases args; simp_all
  obtain ⟨n, rfl, _⟩ := open_int Try.underlying3 (hval 0 _ v0 rfl rfl) h0
  obtain ⟨A, la, ca, rows, rfl, hla, hlc, hca, hfa, ha⟩ := open_rows (ks := [K]) 5 Try.underlying22 (by kernel_rfl) (by kernel_rfl) (by decide) (hval 1 _ v1 rfl rfl) h1
  obtain ⟨xs, rfl, _⟩ := rowsOf (fun vs h => fitIntC h) rows hfa
  rw [List.length_map] at hla
  subst hla
  exact sorts_any n xs A ca W ha (by omega)
theorem ownLadderSorts : ownKnob Try.prog.godebug = none := by kernel_rfl
theorem laidLadderSorts : laidOutB Try.prog = true := by kernel_rfl
set_option maxRecDepth 100000 in
theorem liftedLadderSorts (os : Os) (started : os.Started) (H : Type) (enc : TypeId × Value → H) :
    ReturnsInHanded {} Try.checked os 3 .any (Rows.ladderSortsSpec.pre6 enc Try.prog Try.f3 Rows.ladderSortsRow.domain false) (Rows.ladderSortsSpec.post enc Try.prog Try.f3 false true false false) :=
  law_lifted (C := Try.checked) (ts := [3, 22]) (tb := 4) ownLadderSorts laidLadderSorts started (by kernel_rfl) Try.func3 (by kernel_rfl)
    (ChangeSpec.witness6 (enc := enc) (C := Try.checked) false ⟨#[], #[.int .i64 0, .slice none 0 0], []⟩ 8 (by kernel_rfl) (by kernel_rfl) (by kernel_rfl) (by kernel_rfl))
    rfl (by kernel_rfl) Try.underlying4 (by kernel_rfl)
    (fun ds h => by
      match ds, h with
      | [d0, d1], _ => rfl)
    (fun W args h => argsLadderSorts H enc W args h)
theorem provedLadderSorts : Rows.LadderSortsSaid :=
  OpenClaim.holds_of_wide 3 Try.f3 rfl rfl rfl rfl rfl rfl rfl ⟨rfl, rfl, rfl, rfl, rfl⟩ rfl rfl rfl rfl rfl (by kernel_rfl) Try.func3 (by kernel_rfl)
    (of_decide_eq_true (by kernel_rfl)) (by unfold Func.isWrapper; first | (rw [if_pos (by decide +kernel)]; kernel_rfl) | (rw [if_neg (by decide +kernel)]; exact ⟨rfl, rfl⟩))
    (fun os started H enc _ => liftedLadderSorts os started H enc)
#print axioms provedLadderSorts
end Lad
end Go.Proofs.Ytbhidcfhpkljbaa
