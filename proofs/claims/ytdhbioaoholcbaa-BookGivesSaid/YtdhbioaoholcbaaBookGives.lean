/- This text proves BookGives: whatever the input, the law returns true. It has no conditions. -/
import Derived.Test.YtdhbioaoholcbaaBkPl
import Derived.Test.YtdhbioaoholcbaaBkV
namespace Go.Proofs.Ytdhbioaoholcbaa
set_option linter.unusedVariables false
open Go.RowKit
namespace Bk
set_option maxHeartbeats 4000000
set_option maxRecDepth 10000
open Are (ord0)
open Idx (Wf)
theorem Bs.out {w : World} {c : Nat → Nat} {b N most k : Nat} {ss : List Sl} (B : Bs w c b N most k ss) {r : Nat} (h : w.heap.size ≤ r) : c r = 9 := by
  obtain ⟨d, B, I⟩ := B
  exact B.out r h
/-- What holds of the world in the law's loops. -/
structure Wg (w wr : World) (c : Nat → Nat) (b k : Nat) (ss : List Sl) : Prop where
  bs : Bs wr c b 60 60 k ss
  nine : ∀ q, q < w.heap.size → c q = 9
  below : Below w.heap.size w wr
theorem Wg.ext {w wr w' : World} {c : Nat → Nat} {b k : Nat} {ss : List Sl} (h : Wg w wr c b k ss) (hb : Below wr.heap.size wr w') : Wg w w' c b k ss := ⟨h.bs.ext hb, h.nine, below_ext h.below hb⟩
theorem Wg.step {w wr w' : World} {c c' : Nat → Nat} {b k k' : Nat} {ss ss' : List Sl} (h : Wg w wr c b k ss) (hs : Cs c c' wr w') (B : Bs w' c' b 60 60 k' ss') : Wg w w' c' b k' ss' :=
  ⟨B, fun q hq => hs.nine (Nat.lt_of_lt_of_le hq h.below.size) (h.nine q hq), h.below.trans (hs.below h.below.size h.nine)⟩
theorem Wg.upd {w wr w' : World} {c : Nat → Nat} {b k g : Nat} {ss : List Sl} (h : Wg w wr c b k ss) (u : Upd g wr w') (hg : c g = 9) (hw : w.heap.size ≤ g) : Wg w w' c b k ss :=
  ⟨h.bs.only9 (Only.upd9 u hg), h.nine, below_upd h.below hw u⟩
theorem gives_any (l : List Ord) (hwf : ∀ o ∈ l, Wf o.id) (A : Option Addr) (cap : Nat) (w : World) (hr : Rd w 7 A (l.map Ord.cells)) (hml : l.length ≤ maxLen) :
    Calls Try.prog 3 #[.slice A l.length cap] w fun e w' => e = .returned (.bool true) ∧ Below w.heap.size w w' := by
  unfold maxLen at hml
  have HR := Lib.hid hr
  clear hr
  by_cases h60 : 60 < l.length
  · go_enter Try.func3, Try.ntmps3
    go_wp2_with fail
    refine (new_ok 60 60 _ (by omega) (by omega)).mono ?_
    rintro e w1 ⟨b, c, rfl, B1, hb1, h9⟩
    go_wp2_with (first | (go_at_call 7; refine (alive_any _).mono ?_; rintro e w2 ⟨rfl, hb2⟩) | fail)
    go_ret
    exact ⟨rfl, below_ext hb1 hb2⟩
  go_enter Try.func3, Try.ntmps3
  go_wp2_with fail
  refine (new_ok 60 60 _ (by omega) (by omega)).mono ?_
  rintro e w1 ⟨b, c1, rfl, B1, hb1, h9⟩
  have W1 : Hid (Wg w w1 c1 b 0 []) := Lib.hid ⟨B1, h9, hb1⟩
  clear B1 hb1 h9
  go_wp2_with fail
  go_loopw [6, 5] (fun i ad wr => ∃ (k : Nat) (c : Nat → Nat) (ss : List Sl), i = .int .i64 k ∧ ad = .int .i64 ((osOf ss).length : Int) ∧ k ≤ l.length ∧ Hid (Wg w wr c b k ss) ∧ Hid (Adds l 60 60 k (osOf ss))) (fun i _ _ => l.length - (intOf i).toNat)
  case atStart => exact ⟨0, c1, [], rfl, rfl, Nat.zero_le _, W1, Lib.hid (adds_start l 60 60)⟩
  case round =>
    obtain ⟨k, c, ss, rfl, rfl, hk, HW, HA⟩ := hrel
    clear W1
    by_cases hlt : k < l.length
    · obtain ⟨rb, ro, rfl, hmid⟩ := rd_rng (HR.out.below HW.out.below) hlt
      have hmem := l.getElem_mem hlt
      have HADD := Lib.hid (add_any HW.out.bs l[k] (hwf _ hmem) (by omega))
      have HA2 := Lib.hid (adds_step HA.out hlt (by omega) (by omega))
      have HF : Hid (addF 60 60 (osOf ss) l[k] = 0 → ((osOf ss ++ [l[k]]).length : Int) = (osOf ss).length + 1) := Lib.hid (fun _ => by simp)
      obtain ⟨x, hx⟩ : ∃ x, x = l[k] := ⟨_, rfl⟩
      rw [← hx] at hmid HADD HA2 HF
      have hlen : (osOf ss).length ≤ 60 := Nat.le_trans HA.out.len (by omega)
      clear hx hmem HA
      by_cases hf : addF 60 60 (osOf ss) x = 0
      · have HL : Hid ((addO 60 60 (osOf ss) x).length = (osOf ss).length + 1) := Lib.hid (by unfold addO; rw [if_pos hf]; simp)
        rw [hf] at HADD
        clear hf HF
        generalize addO 60 60 (osOf ss) x = os' at *
        generalize (osOf ss).length = n at *
        go_wp2_with (first | (refine wpList_load_mid (by rfl) _ _ (by rfl) _ _ (by rfl) _ _ hmid Try.underlying30 rfl (by kernel_rfl) ?_) | (go_at_call 8; refine HADD.out.mono ?_; rintro e w2 ⟨rfl, c', ss', B', hos, hs⟩) | fail)
        go_roundw
        case rel => exact ⟨k + 1, c', ss', by go_num, by rw [hos, HL.out]; go_num, by omega, Lib.hid (HW.out.step hs B'), by rw [hos]; exact HA2⟩
        case measure => (simp [intOf] <;> omega)
      · have HL : Hid ((addO 60 60 (osOf ss) x).length = (osOf ss).length) := Lib.hid (by unfold addO; rw [if_neg hf])
        clear HF
        generalize addF 60 60 (osOf ss) x = f at *
        generalize addO 60 60 (osOf ss) x = os' at *
        generalize (osOf ss).length = n at *
        go_wp2_with (first | (refine wpList_load_mid (by rfl) _ _ (by rfl) _ _ (by rfl) _ _ hmid Try.underlying30 rfl (by kernel_rfl) ?_) | (go_at_call 8; refine HADD.out.mono ?_; rintro e w2 ⟨rfl, c', ss', B', hos, hs⟩) | fail)
        go_roundw
        case rel => exact ⟨k + 1, c', ss', by go_num, by rw [hos, HL.out], by omega, Lib.hid (HW.out.step hs B'), by rw [hos]; exact HA2⟩
        case measure => (simp [intOf] <;> omega)
    · have hk' : k = l.length := by omega
      subst hk'
      have HG0 : Hid (Give l 0 0 (osOf ss) ord0) := Lib.hid (give_start HA.out (by omega) HW.out.bs.ids)
      have HL := Lib.hid (len_any HW.out.bs)
      have hlen : (osOf ss).length ≤ 60 := Nat.le_trans HA.out.len (by omega)
      clear hlt hk HA
      obtain ⟨N0, hN0⟩ : ∃ N0, N0 = (osOf ss).length := ⟨_, rfl⟩
      rw [← hN0] at hlen HL ⊢
      have HN0 := Lib.hid hN0
      clear hN0
      go_wp2_with (first | (go_at_call 9; refine HL.out.mono ?_; rintro e w2 ⟨rfl, hb2⟩) | fail)
      have W2 : Hid (Wg w w2 c b l.length ss) := Lib.hid (HW.out.ext hb2)
      clear HW HL hb2
      go_loopw [7, 5] (fun i ad wr => ∃ (n kk : Nat) (c : Nat → Nat) (ss : List Sl), i = .int .i64 n ∧ ad = .int .i64 ((osOf ss).length : Int) ∧ n ≤ 2 ∧ Hid (kk + (osOf ss).length ≤ 120) ∧ Hid (Wg w wr c b kk ss) ∧ Hid (Give l (n : Int) 0 (osOf ss) ord0)) (fun i _ _ => 2 - (intOf i).toNat)
      case atStart => exact ⟨0, l.length, c, ss, rfl, by rw [HN0.out], by omega, Lib.hid (by have := HN0.out; omega), W2, HG0⟩
      case round =>
        clear W2 HG0 HN0 hlen
        obtain ⟨n, kk, c, ss, rfl, rfl, hn, HK, HW, HG⟩ := hrel
        by_cases hn2 : n < 2
        · have hwl := HW.out.below.size
          have hXn := Blk.new wr 30 ord0.arr _ rfl
          go_wp2_with (first | ((with_reducible show wpList _ _ _ (⟨_, .store 30 _ _, _, _, _, _⟩ :: _) _ _); refine wpList_store_blk (by rfl) 30 _ _ (by rfl) _ _ (by rfl) (by rfl) _ _ hXn (by kernel_rfl) (by rfl) ?_ ?_; (next => first | (simp [Value.oneCell']; done) | (simp [Value.oneCell', Edt.cells]; done) | exact Are.ordArr_one _); intro w3 hX3 hU3) | fail)
          have W3 : Hid (Wg w w3 c b kk ss) := Lib.hid ((HW.out.ext (by (repeat (first | with_reducible exact Below.refl _ _ | (with_reducible assumption) | (with_reducible refine below_alloc ?_ _) | (with_reducible refine below_ext (w1 := ?_) ?_ ?_; rotate_left 2; (with_reducible assumption)) | (with_reducible refine Below.setCell ?_ ?_ _; rotate_left; ((try simp) <;> omega)) | (with_reducible refine Below.drew ?_) | (with_reducible refine below_drewN ?_ _) | fail)))).upd hU3 (HW.out.bs.out (Nat.le_refl _)) hwl)
          have h9 : c wr.heap.size = 9 := HW.out.bs.out (Nat.le_refl _)
          generalize wr.heap.size = lb at *
          have HX3 := Lib.hid hX3
          have H9 := Lib.hid h9
          have HLB := Lib.hid hwl
          clear HW hXn hU3 hX3 h9 hwl
          go_loopw [9, 5] (fun j ad wr => ∃ (m kk : Nat) (c : Nat → Nat) (ss : List Sl) (last : Ord), j = .int .i64 m ∧ ad = .int .i64 ((osOf ss).length : Int) ∧ m ≤ 60 ∧ Hid (kk + (osOf ss).length ≤ 120) ∧ Hid (Wg w wr c b kk ss) ∧ Hid (Give l (n : Int) m (osOf ss) last) ∧ Hid (Blk wr lb 30 last.arr) ∧ Hid (c lb = 9)) (fun j _ _ => 60 - (intOf j).toNat)
          case atStart => exact ⟨0, kk, c, ss, ord0, rfl, rfl, by omega, HK, W3, HG, HX3, H9⟩
          case round =>
            clear W3 HX3 H9 HG HK
            obtain ⟨m, kk, c, ss, last, rfl, rfl, hm, HK, HW, HG, HX, H9⟩ := hrel
            by_cases hm60 : m < 60
            · have HFr := front_any HW.out.bs (n : Int)
              unfold frontO at HFr
              rw [if_pos (by omega)] at HFr
              cases hs : srt (n : Int) (osOf ss) with
              | nil =>
                rw [hs] at HFr
                have HFr := Lib.hid HFr
                have HG2 : Hid (Give l ((n + 1 : Nat) : Int) 0 (osOf ss) ord0) := Lib.hid (by push_cast; exact give_end HG.out (.inl hs))
                clear hs HG
                go_wp2_with (first | (go_at_call 10; refine HFr.out.mono ?_; rintro e w4 ⟨rfl, hb4⟩; have hX4 := Blk.new w4 30 #[.int .i64 0, .int .i64 0, .int .i64 0, .int .i64 0, .int .i64 0, .int .i64 0, .int .i64 0] _ rfl) | ((with_reducible show wpList _ _ _ (⟨_, .store 30 _ _, _, _, _, _⟩ :: _) _ _); refine wpList_store_blk (by rfl) 30 _ _ (by rfl) _ _ (by rfl) (by rfl) _ _ hX4 (by kernel_rfl) (by rfl) ?_ ?_; (next => first | (simp [Value.oneCell']; done) | (simp [Value.oneCell', Edt.cells]; done) | exact Are.ordArr_one _); intro w5 hX5 hU5) | fail)
                have hb5 : Below wr.heap.size wr w5 := below_upd (below_ext hb4 (by (repeat (first | with_reducible exact Below.refl _ _ | (with_reducible assumption) | (with_reducible refine below_alloc ?_ _) | (with_reducible refine below_ext (w1 := ?_) ?_ ?_; rotate_left 2; (with_reducible assumption)) | (with_reducible refine Below.setCell ?_ ?_ _; rotate_left; ((try simp) <;> omega)) | (with_reducible refine Below.drew ?_) | (with_reducible refine below_drewN ?_ _) | fail)))) hb4.size hU5
                go_roundw
                case rel => exact ⟨n + 1, kk, c, ss, by go_num, rfl, by omega, HK, Lib.hid (HW.out.ext hb5), HG2⟩
                case measure => (simp [intOf] <;> omega)
              | cons o r =>
                have HFr : Hid (Calls Try.prog 10 #[.pointer (some ⟨b, 0, none⟩), .int .i64 n] wr fun e w' => e = .returned (.tuple #[.agg o.arr, .bool true]) ∧ Below wr.heap.size wr w') := Lib.hid (by rw [hs] at HFr; exact HFr)
                obtain ⟨ho, h1, hpl, hfd, hln, G2⟩ := give_step HG.out hs
                have hwfo : Wf o.id := hwf o (HG.out.mem o ho)
                have HRm : Hid (∀ W, Below wr.heap.size wr W → Calls Try.prog 13 #[.pointer (some ⟨b, 0, none⟩), .int .i64 o.id] W fun e w' => e = .returned (.tuple #[.agg o.arr, .int .i64 0]) ∧ ∃ c' ss', Bs w' c' b 60 60 (kk + 1) ss' ∧ osOf ss' = rmI o.id (osOf ss) ∧ Cs c c' W w') := Lib.hid (fun W hW => by
                  have h2 := HK.out
                  have h := remove_any (HW.out.bs.ext hW) hwfo (by omega)
                  rw [hfd] at h
                  exact h)
                have HPl : Hid (∀ W, Below wr.heap.size wr W → ∀ x : Ord, Calls Try.prog 12 #[.slice A l.length cap, .agg x.arr] W fun e w' => e = .returned (.int .i64 (placeI l x)) ∧ Below W.heap.size W w') := Lib.hid (fun W hW x => place_any l x A cap W (HR.out.below (below_ext HW.out.below hW)) (by omega))
                have hpo : 0 ≤ placeI l o := by
                  unfold placeI
                  rw [if_pos hpl]
                  omega
                have hpq : 0 < m → o.price = last.price → ¬ placeI l o < placeI l last := fun h0 h => by
                  have h2 := (h1 h0).2 h
                  unfold placeI
                  rw [if_pos hpl]
                  split <;> omega
                have HBe : Hid (0 < m → ∀ W, Calls Try.prog 11 #[.int .i64 n, .int .i64 o.price, .int .i64 last.price] W fun e w' => e = .returned (.bool false) ∧ W = w') := Lib.hid (fun h0 W => by
                  have h := better_any (n : Int) o.price last.price W
                  rw [(h1 h0).1] at h
                  exact h)
                have HG2 := Lib.hid G2
                have HLn := Lib.hid hln
                have HPQ := Lib.hid hpq
                have hp0 : decide (placeI l o < 0) = false := decide_eq_false (by omega)
                clear ho h1 hpl hfd hln G2 hs HG hwfo hpq hpo
                go_wp2_with (first | (go_at_call 10; refine HFr.out.mono ?_; rintro e w4 ⟨rfl, hb4⟩; have hX4 := Blk.new w4 30 #[.int .i64 0, .int .i64 0, .int .i64 0, .int .i64 0, .int .i64 0, .int .i64 0, .int .i64 0] _ rfl) | ((with_reducible show wpList _ _ _ (⟨_, .store 30 _ _, _, _, _, _⟩ :: _) _ _); refine wpList_store_blk (by rfl) 30 _ _ (by rfl) _ _ (by rfl) (by rfl) _ _ hX4 (by kernel_rfl) (by rfl) ?_ ?_; (next => first | (simp [Value.oneCell']; done) | (simp [Value.oneCell', Edt.cells]; done) | exact Are.ordArr_one _); intro w5 hX5 hU5) | fail)
                have hb5 : Below wr.heap.size wr w5 := below_upd (below_ext hb4 (by (repeat (first | with_reducible exact Below.refl _ _ | (with_reducible assumption) | (with_reducible refine below_alloc ?_ _) | (with_reducible refine below_ext (w1 := ?_) ?_ ?_; rotate_left 2; (with_reducible assumption)) | (with_reducible refine Below.setCell ?_ ?_ _; rotate_left; ((try simp) <;> omega)) | (with_reducible refine Below.drew ?_) | (with_reducible refine below_drewN ?_ _) | fail)))) hb4.size hU5
                have hob : wr.heap.size ≤ w4.heap.size := hb4.size
                generalize w4.heap.size = ob at *
                have hL5 := HX.out.ext hb5
                have h9o : c ob = 9 := HW.out.bs.out hob
                have hne : ob ≠ lb := fun e => by have := HX.out.lt; omega
                clear hX4 hU5 hb4 HX HFr
                have h3 : (m = 0 ∧ True) ∨ (0 < m ∧ ¬ o.price = last.price) ∨ (0 < m ∧ o.price = last.price) := by
                  rcases Nat.eq_zero_or_pos m with h | h
                  · exact .inl ⟨h, trivial⟩
                  · by_cases h2 : o.price = last.price
                    · exact .inr (.inr ⟨h, h2⟩)
                    · exact .inr (.inl ⟨h, h2⟩)
                obtain ⟨M, hM⟩ : ∃ M, M = m := ⟨_, rfl⟩
                have HM := Lib.hid hM
                clear hM
                rcases h3 with ⟨h0, hpn⟩ | ⟨h0, hpn⟩ | ⟨h0, hpn⟩
                all_goals
                  first | done | (first | subst h0 | skip)
                  try (have e0 : (0 : Int) < (m : Int) := by omega)
                  try (have hpl : decide (placeI l o < placeI l last) = false := decide_eq_false (by have := HPQ.out h0 hpn; omega))
                  have HPN := Lib.hid hpn
                  try (have hpd : decide (o.price = last.price) = false := decide_eq_false HPN.out)
                  try (have hpd : decide (o.price = last.price) = true := decide_eq_true HPN.out)
                  clear hpn
                  go_wp2_with fail
                  refine wp_region_below_lit (by kernel_rfl) (by kernel_rfl) ?_
                  repeat (first | go_big_quiet_skip | ((with_reducible show wpQuiet _ _ _ _ (⟨_, .binOp .eql 2 _ _ _, _, _, _, _⟩ :: _) _); refine Bk.q_eqi (by rfl) _ _ _ (by rfl) _ _ (by rfl) (by rfl) _ hpd ?_; (try simp only [Act.put, List.setIfInBounds_toArray, List.set_cons_zero, List.set_cons_succ])) | ((with_reducible show wpQuiet _ _ _ _ (⟨_, .binOp .lss 3 _ _ _, _, _, _, _⟩ :: _) _); refine Bk.q_lti (by rfl) _ _ _ (by rfl) _ _ (by rfl) (by rfl) _ hpl ?_; (try simp only [Act.put, List.setIfInBounds_toArray, List.set_cons_zero, List.set_cons_succ])) | ((with_reducible show wpQuiet _ _ _ _ (⟨_, .binOp .lss 3 _ _ _, _, _, _, _⟩ :: _) _); refine Bk.q_lti (by rfl) _ _ _ (by rfl) _ _ (by rfl) (by rfl) _ hp0 ?_; (try simp only [Act.put, List.setIfInBounds_toArray, List.set_cons_zero, List.set_cons_succ])) | (go_big_quiet_want; go_big_quiet_op; go_big_quiet_on) | (refine q_load_blk (by rfl) 30 _ (by rfl) ?_ (.pointer (some ⟨_, 0, none⟩)) (by rfl) ?_ _ (fun _ h => h) Try.underlying30 rfl ?_ ?_; rotate_left; (next => (repeat (first | (with_reducible refine BlkAt.new _ _ _ _ ?_; ((try simp) <;> omega)) | (with_reducible assumption) | (with_reducible refine Blk.at (t := ?_) ?_; rotate_left; with_reducible assumption) | with_reducible refine BlkAt.alloc ?_ _ | with_reducible refine BlkAt.drew ?_ | (with_reducible refine BlkAt.setSame ?_ _ _) | (with_reducible refine BlkAt.setCell ?_ ?_ _; rotate_left; ((try simp) <;> omega)) | (with_reducible refine BlkAt.ext (w := ?_) ?_ ?_; rotate_left 2; (with_reducible assumption)) | fail))); (next => kernel_rfl); (try simp only [Act.put, List.setIfInBounds_toArray, List.set_cons_zero, List.set_cons_succ])) | (refine q_load_fld (by rfl) _ _ (by rfl) (fun _ h => h) _ _ (by rfl) ?_ ?_ ?_ ?_ ?_ ?_; rotate_left; (next => (repeat (first | (with_reducible refine BlkAt.new _ _ _ _ ?_; ((try simp) <;> omega)) | (with_reducible assumption) | (with_reducible refine Blk.at (t := ?_) ?_; rotate_left; with_reducible assumption) | with_reducible refine BlkAt.alloc ?_ _ | with_reducible refine BlkAt.drew ?_ | (with_reducible refine BlkAt.setSame ?_ _ _) | (with_reducible refine BlkAt.setCell ?_ ?_ _; rotate_left; ((try simp) <;> omega)) | (with_reducible refine BlkAt.ext (w := ?_) ?_ ?_; rotate_left 2; (with_reducible assumption)) | fail))); rotate_left; (next => first | (simp only [go_sem]; rfl) | rfl); (next => kernel_rfl); (try simp only [Act.put, List.setIfInBounds_toArray, List.set_cons_zero, List.set_cons_succ])) | (refine q_rem (by rfl) _ _ _ _ (by rfl) _ _ (by rfl) (by rfl) (by kernel_rfl) (by kernel_rfl) ?_ ?_; (next => omega); (try simp only [Act.put, List.setIfInBounds_toArray, List.set_cons_zero, List.set_cons_succ])) | (refine q_step_ex (by rfl) ?_; apply Exists.intro; refine ⟨fun W hW => ?_, ?_⟩; (next => (have hWc := fun (b o : Nat) (h : b < _) => (Ext.out hW).cell (p := ⟨b, o, none⟩) h); (try have hLK := HLK.out W (Ext.out hW)); go_simp; first | rfl | (go_at_call 11; refine (HBe.out h0 _).mono ?_; rintro e w'' ⟨rfl, rfl⟩; exact ⟨rfl, hW⟩) | (go_at_call 12; refine (HPl.out _ (below_ext hb5 hW) _).mono ?_; rintro e w'' ⟨rfl, hb2⟩; exact ⟨rfl, below_ext hW hb2⟩) | fail); (try simp only [Act.put, List.setIfInBounds_toArray, List.set_cons_zero, List.set_cons_succ])) | fail)
                  refine wpQuiet_nil ?_
                  intro wq hbq
                  have hO6 := hX5.ext hbq
                  have hL6 := hL5.ext hbq
                  have hb6 := below_ext hb5 hbq
                  have cI : wq.cell? ⟨ob, 0, none⟩ = some (.int .i64 o.id) := hO6.cell 0
                  clear hX5 hL5 hbq hp0
                  have hlb := HLn.out
                  go_wp2_with (first | (go_at_call 13; refine (HRm.out _ hb6).mono ?_; rintro e w7 ⟨rfl, c', ss', B', hos, hs⟩; have hO7 := hs.blk hO6 h9o; have hL7 := hs.blk hL6 H9.out; have hX7 := Blk.new w7 30 #[.int .i64 0, .int .i64 0, .int .i64 0, .int .i64 0, .int .i64 0, .int .i64 0, .int .i64 0] _ rfl) | (((with_reducible show wpList _ _ _ (⟨_, .store 30 _ _, _, _, _, _⟩ :: _) _ _); refine wpList_store_blk (by rfl) 30 _ _ (by rfl) _ _ (by rfl) (by rfl) _ _ hX7 (by kernel_rfl) (by rfl) ?_ ?_; (next => first | (simp [Value.oneCell']; done) | (simp [Value.oneCell', Edt.cells]; done) | exact Are.ordArr_one _); intro w8 hX8 hU8); have hb78 : Below w7.heap.size w7 w8 := below_upd (by (repeat (first | with_reducible exact Below.refl _ _ | (with_reducible assumption) | (with_reducible refine below_alloc ?_ _) | (with_reducible refine below_ext (w1 := ?_) ?_ ?_; rotate_left 2; (with_reducible assumption)) | (with_reducible refine Below.setCell ?_ ?_ _; rotate_left; ((try simp) <;> omega)) | (with_reducible refine Below.drew ?_) | (with_reducible refine below_drewN ?_ _) | fail))) (Nat.le_refl _) hU8; have hO8 := hO7.ext hb78; have hL8 := hL7.ext hb78; clear hX7 hU8) | ((with_reducible show wpList _ _ _ (⟨_, .load 30 _, _, _, _, _⟩ :: _) _ _); refine wpList_load_ho 30 _ (by rfl) (by rfl) ?_ (.pointer (some ⟨_, 0, none⟩)) (by rfl) ?_ _ Try.underlying30 rfl ?_ ?_; rotate_left; (next => (repeat (first | (with_reducible refine BlkAt.new _ _ _ _ ?_; ((try simp) <;> omega)) | (with_reducible assumption) | (with_reducible refine Blk.at (t := ?_) ?_; rotate_left; with_reducible assumption) | with_reducible refine BlkAt.alloc ?_ _ | with_reducible refine BlkAt.drew ?_ | (with_reducible refine BlkAt.setSame ?_ _ _) | (with_reducible refine BlkAt.setCell ?_ ?_ _; rotate_left; ((try simp) <;> omega)) | (with_reducible refine BlkAt.ext (w := ?_) ?_ ?_; rotate_left 2; (with_reducible assumption)) | fail))); (next => kernel_rfl)) | (refine wpList_ne_ord (by rfl) _ _ _ (by rfl) o o (by rfl) (by rfl) ?_; rw [ordEq_refl]) | ((with_reducible show wpList _ _ _ (⟨_, .store 30 _ _, _, _, _, _⟩ :: _) _ _); refine wpList_store_blk (by rfl) 30 _ _ (by rfl) _ _ (by rfl) (by rfl) _ _ hL8 (by kernel_rfl) (by rfl) ?_ ?_; (next => first | (simp [Value.oneCell']; done) | (simp [Value.oneCell', Edt.cells]; done) | exact Are.ordArr_one _); intro w9 hL9 hU9) | fail)
                  go_roundw
                  case rel =>
                    have W8 := (HW.out.ext hb6).step hs B'
                    have h9 : c' lb = 9 := hs.nine hL6.lt H9.out
                    have W9 := (W8.ext hb78).upd hU9 h9 HLB.out
                    exact ⟨M + 1, kk + 1, c', ss', o, by rw [HM.out]; go_num, by rw [hos]; congr 1; have := HK.out; unfold wrap64; omega, by have := HM.out; omega, Lib.hid (by have := HK.out; rw [hos]; omega), Lib.hid W9, by rw [hos, HM.out]; exact HG2, Lib.hid hL9, Lib.hid h9⟩
                  case measure => (simp [intOf] <;> omega)
            · have hm' : m = 60 := by omega
              subst hm'
              have HG2 : Hid (Give l ((n + 1 : Nat) : Int) 0 (osOf ss) ord0) := Lib.hid (by push_cast; exact give_end HG.out (.inr rfl))
              clear HG
              go_wp2_with fail
              go_roundw
              case rel => exact ⟨n + 1, kk, c, ss, by go_num, rfl, by omega, HK, HW, HG2⟩
              case measure => (simp [intOf] <;> omega)
        · have hn' : n = 2 := by omega
          subst hn'
          have hos := give_none HG.out
          have HL := len_any HW.out.bs
          rw [hos] at HL
          rw [hos]
          have HL := Lib.hid HL
          have hb := HW.out.below
          clear hos HG HK HW
          go_wp2_with (first | (go_at_call 9; refine HL.out.mono ?_; rintro e w3 ⟨rfl, hb3⟩) | (go_at_call 7; refine (alive_any _).mono ?_; rintro e w4 ⟨rfl, hb4⟩) | fail)
          go_ret
          exact ⟨rfl, below_ext hb (below_ext hb3 hb4)⟩
theorem fitOrdW {vs : List Value} (h : fits (List.replicate 7 K) vs) : ∃ s : Ord, vs = s.cells ∧ Wf s.id := by
  obtain ⟨a0, _, rfl, b0, h⟩ := fitInt h
  obtain ⟨a1, _, rfl, b1, h⟩ := fitInt h
  obtain ⟨a2, _, rfl, b2, h⟩ := fitInt h
  obtain ⟨a3, _, rfl, b3, h⟩ := fitInt h
  obtain ⟨a4, _, rfl, b4, h⟩ := fitInt h
  obtain ⟨a5, _, rfl, b5, h⟩ := fitInt h
  obtain ⟨a6, _, rfl, b6, h⟩ := fitInt h
  obtain rfl := fitNil h
  exact ⟨⟨a0, a1, a2, a3, a4, a5, a6⟩, rfl, WalkArith.wf_i64 b0⟩
open Go.ChangeShapes Go.WideShapes Go.ChangeAt Go.Deep
set_option maxRecDepth 100000 in
theorem argsBookGives (H : Type) (enc : TypeId × Value → H) (W : World) (args : Array Value) (hargs : Args Try.checked H enc [22] W args) :
    Calls Try.prog 3 args W fun e W' => e = .returned (.bool true) ∧ Below W.heap.size W W' := by
  obtain ⟨base, ds, p, hval, hA⟩ := hargs
  obtain ⟨v0, vs0, d0, ds0, p0, q0, hargs, rfl, rfl, h0, r0⟩ := trodAll_cons hA
  obtain ⟨rfl, rfl, rfl⟩ := trodAll_nil r0
  obtain rfl : args = #[v0] := by cases args; simp_all
  obtain ⟨A, la, ca, rows, rfl, hla, hlc, hca, hfa, ha⟩ := open_rows (ks := List.replicate 7 K) 5 Try.underlying22 (by kernel_rfl) (by kernel_rfl) (by decide) (hval 0 _ v0 rfl rfl) h0
  obtain ⟨xs, rfl, hwf⟩ := rowsOf (fun vs h => fitOrdW h) rows hfa
  rw [List.length_map] at hla
  subst hla
  exact gives_any xs hwf A ca W ha (by omega)
theorem ownBookGives : ownKnob Try.prog.godebug = none := by kernel_rfl
theorem laidBookGives : laidOutB Try.prog = true := by kernel_rfl
set_option maxRecDepth 100000 in
theorem liftedBookGives (os : Os) (started : os.Started) (H : Type) (enc : TypeId × Value → H) :
    ReturnsInHanded {} Try.checked os 3 .any (Rows.bookGivesSpec.pre6 enc Try.prog Try.f3 Rows.bookGivesRow.domain false) (Rows.bookGivesSpec.post enc Try.prog Try.f3 false true false false) :=
  law_lifted (C := Try.checked) (ts := [22]) (tb := 4) ownBookGives laidBookGives started (by kernel_rfl) Try.func3 (by kernel_rfl)
    (ChangeSpec.witness6 (enc := enc) (C := Try.checked) false ⟨#[], #[.slice none 0 0], []⟩ 8 (by kernel_rfl) (by kernel_rfl) (by kernel_rfl) (by kernel_rfl))
    rfl (by kernel_rfl) Try.underlying4 (by kernel_rfl)
    (fun ds h => by
      match ds, h with
      | [d0], _ => rfl)
    (fun W args h => argsBookGives H enc W args h)
theorem provedBookGives : Rows.BookGivesSaid :=
  OpenClaim.holds_of_wide 3 Try.f3 rfl rfl rfl rfl rfl rfl rfl ⟨rfl, rfl, rfl, rfl, rfl⟩ rfl rfl rfl rfl rfl (by kernel_rfl) Try.func3 (by kernel_rfl)
    (of_decide_eq_true (by kernel_rfl)) (by unfold Func.isWrapper; first | (rw [if_pos (by decide +kernel)]; kernel_rfl) | (rw [if_neg (by decide +kernel)]; exact ⟨rfl, rfl⟩))
    (fun os started H enc _ => liftedBookGives os started H enc)
#print axioms provedBookGives
end Bk
end Go.Proofs.Ytdhbioaoholcbaa
