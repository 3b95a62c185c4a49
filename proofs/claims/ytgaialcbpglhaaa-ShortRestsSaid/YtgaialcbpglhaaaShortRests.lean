/- This text proves ShortRests: whatever the input, the law returns true. It has no conditions. -/
import Derived.Test.YtgaialcbpglhaaaShR
import Derived.Test.YtgaialcbpglhaaaSwB
namespace Go.Proofs.Ytgaialcbpglhaaa
set_option linter.unusedVariables false
open Go.RowKit
namespace Sho
set_option maxHeartbeats 4000000
set_option maxRecDepth 10000
open Bk (bet Bs osOf srt Sl Cs fndI rmI bkO)
/-- What stands while what is cut is removed. -/
structure Wr (w wr : World) (c : Nat → Nat) (b rb k stb : Nat) (ss : List Sl) (A : Option Addr) (cap : Nat) (A4 : Option Addr) (os : List Ord) (ids : List Int) (bid : Int) (i : Nat) : Prop where
  bs : Bs wr c b 60 60 (k + i) ss
  left : osOf ss = leftO (ids.take i) os
  rf : Rk.Rb wr rb ((60 : Nat) : Int) ((60 : Nat) : Int) os A cap
  row : Rd wr 1 A4 (ids.map fun z => [.int .i64 z])
  st : Blk wr stb 40 #[.bool true, .int .i64 bid]
  below : Below w.heap.size w wr
  c9 : c rb = 9 ∧ (∀ a, A = some a → c a.block = 9) ∧ (∀ a, A4 = some a → c a.block = 9 ∧ a.block < wr.heap.size) ∧ c stb = 9 ∧ ∀ q, q < w.heap.size → c q = 9
theorem Wr.next {w wr w5 w7 : World} {c c' : Nat → Nat} {b rb k stb : Nat} {ss ss5 : List Sl} {A : Option Addr} {cap : Nat} {A4 : Option Addr} {os : List Ord} {ids : List Int} {bid : Int} {i : Nat} (W : Wr w wr c b rb k stb ss A cap A4 os ids bid i) (hi : i < ids.length) (hs : Cs c c' wr w5) (hb : Below w5.heap.size w5 w7)
    (B5 : Bs w5 c' b 60 60 (k + i + 1) ss5) (hos : osOf ss5 = rmI ids[i] (osOf ss)) : Wr w w7 c' b rb k stb ss5 A cap A4 os ids bid (i + 1) := by
  obtain ⟨k1, k2, k3, k4, k5⟩ := W.c9
  have hrb := W.rf.hd.lt
  have hst := W.st.lt
  refine ⟨B5.ext hb, ?_, (W.rf.keep hs.size (hs.same _ hrb k1) (fun a e => hs.same _ (W.rf.far a e).2 (k2 a e))).ext hb, (hs.rd W.row (fun a e => (k3 a e).1) (fun a e => (k3 a e).2)).below hb, (hs.blk W.st k4).ext hb, ?_, (hs.old _ hrb).trans k1, fun a e => (hs.old _ (W.rf.far a e).2).trans (k2 a e), fun a e => ⟨(hs.old _ (k3 a e).2).trans (k3 a e).1, by have := (k3 a e).2; have := hs.size; have := hb.size; omega⟩, (hs.old _ hst).trans k4, fun q hq => (hs.old _ (by have := W.below.size; omega)).trans (k5 q hq)⟩
  · rw [hos, W.left, left_rm, List.take_succ_eq_append_getElem hi]
  · exact below_ext (W.below.trans (hs.below W.below.size k5)) hb
theorem ints_flat : ∀ l : List Int, (l.map fun z => [Value.int .i64 z]).flatten = ints l
  | [] => rfl
  | x :: l => by
    have ih := ints_flat l
    unfold ints at ih ⊢
    simp [ih]
theorem owns_ids {w : World} {B : Nat} {v : Value} {l : List Int} (h : w.ownsRow B 2 1 v l.length (ints l)) : ∃ A cap, v = .slice A l.length cap ∧ Rd w 1 A (l.map fun z => [.int .i64 z]) ∧ ∀ a, A = some a → B ≤ a.block ∧ a.block < w.heap.size := by
  rcases h.2 with ⟨rfl, h0⟩ | ⟨g, cap, cur, rfl, hb, hg, hc, _, _, ht⟩
  · rw [h0]
    have : l = [] := List.eq_nil_of_length_eq_zero h0
    subst this
    exact ⟨none, 0, rfl, fun hne => absurd rfl hne, fun a e => by cases e⟩
  · refine ⟨some ⟨g, 0, none⟩, cap, rfl, rd_own (show Blk w g 2 cur from hg) (n := l.length) (fun r hr => ?_) ?_, fun a e => ?_⟩
    · obtain ⟨x, _, rfl⟩ := List.mem_map.1 hr
      rfl
    · rw [ints_flat]
      simpa using ht
    · injection e with e
      subst e
      exact ⟨hb, (Array.getElem?_eq_some_iff.1 hg).1⟩
theorem rd_id {w : World} {A : Option Addr} {l : List Int} (h : Rd w 1 A (l.map fun z => [.int .i64 z])) {i : Nat} (hi : i < l.length) : ∃ b off, A = some ⟨b, off, none⟩ ∧ w.cell? ⟨b, off + i, none⟩ = some (.int .i64 l[i]) := by
  obtain ⟨b, off, e, hc⟩ := h.at hi
  exact ⟨b, off, e, by simpa using hc 0 _ rfl⟩
theorem cut_ids {s : Int} {os : List Ord} (hwf : ∀ o ∈ os, Idx.Wf o.id) : ∀ z ∈ cutF true s (srt 1 os), Idx.Wf z := by
  intro z hz
  unfold cutF cutO at hz
  obtain ⟨o, ho, rfl⟩ := List.mem_map.1 hz
  exact hwf o (srt_mem1.1 (List.mem_filter.1 ho).1).1
theorem rests_main (l : List Ord) (bid more : Int) (hb : 0 ≤ bid ∧ bid ≤ more) (hwf : ∀ o ∈ l, Idx.Wf o.id) (A : Option Addr) (cap : Nat) (w : World) (hr : Rd w 7 A (l.map Ord.cells)) (hl : l.length ≤ 60) :
    Calls Try.prog 5 #[.slice A l.length cap, .int .i64 bid, .int .i64 more] w fun e w' => e = .returned (.bool true) ∧ Below w.heap.size w w' := by
  have HB := Lib.hid (Bk.books_any l hwf A cap w hr hl)
  have h61 : ¬ (60 : Int) < l.length := by omega
  have hb1 : ¬ bid < 0 := by omega
  have hb2 : ¬ more < bid := by omega
  have HLE := Lib.hid hb.2
  have HL := Lib.hid hl
  clear hr hwf hb hl
  go_enter Try.func5, Try.ntmps5
  go_wp2_with fail
  refine HB.out.mono ?_
  rintro e w1 ⟨b, rb, c, ss, A1, cap1, rfl, W1⟩
  have HC := Lib.hid (fun f s W (hW : Below w1.heap.size w1 W) => cut_any (W1.two.bs.ext hW) f s)
  have HW1 := Lib.hid W1
  have hS1 : Blk (w1.alloc (.cells #[.bool false, .int .i64 0] 40)) w1.heap.size 40 #[.bool false, .int .i64 0] := Blk.new _ _ _ _ rfl
  clear W1 HB
  obtain ⟨os, hos⟩ : ∃ os, os = osOf ss := ⟨_, rfl⟩
  rw [← hos] at HC
  have HOS := Lib.hid hos
  clear hos
  go_wp2_with (first | ((with_reducible show wpList _ _ _ (⟨_, .store 40 _ _, _, _, _, _⟩ :: _) _ _); refine wpList_store_blk (by rfl) 40 _ _ (by rfl) _ _ (by rfl) (by rfl) _ _ hS1 (by kernel_rfl) (by rfl) ?_ ?_; (next => first | (simp [Value.oneCell']; done) | (simp [Value.oneCell', Edt.cells]; done) | exact Are.ordArr_one _); intro w2 hS2 hU2) | fail)
  have hb2 : Below w1.heap.size w1 w2 := below_upd (by (repeat (first | with_reducible exact Below.refl _ _ | (with_reducible assumption) | (with_reducible refine below_alloc ?_ _) | (with_reducible refine below_ext (w1 := ?_) ?_ ?_; rotate_left 2; (with_reducible assumption)) | (with_reducible refine Below.setCell ?_ ?_ _; rotate_left; ((try simp) <;> omega)) | (with_reducible refine Below.drew ?_) | (with_reducible refine below_drewN ?_ _) | fail))) (Nat.le_refl _) hU2
  refine (HC.out _ _ _ hb2).mono ?_
  rintro e w3 ⟨v3, rfl, hown3, hb3⟩
  obtain ⟨A3, cp3, rfl, _⟩ := owns_ids hown3
  have hS3 := hS2.ext hb3
  have hb13 := below_ext hb2 hb3
  have hmore := cut_more HLE.out (srt 1 os)
  generalize hn3 : (cutF true more (srt 1 os)).length = n3 at *
  clear hown3 hU2 hS2 hS1
  go_wp2_with (first | ((with_reducible show wpList _ _ _ (⟨_, .load 40 _, _, _, _, _⟩ :: _) _ _); refine wpList_load_ho 40 _ (by rfl) (by rfl) ?_ (.pointer (some ⟨_, 0, none⟩)) (by rfl) ?_ _ Try.underlying40 rfl ?_ ?_; rotate_left; (next => (repeat (first | (with_reducible refine BlkAt.new _ _ _ _ ?_; ((try simp) <;> omega)) | (with_reducible assumption) | (with_reducible refine Blk.at (t := ?_) ?_; rotate_left; with_reducible assumption) | with_reducible refine BlkAt.alloc ?_ _ | with_reducible refine BlkAt.drew ?_ | (with_reducible refine BlkAt.setSame ?_ _ _) | (with_reducible refine BlkAt.setCell ?_ ?_ _; rotate_left; ((try simp) <;> omega)) | (with_reducible refine BlkAt.ext (w := ?_) ?_ ?_; rotate_left 2; (with_reducible assumption)) | fail))); (next => kernel_rfl)) | (go_at_call 22; refine (HC.out _ _ _ hb13).mono ?_; rintro e w4 ⟨v4, rfl, hown4, hb4⟩; obtain ⟨A4, cp4, rfl, hrd4, hf4⟩ := owns_ids hown4) | fail)
  have hb14 := below_ext hb13 hb4
  have HW4 : Hid (Wr w w4 c b rb l.length w1.heap.size ss A1 cap1 A4 os (cutF true bid (srt 1 os)) bid 0) := Lib.hid ⟨HW1.out.two.bs.ext hb14, by rw [List.take_zero, left_nil]; exact HOS.out.symm, by rw [HOS.out]; exact HW1.out.two.rf.ext hb14, hrd4, hS3.ext hb4, below_ext HW1.out.below hb14,
    HW1.out.two.c9.1, HW1.out.two.c9.2, fun a e => ⟨Bk.Bs.out14 HW1.out.two.bs (by have h1 := (hf4 a e).1; have := hb13.size; omega), (hf4 a e).2⟩, Bk.Bs.out14 HW1.out.two.bs (Nat.le_refl _), HW1.out.nine⟩
  have HWF : Hid (∀ o ∈ os, Idx.Wf o.id) := Lib.hid (fun o ho => (Sw.Bs.okk HW1.out.two.bs o (by rw [← HOS.out]; exact ho)).2.2.2)
  have hle4 : (cutF true bid (srt 1 os)).length ≤ 500 := by
    have h1 := cutF_len true bid (srt 1 os)
    have h2 := Sw.srt_le 1 os
    have h3 := HW1.out.two.bs.fewB
    rw [← HOS.out] at h3
    omega
  have hol : os.length ≤ 500 := by
    have h3 := HW1.out.two.bs.fewB
    rwa [← HOS.out] at h3
  have HIDS : Hid (∀ z ∈ cutF true bid (srt 1 os), Idx.Wf z) := Lib.hid (cut_ids HWF.out)
  have HAT := Lib.hid (fun i hi => cut_at (s := bid) (os := os) (by rw [HOS.out]; exact Bk.Bs.ids HW1.out.two.bs) (i := i) hi)
  clear hb14 hb4 hf4 hown4 hrd4 hS3 hb13 hb3 hb2 hn3
  obtain ⟨ids, hids⟩ : ∃ ids, ids = cutF true bid (srt 1 os) := ⟨_, rfl⟩
  rw [← hids] at HW4 hle4 HIDS HAT hmore
  rw [← hids]
  have HI := Lib.hid hids
  clear hids
  obtain ⟨stb, hstb⟩ : ∃ n, n = w1.heap.size := ⟨_, rfl⟩
  rw [← hstb] at HW4
  rw [← hstb]
  clear hstb
  go_loopw [12] (fun iv wr => ∃ (i : Nat) (c1 : Nat → Nat) (ss1 : List Sl), iv = .int .i64 i ∧ i ≤ ids.length ∧ Hid (Wr w wr c1 b rb l.length stb ss1 A1 cap1 A4 os ids bid i)) (fun iv _ => ids.length - (intOf iv).toNat)
  case atStart => exact ⟨0, _, _, rfl, Nat.zero_le _, HW4⟩
  case round =>
    obtain ⟨i, c1, ss1, rfl, hi, HW⟩ := hrel
    clear HW4
    by_cases hlt : i < ids.length
    · obtain ⟨ab, ao, rfl, hid⟩ := rd_id HW.out.row hlt
      obtain ⟨o, ho, hmem, hmay, hfnd⟩ := HAT.out i hlt
      rw [ho] at hid
      have HRM : Hid (Calls Try.prog 23 #[.pointer (some ⟨b, 0, none⟩), .int .i64 o.id] wr fun e w' => e = .returned (.tuple #[.agg o.arr, .int .i64 0]) ∧ ∃ c' ss', Bs w' c' b 60 60 (l.length + i + 1) ss' ∧ osOf ss' = rmI o.id (osOf ss1) ∧ Cs c1 c' wr w') := Lib.hid (by
        have h := Bk.remove_any HW.out.bs (id := o.id) (by rw [← ho]; exact HIDS.out _ (List.getElem_mem hlt)) (by have := HL.out; omega)
        rw [HW.out.left, hfnd] at h
        rw [HW.out.left]
        exact h)
      have hMY := Lib.hid (fun W => may_any true bid o W)
      rw [hmay] at hMY
      have HIL := Lib.hid hi
      have HO := Lib.hid ho
      clear hfnd hmay hmem ho hi
      go_wp2_with (first | (go_at_call 23; refine HRM.out.mono ?_; rintro e w5 ⟨rfl, c5, ss5, B5, hos5, hs5⟩; have hX5 := Blk.new w5 43 Are.ord0.arr _ rfl; have hst5 := hs5.blk HW.out.st HW.out.c9.2.2.2.1) | (((with_reducible show wpList _ _ _ (⟨_, .store 43 _ _, _, _, _, _⟩ :: _) _ _); refine wpList_store_blk (by rfl) 43 _ _ (by rfl) _ _ (by rfl) (by rfl) _ _ hX5 (by kernel_rfl) (by rfl) ?_ ?_; (next => first | (simp [Value.oneCell']; done) | (simp [Value.oneCell']; done) | exact Are.ordArr_one _); intro w6 hX6 hU6); have hb56 : Below w5.heap.size w5 w6 := below_upd (by (repeat (first | with_reducible exact Below.refl _ _ | (with_reducible assumption) | (with_reducible refine below_alloc ?_ _) | (with_reducible refine below_ext (w1 := ?_) ?_ ?_; rotate_left 2; (with_reducible assumption)) | (with_reducible refine Below.setCell ?_ ?_ _; rotate_left; ((try simp) <;> omega)) | (with_reducible refine Below.drew ?_) | (with_reducible refine below_drewN ?_ _) | fail))) (Nat.le_refl _) hU6; have hst6 := Blk.ext hst5 hb56) | ((with_reducible show wpList _ _ _ (⟨_, .load 40 _, _, _, _, _⟩ :: _) _ _); refine wpList_load_ho 40 _ (by rfl) (by rfl) ?_ (.pointer (some ⟨_, 0, none⟩)) (by rfl) ?_ _ Try.underlying40 rfl ?_ ?_; rotate_left; (next => (repeat (first | (with_reducible refine BlkAt.new _ _ _ _ ?_; ((try simp) <;> omega)) | (with_reducible assumption) | (with_reducible refine Blk.at (t := ?_) ?_; rotate_left; with_reducible assumption) | with_reducible refine BlkAt.alloc ?_ _ | with_reducible refine BlkAt.drew ?_ | (with_reducible refine BlkAt.setSame ?_ _ _) | (with_reducible refine BlkAt.setCell ?_ ?_ _; rotate_left; ((try simp) <;> omega)) | (with_reducible refine BlkAt.ext (w := ?_) ?_ ?_; rotate_left 2; (with_reducible assumption)) | fail))); (next => kernel_rfl)) | ((with_reducible show wpList _ _ _ (⟨_, .load 43 _, _, _, _, _⟩ :: _) _ _); refine wpList_load_ho 43 _ (by rfl) (by rfl) ?_ (.pointer (some ⟨_, 0, none⟩)) (by rfl) ?_ _ Try.underlying43 rfl ?_ ?_; rotate_left; (next => (repeat (first | (with_reducible refine BlkAt.new _ _ _ _ ?_; ((try simp) <;> omega)) | (with_reducible assumption) | (with_reducible refine Blk.at (t := ?_) ?_; rotate_left; with_reducible assumption) | with_reducible refine BlkAt.alloc ?_ _ | with_reducible refine BlkAt.drew ?_ | (with_reducible refine BlkAt.setSame ?_ _ _) | (with_reducible refine BlkAt.setCell ?_ ?_ _; rotate_left; ((try simp) <;> omega)) | (with_reducible refine BlkAt.ext (w := ?_) ?_ ?_; rotate_left 2; (with_reducible assumption)) | fail))); (next => kernel_rfl)) | (go_at_call 18; refine (hMY.out _).mono ?_; rintro e w7 ⟨rfl, hb67⟩) | fail)
      have W7 := Lib.hid (Wr.next HW.out hlt hs5 (below_ext hb56 hb67) B5 (by rw [HO.out]; exact hos5))
      clear B5 hos5 hs5 hX5 hst5 hX6 hst6 hb56 hb67 HRM hMY
      go_roundw
      case rel => exact ⟨i + 1, c5, ss5, by go_num, by omega, W7⟩
      case measure => (simp [intOf] <;> omega)
    · have hi' : i = ids.length := by omega
      subst hi'
      have HC2 := Lib.hid (fun f s W (hW : Below wr.heap.size wr W) => cut_any (HW.out.bs.ext hW) f s)
      have hos1 : osOf ss1 = leftO ids os := by rw [HW.out.left, List.take_length]
      rw [hos1] at HC2
      have HOS1 := Lib.hid hos1
      have HMY : Hid (∀ o ∈ leftO ids os, mayF true bid o = true) := Lib.hid (fun o ho => left_may (s := bid) (os := os) (by rw [← HI.out]; exact ho))
      have HE1 : Hid (cutF true bid (srt 1 (leftO ids os)) = []) := Lib.hid (by rw [HI.out]; exact cut_left)
      obtain ⟨wz, hwz⟩ : ∃ wz : World, wz = wr := ⟨_, rfl⟩
      rw [← hwz] at HW HC2
      rw [← hwz]
      clear hwz hos1 HAT
      go_wp2_with fail
      go_loopw [15] (fun jv wr => ∃ j : Nat, jv = .int .i64 j ∧ j ≤ os.length ∧ Below wz.heap.size wz wr) (fun jv _ => os.length - (intOf jv).toNat)
      case atStart => exact ⟨0, rfl, Nat.zero_le _, Below.refl _ _⟩
      case round =>
        obtain ⟨j, rfl, hj, hbz⟩ := hrel
        have hRB := HW.out.rf.ext hbz
        have r2 : wr.cell? ⟨rb, 2, none⟩ = some (.slice A1 os.length cap1) := hRB.hd.cell 2
        by_cases hlt2 : j < os.length
        · obtain ⟨ab, ao, rfl, hmid⟩ := Bk.rd_rngB hRB.rd hlt2
          obtain ⟨id, hid2⟩ : ∃ id, id = os[j].id := ⟨_, rfl⟩
          have q0 : wr.cell? ⟨ab, ao + j * 7, none⟩ = some (.int .i64 id) := by rw [hid2]; exact hmid 0 _ rfl
          have HG : Hid (Calls Try.prog 24 #[.pointer (some ⟨b, 0, none⟩), .int .i64 id] wr fun e w' => e = .returned (.tuple #[.agg ((fndI id (leftO ids os)).getD Are.ord0).arr, .bool (fndI id (leftO ids os)).isSome]) ∧ Below wr.heap.size wr w') := Lib.hid (by
            have h := Bk.bget_any (HW.out.bs.ext hbz) (id := id) (by rw [hid2]; exact HWF.out _ (List.getElem_mem hlt2))
            rwa [HOS1.out] at h)
          have HST := Lib.hid (HW.out.st.ext hbz)
          have HJ := Lib.hid hlt2
          clear hid2 hmid
          cases hf : fndI id (leftO ids os) with
          | none =>
            rw [hf] at HG
            clear hf
            go_wp2_with (first | (go_at_call 24; refine HG.out.mono ?_; rintro e w5 ⟨rfl, hb5⟩; have hX5 := Blk.new w5 43 Are.ord0.arr _ rfl) | (((with_reducible show wpList _ _ _ (⟨_, .store 43 _ _, _, _, _, _⟩ :: _) _ _); refine wpList_store_blk (by rfl) 43 _ _ (by rfl) _ _ (by rfl) (by rfl) _ _ hX5 (by kernel_rfl) (by rfl) ?_ ?_; (next => first | (simp [Value.oneCell']; done) | (simp [Value.oneCell']; done) | exact Are.ordArr_one _); intro w6 hX6 hU6); have hb56 : Below w5.heap.size w5 w6 := below_upd (by (repeat (first | with_reducible exact Below.refl _ _ | (with_reducible assumption) | (with_reducible refine below_alloc ?_ _) | (with_reducible refine below_ext (w1 := ?_) ?_ ?_; rotate_left 2; (with_reducible assumption)) | (with_reducible refine Below.setCell ?_ ?_ _; rotate_left; ((try simp) <;> omega)) | (with_reducible refine Below.drew ?_) | (with_reducible refine below_drewN ?_ _) | fail))) (Nat.le_refl _) hU6) | fail)
            go_roundw
            case rel => exact ⟨j + 1, by go_num, HJ.out, below_ext (below_ext hbz hb5) hb56⟩
            case measure => (have := HJ.out; simp [intOf]; omega)
          | some o =>
            have hmo := HMY.out o (left_fnd id o hf)
            have hMY2 := Lib.hid (fun W => may_any true bid o W)
            rw [hmo] at hMY2
            rw [hf] at HG
            clear hf hmo
            go_wp2_with (first | (go_at_call 24; refine HG.out.mono ?_; rintro e w5 ⟨rfl, hb5⟩; have hX5 := Blk.new w5 43 Are.ord0.arr _ rfl; have hS5 := HST.out.ext hb5) | (((with_reducible show wpList _ _ _ (⟨_, .store 43 _ _, _, _, _, _⟩ :: _) _ _); refine wpList_store_blk (by rfl) 43 _ _ (by rfl) _ _ (by rfl) (by rfl) _ _ hX5 (by kernel_rfl) (by rfl) ?_ ?_; (next => first | (simp [Value.oneCell']; done) | (simp [Value.oneCell']; done) | exact Are.ordArr_one _); intro w6 hX6 hU6); have hb56 : Below w5.heap.size w5 w6 := below_upd (by (repeat (first | with_reducible exact Below.refl _ _ | (with_reducible assumption) | (with_reducible refine below_alloc ?_ _) | (with_reducible refine below_ext (w1 := ?_) ?_ ?_; rotate_left 2; (with_reducible assumption)) | (with_reducible refine Below.setCell ?_ ?_ _; rotate_left; ((try simp) <;> omega)) | (with_reducible refine Below.drew ?_) | (with_reducible refine below_drewN ?_ _) | fail))) (Nat.le_refl _) hU6; have hS6 := Blk.ext hS5 hb56) | ((with_reducible show wpList _ _ _ (⟨_, .load 40 _, _, _, _, _⟩ :: _) _ _); refine wpList_load_ho 40 _ (by rfl) (by rfl) ?_ (.pointer (some ⟨_, 0, none⟩)) (by rfl) ?_ _ Try.underlying40 rfl ?_ ?_; rotate_left; (next => (repeat (first | (with_reducible refine BlkAt.new _ _ _ _ ?_; ((try simp) <;> omega)) | (with_reducible assumption) | (with_reducible refine Blk.at (t := ?_) ?_; rotate_left; with_reducible assumption) | with_reducible refine BlkAt.alloc ?_ _ | with_reducible refine BlkAt.drew ?_ | (with_reducible refine BlkAt.setSame ?_ _ _) | (with_reducible refine BlkAt.setCell ?_ ?_ _; rotate_left; ((try simp) <;> omega)) | (with_reducible refine BlkAt.ext (w := ?_) ?_ ?_; rotate_left 2; (with_reducible assumption)) | fail))); (next => kernel_rfl)) | ((with_reducible show wpList _ _ _ (⟨_, .load 43 _, _, _, _, _⟩ :: _) _ _); refine wpList_load_ho 43 _ (by rfl) (by rfl) ?_ (.pointer (some ⟨_, 0, none⟩)) (by rfl) ?_ _ Try.underlying43 rfl ?_ ?_; rotate_left; (next => (repeat (first | (with_reducible refine BlkAt.new _ _ _ _ ?_; ((try simp) <;> omega)) | (with_reducible assumption) | (with_reducible refine Blk.at (t := ?_) ?_; rotate_left; with_reducible assumption) | with_reducible refine BlkAt.alloc ?_ _ | with_reducible refine BlkAt.drew ?_ | (with_reducible refine BlkAt.setSame ?_ _ _) | (with_reducible refine BlkAt.setCell ?_ ?_ _; rotate_left; ((try simp) <;> omega)) | (with_reducible refine BlkAt.ext (w := ?_) ?_ ?_; rotate_left 2; (with_reducible assumption)) | fail))); (next => kernel_rfl)) | (go_at_call 18; refine (hMY2.out _).mono ?_; rintro e w7 ⟨rfl, hb67⟩) | fail)
            go_roundw
            case rel => exact ⟨j + 1, by go_num, HJ.out, below_ext (below_ext (below_ext hbz hb5) hb56) hb67⟩
            case measure => (have := HJ.out; simp [intOf]; omega)
        · have hj' : j = os.length := by omega
          subst hj'
          have hS := HW.out.st.ext hbz
          have HBW := Lib.hid (below_ext HW.out.below hbz)
          have hBr := Below.refl wr.heap.size wr
          have HC3 := Lib.hid (fun f s W (hW : Below wr.heap.size wr W) => HC2.out f s W (below_ext hbz hW))
          go_wp2_with (first | ((with_reducible show wpList _ _ _ (⟨_, .load 40 _, _, _, _, _⟩ :: _) _ _); refine wpList_load_ho 40 _ (by rfl) (by rfl) ?_ (.pointer (some ⟨_, 0, none⟩)) (by rfl) ?_ _ Try.underlying40 rfl ?_ ?_; rotate_left; (next => (repeat (first | (with_reducible refine BlkAt.new _ _ _ _ ?_; ((try simp) <;> omega)) | (with_reducible assumption) | (with_reducible refine Blk.at (t := ?_) ?_; rotate_left; with_reducible assumption) | with_reducible refine BlkAt.alloc ?_ _ | with_reducible refine BlkAt.drew ?_ | (with_reducible refine BlkAt.setSame ?_ _ _) | (with_reducible refine BlkAt.setCell ?_ ?_ _; rotate_left; ((try simp) <;> omega)) | (with_reducible refine BlkAt.ext (w := ?_) ?_ ?_; rotate_left 2; (with_reducible assumption)) | fail))); (next => kernel_rfl)) | fail)
          refine (HC3.out _ _ _ (Below.refl _ _)).mono ?_
          rintro e w5 ⟨v5, rfl, hown5, hb5⟩
          rw [HE1.out] at hown5
          obtain ⟨A5, cp5, rfl, _⟩ := owns_ids hown5
          clear hown5
          go_wp2_with fail
          refine (HC3.out _ _ _ hb5).mono ?_
          rintro e w6 ⟨v6, rfl, hown6, hb6⟩
          rw [cut_off] at hown6
          obtain ⟨A6, cp6, rfl, _⟩ := owns_ids hown6
          clear hown6
          go_wp2_with (first | (go_at_call 21; refine (alive_any _).mono ?_; rintro e w7 ⟨rfl, hb7⟩) | fail)
          go_ret
          exact ⟨rfl, below_ext HBW.out (below_ext hb5 (below_ext hb6 hb7))⟩
theorem rests_law (l : List Ord) (bid more : Int) (hwf : ∀ o ∈ l, Idx.Wf o.id) (A : Option Addr) (cap : Nat) (w : World) (hr : Rd w 7 A (l.map Ord.cells)) (hml : l.length ≤ maxLen) :
    Calls Try.prog 5 #[.slice A l.length cap, .int .i64 bid, .int .i64 more] w fun e w' => e = .returned (.bool true) ∧ Below w.heap.size w w' := by
  by_cases hgood : l.length ≤ 60 ∧ 0 ≤ bid ∧ bid ≤ more
  · exact rests_main l bid more hgood.2 hwf A cap w hr hgood.1
  · unfold maxLen at hml
    clear hr hwf
    by_cases h60 : l.length ≤ 60
    · have h61 : ¬ (60 : Int) < l.length := by omega
      by_cases h0 : bid < 0
      · have h1 : decide (bid < 0) = true := decide_eq_true h0
        clear hgood
        go_enter Try.func5, Try.ntmps5
        go_wp2_with (first | (go_at_call 21; refine (alive_any _).mono ?_; rintro e w2 ⟨rfl, hb2⟩) | fail)
        go_ret
        exact ⟨rfl, hb2⟩
      · have h2 : more < bid := by
          rcases Int.lt_or_le more bid with h | h
          · exact h
          · exact absurd ⟨h60, by omega, h⟩ hgood
        have h1 : decide (more < bid) = true := decide_eq_true h2
        have h3 : decide (bid < 0) = false := decide_eq_false h0
        clear hgood
        go_enter Try.func5, Try.ntmps5
        go_wp2_with (first | (go_at_call 21; refine (alive_any _).mono ?_; rintro e w2 ⟨rfl, hb2⟩) | fail)
        go_ret
        exact ⟨rfl, hb2⟩
    · have h61 : (60 : Int) < l.length := by omega
      clear hgood
      go_enter Try.func5, Try.ntmps5
      go_wp2_with (first | (go_at_call 21; refine (alive_any _).mono ?_; rintro e w2 ⟨rfl, hb2⟩) | fail)
      go_ret
      exact ⟨rfl, hb2⟩
theorem fitOrdW {vs : List Value} (h : fits (List.replicate 7 K) vs) : ∃ s : Ord, vs = s.cells ∧ Idx.Wf s.id := by
  obtain ⟨a0, _, rfl, b0, h⟩ := fitInt h
  obtain ⟨a1, _, rfl, b1, h⟩ := fitInt h
  obtain ⟨a2, _, rfl, b2, h⟩ := fitInt h
  obtain ⟨a3, _, rfl, b3, h⟩ := fitInt h
  obtain ⟨a4, _, rfl, b4, h⟩ := fitInt h
  obtain ⟨a5, _, rfl, b5, h⟩ := fitInt h
  obtain ⟨a6, _, rfl, b6, h⟩ := fitInt h
  obtain rfl := fitNil h
  exact ⟨⟨a0, a1, a2, a3, a4, a5, a6⟩, rfl, WalkArith.wf_i64 b0⟩
open Go.ChangeShapes Go.WideShapes Go.ChangeAt Go.Deep
set_option maxRecDepth 100000 in
theorem argsShortRests (H : Type) (enc : TypeId × Value → H) (W : World) (args : Array Value) (hargs : Args Try.checked H enc [22, 2, 2] W args) :
    Calls Try.prog 5 args W fun e W' => e = .returned (.bool true) ∧ Below W.heap.size W W' := by
  obtain ⟨base, ds, p, hval, hA⟩ := hargs
  obtain ⟨v0, vs0, d0, ds0, p0, q0, hargs, rfl, rfl, h0, r0⟩ := trodAll_cons hA
  obtain ⟨v1, vs1, d1, ds1, p1, q1, rfl, rfl, rfl, h1, r1⟩ := trodAll_cons r0
  obtain ⟨v2, vs2, d2, ds2, p2, q2, rfl, rfl, rfl, h2, r2⟩ := trodAll_cons r1
  obtain ⟨rfl, rfl, rfl⟩ := trodAll_nil r2
  obtain rfl : args = #[v0, v1, v2] := by cases args; simp_all
  obtain ⟨A, la, ca, rows, rfl, hla, hlc, hca, hfa, ha⟩ := open_rows (ks := List.replicate 7 K) 5 Try.underlying22 (by kernel_rfl) (by kernel_rfl) (by decide) (hval 0 _ v0 rfl rfl) h0
  obtain ⟨xs, rfl, hwf⟩ := rowsOf (fun vs h => fitOrdW h) rows hfa
  obtain ⟨s, rfl, _⟩ := open_int Try.underlying2 (hval 1 _ v1 rfl rfl) h1
  obtain ⟨lim, rfl, _⟩ := open_int Try.underlying2 (hval 2 _ v2 rfl rfl) h2
  rw [List.length_map] at hla
  subst hla
  exact rests_law xs s lim hwf A ca W ha (by omega)
theorem ownShortRests : ownKnob Try.prog.godebug = none := by kernel_rfl
theorem laidShortRests : laidOutB Try.prog = true := by kernel_rfl
set_option maxRecDepth 100000 in
theorem liftedShortRests (os : Os) (started : os.Started) (H : Type) (enc : TypeId × Value → H) :
    ReturnsInHanded {} Try.checked os 5 .any (Rows.shortRestsSpec.pre6 enc Try.prog Try.f5 Rows.shortRestsRow.domain false) (Rows.shortRestsSpec.post enc Try.prog Try.f5 false true false false) :=
  law_lifted (C := Try.checked) (ts := [22, 2, 2]) (tb := 4) ownShortRests laidShortRests started (by kernel_rfl) Try.func5 (by kernel_rfl)
    (ChangeSpec.witness6 (enc := enc) (C := Try.checked) false ⟨#[], #[.slice none 0 0, .int .i64 0, .int .i64 0], []⟩ 8 (by kernel_rfl) (by kernel_rfl) (by kernel_rfl) (by kernel_rfl))
    rfl (by kernel_rfl) Try.underlying4 (by kernel_rfl)
    (fun ds h => by
      match ds, h with
      | [d0, d1, d2], _ => rfl)
    (fun W args h => argsShortRests H enc W args h)
theorem provedShortRests : Rows.ShortRestsSaid :=
  OpenClaim.holds_of_wide 5 Try.f5 rfl rfl rfl rfl rfl rfl rfl ⟨rfl, rfl, rfl, rfl, rfl⟩ rfl rfl rfl rfl rfl (by kernel_rfl) Try.func5 (by kernel_rfl)
    (of_decide_eq_true (by kernel_rfl)) (by unfold Func.isWrapper; first | (rw [if_pos (by decide +kernel)]; kernel_rfl) | (rw [if_neg (by decide +kernel)]; exact ⟨rfl, rfl⟩))
    (fun os started H enc _ => liftedShortRests os started H enc)
#print axioms provedShortRests
end Sho
end Go.Proofs.Ytgaialcbpglhaaa
