/- This text proves the contract of fifo's Remove, case by case: contracts of the package fifo: New, Push, Front, Pop, Remove, Of, Len, over links that are held as data. It has no conditions but those that they state. -/
import Derived.Test.YtgaialcbpglhaaaFifo
namespace Go.Proofs.Ytgaialcbpglhaaa
set_option linter.unusedVariables false
open Go.RowKit
namespace Fif
set_option maxHeartbeats 4000000
set_option maxRecDepth 10000
/-! ### Remove -/
section
variable {w : World} {g bn be N Q : Nat} {s : Fs} {cn ce : Array Value} {L : Nat → List Nat}
theorem rem_nn (f : FH w g bn be N Q s cn ce) (I : Inv N Q s L) (i n : Nat) (a b : List Nat) (hi : i < Q) (he : L i = a ++ n :: b) (ha : a = []) (hb : b = []) (hlen : (L i).length ≤ 500) : Calls Try.prog 118 #[.pointer (some ⟨g, 0, none⟩), .int .i64 n] w fun e w' => e = .returned (.tuple #[.int .i64 i, .bool true]) ∧ (∃ cn' ce', FH w' g bn be N Q (remS s i n a b) cn' ce') ∧ ButL [bn, be] w.heap.size w w' := by
  obtain ⟨l1, l2, l3⟩ := I.link i hi a n b he
  have hla : la a = (-1) := by rw [ha]; rfl
  have hhb : hd b = (-1) := by rw [hb]; rfl
  rw [hla] at l2
  rw [hhb] at l3
  have hn : n < N := I.lt i hi n (by rw [he]; simp)
  have hen : s.en i = ((L i).length : Int) := I.en i hi
  have hpos : 1 ≤ (L i).length := by rw [he]; simp; omega
  obtain ⟨m0, m1, m2⟩ := f.n hn
  rw [l2] at m0
  rw [l3] at m1
  rw [l1] at m2
  have HO := Lib.hid (of_yes f n i hn l1)
  have hce := f.te.1
  have hcn := f.tn.1
  have hlim := f.lim
  have hne := f.ne
  have hhd := f.hd
  have hlt := f.hd.lt
  have hltn := f.fbn.lt
  have hlte := f.fbe.lt
  have hbn := f.fbn
  have hbe := f.fbe
  have hni : i * 3 + 2 < ce.size := by omega
  have hnn : n * 3 + 2 < cn.size := by omega
  have HA := Lib.hid ha
  have HB := Lib.hid hb
  have HLA := Lib.hid hla
  have HHB := Lib.hid hhb
  have HN := Lib.hid hen
  clear ha hb hla hhb hen he l1 l2 l3 I
  have HH : ∀ W, Below w.heap.size w W → Blk W g _ _ := fun W hW => hhd.ext hW
  go_enter Try.func118, Try.ntmps118
  go_wp2_with (first | (go_at_call 149; refine HO.out.mono ?_; rintro e w' ⟨rfl, rfl⟩) | fail)
  go_region_held3 (fun w' => w'.cell? ⟨bn, n * 3, none⟩ = some (.int .i64 (-1)) ∧ w'.cell? ⟨bn, n * 3 + 1, none⟩ = some (.int .i64 (-1)) ∧ w'.cell? ⟨bn, n * 3 + 2, none⟩ = some (.int .i64 i)) (go_keep) (first | (go_at_call 113; refine (node_yes (HH _ (by (repeat (first | with_reducible exact Below.refl _ _ | (with_reducible assumption) | (with_reducible refine below_alloc ?_ _) | (with_reducible refine below_ext (w1 := ?_) ?_ ?_; rotate_left 2; (with_reducible assumption)) | (with_reducible refine Below.setCell ?_ ?_ _; rotate_left; ((try simp) <;> omega)) | (with_reducible refine Below.drew ?_) | (with_reducible refine below_drewN ?_ _) | fail)))) hlim n hn).mono ?_; rintro e w'' ⟨rfl, rfl⟩) | (go_at_call 112; refine (queue_yes (HH _ (by (repeat (first | with_reducible exact Below.refl _ _ | (with_reducible assumption) | (with_reducible refine below_alloc ?_ _) | (with_reducible refine below_ext (w1 := ?_) ?_ ?_; rotate_left 2; (with_reducible assumption)) | (with_reducible refine Below.setCell ?_ ?_ _; rotate_left; ((try simp) <;> omega)) | (with_reducible refine Below.drew ?_) | (with_reducible refine below_drewN ?_ _) | fail)))) hlim i hi).mono ?_; rintro e w'' ⟨rfl, rfl⟩))
  all_goals
    have hR2 : Blk (w.alloc (.cells #[.int .i64 (-1), .int .i64 (-1), .int .i64 i] 190)).drew w.heap.size 190 #[.int .i64 (-1), .int .i64 (-1), .int .i64 i] := (Blk.new _ _ _ _ rfl).drew
    have hb2 : Below w.heap.size w (w.alloc (.cells #[.int .i64 (-1), .int .i64 (-1), .int .i64 i] 190)).drew := by (repeat (first | with_reducible exact Below.refl _ _ | (with_reducible assumption) | (with_reducible refine below_alloc ?_ _) | (with_reducible refine below_ext (w1 := ?_) ?_ ?_; rotate_left 2; (with_reducible assumption)) | (with_reducible refine Below.setCell ?_ ?_ _; rotate_left; ((try simp) <;> omega)) | (with_reducible refine Below.drew ?_) | (with_reducible refine below_drewN ?_ _) | fail))
    generalize (w.alloc (.cells #[.int .i64 (-1), .int .i64 (-1), .int .i64 i] 190)).drew = w2 at *
    have r0 : w2.cell? ⟨w.heap.size, 0, none⟩ = some (.int .i64 (-1)) := hR2.cell 0
    have r1 : w2.cell? ⟨w.heap.size, 1, none⟩ = some (.int .i64 (-1)) := hR2.cell 1
    go_wp2_with fail
    have hhd2 := hhd.ext hb2
    have hbn2 := hbn.ext hb2
    have hbe2 := hbe.ext hb2
    refine (node_no hhd2 hlim (-1) (.inl (by decide))).mono ?_
    rintro e w' ⟨rfl, rfl⟩
    go_wp2_with (first | (((with_reducible show wpList _ _ _ (⟨_, .store _ _ _, _, _, _, _⟩ :: _) _ _); refine wpList_store_fld (by rfl) _ _ _ (by rfl) _ _ (by rfl) _ (by rfl) _ _ hbe2 ?_ ?_ (by rfl) (by rfl) ?_; (next => first | omega | ((try simp) <;> omega)); (next => kernel_rfl); intro w3 hbe3 hU3); replace hbe3 : Blk w3 be 193 (ce.setIfInBounds (i * 3) (.int .i64 (-1))) := hbe3; have hbn3 := hbn2.upd hne.2.2 hU3; have r0' : w3.cell? ⟨w.heap.size, 0, none⟩ = some (.int .i64 (-1)) := (hR2.upd (by omega) hU3).cell 0; have r1' := (hR2.upd (show w.heap.size ≠ _ by omega) hU3).cell 1; simp only [List.getElem?_toArray, List.getElem?_cons_zero, List.getElem?_cons_succ] at r1') | fail)
    have hhd3 := hhd2.upd hne.2.1 hU3
    have hR3 := hR2.upd (show w.heap.size ≠ be by omega) hU3
    have t1n := f.tn
    have t1e := (f.te.set0 hi (-1))
    have u1n := t1n.1
    have u1e := t1e.1
    refine (node_no hhd3 hlim (-1) (.inl (by decide))).mono ?_
    rintro e w' ⟨rfl, rfl⟩
    have t2n := t1n
    have t2e := (t1e.set1 hi (-1))
    have u2n := t2n.1
    have u2e := t2e.1
    have z2 := ((t2e.2 i hi).2.2).trans (by rw [HN.out] : _ = some (Value.int .i64 ((L i).length : Int)))
    go_wp2_with (first | (((with_reducible show wpList _ _ _ (⟨_, .store _ _ _, _, _, _, _⟩ :: _) _ _); refine wpList_store_fld (by rfl) _ _ _ (by rfl) _ _ (by rfl) _ (by rfl) _ _ hbe3 ?_ ?_ (by rfl) (by rfl) ?_; (next => first | omega | ((try simp) <;> omega)); (next => kernel_rfl); intro w4 hbe4 hU4); replace hbe4 : Blk w4 be 193 ((ce.setIfInBounds (i * 3) (.int .i64 (-1))).setIfInBounds (i * 3 + 1) (.int .i64 (-1))) := hbe4; have hbn4 := hbn3.upd hne.2.2 hU4; have g2 : w4.cell? ⟨be, i * 3 + 2, none⟩ = some (.int .i64 ((L i).length : Int)) := (hbe4.cell _).trans z2) | ((with_reducible show wpList _ _ _ (⟨_, .store _ _ _, _, _, _, _⟩ :: _) _ _); refine wpList_store_fld (by rfl) _ _ _ (by rfl) _ _ (by rfl) _ (by rfl) _ _ hbe4 ?_ ?_ (by rfl) (by rfl) ?_; (next => first | omega | ((try simp) <;> omega)); (next => kernel_rfl); intro w5 hbe5 hU5) | fail)
    replace hbe5 : Blk w5 be 193 (((ce.setIfInBounds (i * 3) (.int .i64 (-1))).setIfInBounds (i * 3 + 1) (.int .i64 (-1))).setIfInBounds (i * 3 + 2) (.int .i64 ((L i).length - 1))) := hbe5
    have hhd4 := hhd3.upd hne.2.1 hU4
    have hhd5 := hhd4.upd hne.2.1 hU5
    have hbn5 := hbn4.upd hne.2.2 hU5
    refine wp_region_below_tail 7 (by kernel_rfl) (by kernel_rfl) ?_
    simp only [List.take_succ_cons, List.take_zero, List.drop_succ_cons, List.drop_zero]
    repeat (first | go_big_quiet_skip | (go_big_quiet_want; go_big_quiet_op; go_big_quiet_on) | (refine q_load_fld (by rfl) _ _ (by rfl) (fun _ h => h) _ _ (by rfl) ?_ ?_ ?_ ?_ ?_ ?_; rotate_left; (next => (repeat (first | (with_reducible refine BlkAt.new _ _ _ _ ?_; ((try simp) <;> omega)) | (with_reducible assumption) | (with_reducible refine Blk.at (t := ?_) ?_; rotate_left; with_reducible assumption) | with_reducible refine BlkAt.alloc ?_ _ | with_reducible refine BlkAt.drew ?_ | (with_reducible refine BlkAt.setSame ?_ _ _) | (with_reducible refine BlkAt.setCell ?_ ?_ _; rotate_left; ((try simp) <;> omega)) | (with_reducible refine BlkAt.ext (w := ?_) ?_ ?_; rotate_left 2; (with_reducible assumption)) | fail))); rotate_left; (next => first | (simp only [go_sem]; rfl) | rfl); (next => kernel_rfl); (try simp only [Act.put, List.setIfInBounds_toArray, List.set_cons_zero, List.set_cons_succ])) | (refine q_rem (by rfl) _ _ _ _ (by rfl) _ _ (by rfl) (by rfl) (by kernel_rfl) (by kernel_rfl) ?_ ?_; (next => omega); (try simp only [Act.put, List.setIfInBounds_toArray, List.set_cons_zero, List.set_cons_succ])) | (refine q_step_ex (by rfl) ?_; apply Exists.intro; refine ⟨fun W hW => ?_, ?_⟩; (next => (have hWc := fun (b o : Nat) (h : b < _) => (Ext.out hW).cell (p := ⟨b, o, none⟩) h); (try have hLK := HLK.out W (Ext.out hW)); go_simp; first | rfl | (go_at_call 105; refine (loose_any _).mono ?_; rintro e w'' ⟨rfl, hb3⟩; exact ⟨rfl, below_ext hW hb3⟩) | fail); (try simp only [Act.put, List.setIfInBounds_toArray, List.set_cons_zero, List.set_cons_succ])) | fail)
    refine wpQuiet_nil ?_
    intro wr hbr
    have hbn6 := hbn5.ext hbr
    ((with_reducible show wpList _ _ _ (⟨_, .store _ _ _, _, _, _, _⟩ :: _) _ _); refine wpList_store_put (by rfl) _ _ _ (by rfl) _ _ _ (by rfl) (by rfl) _ _ hbn6 ?_ ?_ ?_ ?_; (next => kernel_rfl); (next => rw [rfl3]; omega); (next => first | exact slotArr_one _ _ | exact ordArr_one _ | (simp [Value.oneCell']; done)); intro w7 hbn7 hU7)
    go_wp2_with fail
    go_ret2
    have z3 := hU3.size
    have z4 := hU4.size
    have z5 := hU5.size
    have z0 := hb2.size
    have ha := HA.out
    have hb := HB.out
    have hla := HLA.out
    have hhb := HHB.out
    refine ⟨rfl, ⟨_, _, ⟨(hhd5.ext hbr).upd hne.1 hU7, hbn7, (hbe5.ext hbr).upd (Ne.symm hne.2.2) hU7, (t2n.all hn (-1) (-1) (-1)).eq ?_ ?_ ?_, (t2e.set2 hi (((L i).length : Int) - 1)).eq ?_ ?_ ?_, hne, hlim⟩⟩, (((((ButL.of_below hb2).upd (by simp) hU3).upd (by simp) hU4).upd (by simp) hU5).ext (by omega) hbr).upd (by simp) hU7⟩
    · simp [remS, ha, hb, la_nil, hd]
    · simp [remS, ha, hb, la_nil, hd]
    · simp [remS]
    · simp [remS, ha, hb, hd]
    · simp [remS, ha, hb, la_nil]
    · simp [remS, HN.out]
theorem rem_nb (f : FH w g bn be N Q s cn ce) (I : Inv N Q s L) (i n : Nat) (a b : List Nat) (hi : i < Q) (he : L i = a ++ n :: b) (ha : a = []) (y : Nat) (b0 : List Nat) (hb : b = y :: b0) (hlen : (L i).length ≤ 500) : Calls Try.prog 118 #[.pointer (some ⟨g, 0, none⟩), .int .i64 n] w fun e w' => e = .returned (.tuple #[.int .i64 i, .bool true]) ∧ (∃ cn' ce', FH w' g bn be N Q (remS s i n a b) cn' ce') ∧ ButL [bn, be] w.heap.size w w' := by
  obtain ⟨l1, l2, l3⟩ := I.link i hi a n b he
  have hla : la a = (-1) := by rw [ha]; rfl
  have hhb : hd b = y := by rw [hb]; rfl
  rw [hla] at l2
  rw [hhb] at l3
  have hn : n < N := I.lt i hi n (by rw [he]; simp)
  have hen : s.en i = ((L i).length : Int) := I.en i hi
  have hpos : 1 ≤ (L i).length := by rw [he]; simp; omega
  have hy : y < N := I.lt i hi y (by rw [he, hb]; simp)
  obtain ⟨m0, m1, m2⟩ := f.n hn
  rw [l2] at m0
  rw [l3] at m1
  rw [l1] at m2
  have HO := Lib.hid (of_yes f n i hn l1)
  have hce := f.te.1
  have hcn := f.tn.1
  have hlim := f.lim
  have hne := f.ne
  have hhd := f.hd
  have hlt := f.hd.lt
  have hltn := f.fbn.lt
  have hlte := f.fbe.lt
  have hbn := f.fbn
  have hbe := f.fbe
  have hni : i * 3 + 2 < ce.size := by omega
  have hnn : n * 3 + 2 < cn.size := by omega
  have hny : y * 3 + 2 < cn.size := by omega
  have HA := Lib.hid ha
  have HB := Lib.hid hb
  have HLA := Lib.hid hla
  have HHB := Lib.hid hhb
  have HN := Lib.hid hen
  clear ha hb hla hhb hen he l1 l2 l3 I
  have HH : ∀ W, Below w.heap.size w W → Blk W g _ _ := fun W hW => hhd.ext hW
  go_enter Try.func118, Try.ntmps118
  go_wp2_with (first | (go_at_call 149; refine HO.out.mono ?_; rintro e w' ⟨rfl, rfl⟩) | fail)
  go_region_held3 (fun w' => w'.cell? ⟨bn, n * 3, none⟩ = some (.int .i64 (-1)) ∧ w'.cell? ⟨bn, n * 3 + 1, none⟩ = some (.int .i64 y) ∧ w'.cell? ⟨bn, n * 3 + 2, none⟩ = some (.int .i64 i)) (go_keep) (first | (go_at_call 113; refine (node_yes (HH _ (by (repeat (first | with_reducible exact Below.refl _ _ | (with_reducible assumption) | (with_reducible refine below_alloc ?_ _) | (with_reducible refine below_ext (w1 := ?_) ?_ ?_; rotate_left 2; (with_reducible assumption)) | (with_reducible refine Below.setCell ?_ ?_ _; rotate_left; ((try simp) <;> omega)) | (with_reducible refine Below.drew ?_) | (with_reducible refine below_drewN ?_ _) | fail)))) hlim n hn).mono ?_; rintro e w'' ⟨rfl, rfl⟩) | (go_at_call 112; refine (queue_yes (HH _ (by (repeat (first | with_reducible exact Below.refl _ _ | (with_reducible assumption) | (with_reducible refine below_alloc ?_ _) | (with_reducible refine below_ext (w1 := ?_) ?_ ?_; rotate_left 2; (with_reducible assumption)) | (with_reducible refine Below.setCell ?_ ?_ _; rotate_left; ((try simp) <;> omega)) | (with_reducible refine Below.drew ?_) | (with_reducible refine below_drewN ?_ _) | fail)))) hlim i hi).mono ?_; rintro e w'' ⟨rfl, rfl⟩))
  all_goals
    have hR2 : Blk (w.alloc (.cells #[.int .i64 (-1), .int .i64 y, .int .i64 i] 190)).drew w.heap.size 190 #[.int .i64 (-1), .int .i64 y, .int .i64 i] := (Blk.new _ _ _ _ rfl).drew
    have hb2 : Below w.heap.size w (w.alloc (.cells #[.int .i64 (-1), .int .i64 y, .int .i64 i] 190)).drew := by (repeat (first | with_reducible exact Below.refl _ _ | (with_reducible assumption) | (with_reducible refine below_alloc ?_ _) | (with_reducible refine below_ext (w1 := ?_) ?_ ?_; rotate_left 2; (with_reducible assumption)) | (with_reducible refine Below.setCell ?_ ?_ _; rotate_left; ((try simp) <;> omega)) | (with_reducible refine Below.drew ?_) | (with_reducible refine below_drewN ?_ _) | fail))
    generalize (w.alloc (.cells #[.int .i64 (-1), .int .i64 y, .int .i64 i] 190)).drew = w2 at *
    have r0 : w2.cell? ⟨w.heap.size, 0, none⟩ = some (.int .i64 (-1)) := hR2.cell 0
    have r1 : w2.cell? ⟨w.heap.size, 1, none⟩ = some (.int .i64 y) := hR2.cell 1
    go_wp2_with fail
    have hhd2 := hhd.ext hb2
    have hbn2 := hbn.ext hb2
    have hbe2 := hbe.ext hb2
    refine (node_no hhd2 hlim (-1) (.inl (by decide))).mono ?_
    rintro e w' ⟨rfl, rfl⟩
    go_wp2_with (first | (((with_reducible show wpList _ _ _ (⟨_, .store _ _ _, _, _, _, _⟩ :: _) _ _); refine wpList_store_fld (by rfl) _ _ _ (by rfl) _ _ (by rfl) _ (by rfl) _ _ hbe2 ?_ ?_ (by rfl) (by rfl) ?_; (next => first | omega | ((try simp) <;> omega)); (next => kernel_rfl); intro w3 hbe3 hU3); replace hbe3 : Blk w3 be 193 (ce.setIfInBounds (i * 3) (.int .i64 y)) := hbe3; have hbn3 := hbn2.upd hne.2.2 hU3; have r0' : w3.cell? ⟨w.heap.size, 0, none⟩ = some (.int .i64 (-1)) := (hR2.upd (by omega) hU3).cell 0; have r1' := (hR2.upd (show w.heap.size ≠ _ by omega) hU3).cell 1; simp only [List.getElem?_toArray, List.getElem?_cons_zero, List.getElem?_cons_succ] at r1') | fail)
    have hhd3 := hhd2.upd hne.2.1 hU3
    have hR3 := hR2.upd (show w.heap.size ≠ be by omega) hU3
    have t1n := f.tn
    have t1e := (f.te.set0 hi y)
    have u1n := t1n.1
    have u1e := t1e.1
    refine (node_yes hhd3 hlim y hy).mono ?_
    rintro e w' ⟨rfl, rfl⟩
    have t2n := (t1n.set0 hy (-1))
    have t2e := t1e
    have u2n := t2n.1
    have u2e := t2e.1
    have z2 := ((t2e.2 i hi).2.2).trans (by rw [HN.out] : _ = some (Value.int .i64 ((L i).length : Int)))
    go_wp2_with (first | (((with_reducible show wpList _ _ _ (⟨_, .store _ _ _, _, _, _, _⟩ :: _) _ _); refine wpList_store_fld (by rfl) _ _ _ (by rfl) _ _ (by rfl) _ (by rfl) _ _ hbn3 ?_ ?_ (by rfl) (by rfl) ?_; (next => first | omega | ((try simp) <;> omega)); (next => kernel_rfl); intro w4 hbn4 hU4); replace hbn4 : Blk w4 bn 190 ((cn).setIfInBounds (y * 3) (.int .i64 (-1))) := hbn4; have hbe4 := hbe3.upd (Ne.symm hne.2.2) hU4; have g2 : w4.cell? ⟨be, i * 3 + 2, none⟩ = some (.int .i64 ((L i).length : Int)) := (hbe4.cell _).trans z2) | ((with_reducible show wpList _ _ _ (⟨_, .store _ _ _, _, _, _, _⟩ :: _) _ _); refine wpList_store_fld (by rfl) _ _ _ (by rfl) _ _ (by rfl) _ (by rfl) _ _ hbe4 ?_ ?_ (by rfl) (by rfl) ?_; (next => first | omega | ((try simp) <;> omega)); (next => kernel_rfl); intro w5 hbe5 hU5) | fail)
    replace hbe5 : Blk w5 be 193 ((ce.setIfInBounds (i * 3) (.int .i64 y)).setIfInBounds (i * 3 + 2) (.int .i64 ((L i).length - 1))) := hbe5
    have hhd4 := hhd3.upd hne.1 hU4
    have hhd5 := hhd4.upd hne.2.1 hU5
    have hbn5 := hbn4.upd hne.2.2 hU5
    refine wp_region_below_tail 7 (by kernel_rfl) (by kernel_rfl) ?_
    simp only [List.take_succ_cons, List.take_zero, List.drop_succ_cons, List.drop_zero]
    repeat (first | go_big_quiet_skip | (go_big_quiet_want; go_big_quiet_op; go_big_quiet_on) | (refine q_load_fld (by rfl) _ _ (by rfl) (fun _ h => h) _ _ (by rfl) ?_ ?_ ?_ ?_ ?_ ?_; rotate_left; (next => (repeat (first | (with_reducible refine BlkAt.new _ _ _ _ ?_; ((try simp) <;> omega)) | (with_reducible assumption) | (with_reducible refine Blk.at (t := ?_) ?_; rotate_left; with_reducible assumption) | with_reducible refine BlkAt.alloc ?_ _ | with_reducible refine BlkAt.drew ?_ | (with_reducible refine BlkAt.setSame ?_ _ _) | (with_reducible refine BlkAt.setCell ?_ ?_ _; rotate_left; ((try simp) <;> omega)) | (with_reducible refine BlkAt.ext (w := ?_) ?_ ?_; rotate_left 2; (with_reducible assumption)) | fail))); rotate_left; (next => first | (simp only [go_sem]; rfl) | rfl); (next => kernel_rfl); (try simp only [Act.put, List.setIfInBounds_toArray, List.set_cons_zero, List.set_cons_succ])) | (refine q_rem (by rfl) _ _ _ _ (by rfl) _ _ (by rfl) (by rfl) (by kernel_rfl) (by kernel_rfl) ?_ ?_; (next => omega); (try simp only [Act.put, List.setIfInBounds_toArray, List.set_cons_zero, List.set_cons_succ])) | (refine q_step_ex (by rfl) ?_; apply Exists.intro; refine ⟨fun W hW => ?_, ?_⟩; (next => (have hWc := fun (b o : Nat) (h : b < _) => (Ext.out hW).cell (p := ⟨b, o, none⟩) h); (try have hLK := HLK.out W (Ext.out hW)); go_simp; first | rfl | (go_at_call 105; refine (loose_any _).mono ?_; rintro e w'' ⟨rfl, hb3⟩; exact ⟨rfl, below_ext hW hb3⟩) | fail); (try simp only [Act.put, List.setIfInBounds_toArray, List.set_cons_zero, List.set_cons_succ])) | fail)
    refine wpQuiet_nil ?_
    intro wr hbr
    have hbn6 := hbn5.ext hbr
    ((with_reducible show wpList _ _ _ (⟨_, .store _ _ _, _, _, _, _⟩ :: _) _ _); refine wpList_store_put (by rfl) _ _ _ (by rfl) _ _ _ (by rfl) (by rfl) _ _ hbn6 ?_ ?_ ?_ ?_; (next => kernel_rfl); (next => rw [rfl3]; omega); (next => first | exact slotArr_one _ _ | exact ordArr_one _ | (simp [Value.oneCell']; done)); intro w7 hbn7 hU7)
    go_wp2_with fail
    go_ret2
    have z3 := hU3.size
    have z4 := hU4.size
    have z5 := hU5.size
    have z0 := hb2.size
    have ha := HA.out
    have hb := HB.out
    have hla := HLA.out
    have hhb := HHB.out
    refine ⟨rfl, ⟨_, _, ⟨(hhd5.ext hbr).upd hne.1 hU7, hbn7, (hbe5.ext hbr).upd (Ne.symm hne.2.2) hU7, (t2n.all hn (-1) (-1) (-1)).eq ?_ ?_ ?_, (t2e.set2 hi (((L i).length : Int) - 1)).eq ?_ ?_ ?_, hne, hlim⟩⟩, (((((ButL.of_below hb2).upd (by simp) hU3).upd (by simp) hU4).upd (by simp) hU5).ext (by omega) hbr).upd (by simp) hU7⟩
    · simp [remS, ha, hb, la_nil, hd]
    · simp [remS, ha, hb, la_nil, hd]
    · simp [remS]
    · simp [remS, ha, hb, hd]
    · simp [remS, ha, hb, la_nil]
    · simp [remS, HN.out]
theorem rem_an (f : FH w g bn be N Q s cn ce) (I : Inv N Q s L) (i n : Nat) (a b : List Nat) (hi : i < Q) (he : L i = a ++ n :: b) (p : Nat) (a0 : List Nat) (ha : a = a0 ++ [p]) (hb : b = []) (hlen : (L i).length ≤ 500) : Calls Try.prog 118 #[.pointer (some ⟨g, 0, none⟩), .int .i64 n] w fun e w' => e = .returned (.tuple #[.int .i64 i, .bool true]) ∧ (∃ cn' ce', FH w' g bn be N Q (remS s i n a b) cn' ce') ∧ ButL [bn, be] w.heap.size w w' := by
  obtain ⟨l1, l2, l3⟩ := I.link i hi a n b he
  have hla : la a = p := by rw [ha]; exact la_snoc _ _
  have hhb : hd b = (-1) := by rw [hb]; rfl
  rw [hla] at l2
  rw [hhb] at l3
  have hn : n < N := I.lt i hi n (by rw [he]; simp)
  have hen : s.en i = ((L i).length : Int) := I.en i hi
  have hpos : 1 ≤ (L i).length := by rw [he]; simp; omega
  have hp : p < N := I.lt i hi p (by rw [he, ha]; simp)
  obtain ⟨m0, m1, m2⟩ := f.n hn
  rw [l2] at m0
  rw [l3] at m1
  rw [l1] at m2
  have HO := Lib.hid (of_yes f n i hn l1)
  have hce := f.te.1
  have hcn := f.tn.1
  have hlim := f.lim
  have hne := f.ne
  have hhd := f.hd
  have hlt := f.hd.lt
  have hltn := f.fbn.lt
  have hlte := f.fbe.lt
  have hbn := f.fbn
  have hbe := f.fbe
  have hni : i * 3 + 2 < ce.size := by omega
  have hnn : n * 3 + 2 < cn.size := by omega
  have hnp : p * 3 + 2 < cn.size := by omega
  have HA := Lib.hid ha
  have HB := Lib.hid hb
  have HLA := Lib.hid hla
  have HHB := Lib.hid hhb
  have HN := Lib.hid hen
  clear ha hb hla hhb hen he l1 l2 l3 I
  have HH : ∀ W, Below w.heap.size w W → Blk W g _ _ := fun W hW => hhd.ext hW
  go_enter Try.func118, Try.ntmps118
  go_wp2_with (first | (go_at_call 149; refine HO.out.mono ?_; rintro e w' ⟨rfl, rfl⟩) | fail)
  go_region_held3 (fun w' => w'.cell? ⟨bn, n * 3, none⟩ = some (.int .i64 p) ∧ w'.cell? ⟨bn, n * 3 + 1, none⟩ = some (.int .i64 (-1)) ∧ w'.cell? ⟨bn, n * 3 + 2, none⟩ = some (.int .i64 i)) (go_keep) (first | (go_at_call 113; refine (node_yes (HH _ (by (repeat (first | with_reducible exact Below.refl _ _ | (with_reducible assumption) | (with_reducible refine below_alloc ?_ _) | (with_reducible refine below_ext (w1 := ?_) ?_ ?_; rotate_left 2; (with_reducible assumption)) | (with_reducible refine Below.setCell ?_ ?_ _; rotate_left; ((try simp) <;> omega)) | (with_reducible refine Below.drew ?_) | (with_reducible refine below_drewN ?_ _) | fail)))) hlim n hn).mono ?_; rintro e w'' ⟨rfl, rfl⟩) | (go_at_call 112; refine (queue_yes (HH _ (by (repeat (first | with_reducible exact Below.refl _ _ | (with_reducible assumption) | (with_reducible refine below_alloc ?_ _) | (with_reducible refine below_ext (w1 := ?_) ?_ ?_; rotate_left 2; (with_reducible assumption)) | (with_reducible refine Below.setCell ?_ ?_ _; rotate_left; ((try simp) <;> omega)) | (with_reducible refine Below.drew ?_) | (with_reducible refine below_drewN ?_ _) | fail)))) hlim i hi).mono ?_; rintro e w'' ⟨rfl, rfl⟩))
  all_goals
    have hR2 : Blk (w.alloc (.cells #[.int .i64 p, .int .i64 (-1), .int .i64 i] 190)).drew w.heap.size 190 #[.int .i64 p, .int .i64 (-1), .int .i64 i] := (Blk.new _ _ _ _ rfl).drew
    have hb2 : Below w.heap.size w (w.alloc (.cells #[.int .i64 p, .int .i64 (-1), .int .i64 i] 190)).drew := by (repeat (first | with_reducible exact Below.refl _ _ | (with_reducible assumption) | (with_reducible refine below_alloc ?_ _) | (with_reducible refine below_ext (w1 := ?_) ?_ ?_; rotate_left 2; (with_reducible assumption)) | (with_reducible refine Below.setCell ?_ ?_ _; rotate_left; ((try simp) <;> omega)) | (with_reducible refine Below.drew ?_) | (with_reducible refine below_drewN ?_ _) | fail))
    generalize (w.alloc (.cells #[.int .i64 p, .int .i64 (-1), .int .i64 i] 190)).drew = w2 at *
    have r0 : w2.cell? ⟨w.heap.size, 0, none⟩ = some (.int .i64 p) := hR2.cell 0
    have r1 : w2.cell? ⟨w.heap.size, 1, none⟩ = some (.int .i64 (-1)) := hR2.cell 1
    go_wp2_with fail
    have hhd2 := hhd.ext hb2
    have hbn2 := hbn.ext hb2
    have hbe2 := hbe.ext hb2
    refine (node_yes hhd2 hlim p hp).mono ?_
    rintro e w' ⟨rfl, rfl⟩
    go_wp2_with (first | (((with_reducible show wpList _ _ _ (⟨_, .store _ _ _, _, _, _, _⟩ :: _) _ _); refine wpList_store_fld (by rfl) _ _ _ (by rfl) _ _ (by rfl) _ (by rfl) _ _ hbn2 ?_ ?_ (by rfl) (by rfl) ?_; (next => first | omega | ((try simp) <;> omega)); (next => kernel_rfl); intro w3 hbn3 hU3); replace hbn3 : Blk w3 bn 190 (cn.setIfInBounds (p * 3 + 1) (.int .i64 (-1))) := hbn3; have hbe3 := hbe2.upd (Ne.symm hne.2.2) hU3; have r0' : w3.cell? ⟨w.heap.size, 0, none⟩ = some (.int .i64 p) := (hR2.upd (by omega) hU3).cell 0; have r1' := (hR2.upd (show w.heap.size ≠ _ by omega) hU3).cell 1; simp only [List.getElem?_toArray, List.getElem?_cons_zero, List.getElem?_cons_succ] at r1') | fail)
    have hhd3 := hhd2.upd hne.1 hU3
    have hR3 := hR2.upd (show w.heap.size ≠ bn by omega) hU3
    have t1n := (f.tn.set1 hp (-1))
    have t1e := f.te
    have u1n := t1n.1
    have u1e := t1e.1
    refine (node_no hhd3 hlim (-1) (.inl (by decide))).mono ?_
    rintro e w' ⟨rfl, rfl⟩
    have t2n := t1n
    have t2e := (t1e.set1 hi p)
    have u2n := t2n.1
    have u2e := t2e.1
    have z2 := ((t2e.2 i hi).2.2).trans (by rw [HN.out] : _ = some (Value.int .i64 ((L i).length : Int)))
    go_wp2_with (first | (((with_reducible show wpList _ _ _ (⟨_, .store _ _ _, _, _, _, _⟩ :: _) _ _); refine wpList_store_fld (by rfl) _ _ _ (by rfl) _ _ (by rfl) _ (by rfl) _ _ hbe3 ?_ ?_ (by rfl) (by rfl) ?_; (next => first | omega | ((try simp) <;> omega)); (next => kernel_rfl); intro w4 hbe4 hU4); replace hbe4 : Blk w4 be 193 ((ce).setIfInBounds (i * 3 + 1) (.int .i64 p)) := hbe4; have hbn4 := hbn3.upd hne.2.2 hU4; have g2 : w4.cell? ⟨be, i * 3 + 2, none⟩ = some (.int .i64 ((L i).length : Int)) := (hbe4.cell _).trans z2) | ((with_reducible show wpList _ _ _ (⟨_, .store _ _ _, _, _, _, _⟩ :: _) _ _); refine wpList_store_fld (by rfl) _ _ _ (by rfl) _ _ (by rfl) _ (by rfl) _ _ hbe4 ?_ ?_ (by rfl) (by rfl) ?_; (next => first | omega | ((try simp) <;> omega)); (next => kernel_rfl); intro w5 hbe5 hU5) | fail)
    replace hbe5 : Blk w5 be 193 (((ce).setIfInBounds (i * 3 + 1) (.int .i64 p)).setIfInBounds (i * 3 + 2) (.int .i64 ((L i).length - 1))) := hbe5
    have hhd4 := hhd3.upd hne.2.1 hU4
    have hhd5 := hhd4.upd hne.2.1 hU5
    have hbn5 := hbn4.upd hne.2.2 hU5
    refine wp_region_below_tail 7 (by kernel_rfl) (by kernel_rfl) ?_
    simp only [List.take_succ_cons, List.take_zero, List.drop_succ_cons, List.drop_zero]
    repeat (first | go_big_quiet_skip | (go_big_quiet_want; go_big_quiet_op; go_big_quiet_on) | (refine q_load_fld (by rfl) _ _ (by rfl) (fun _ h => h) _ _ (by rfl) ?_ ?_ ?_ ?_ ?_ ?_; rotate_left; (next => (repeat (first | (with_reducible refine BlkAt.new _ _ _ _ ?_; ((try simp) <;> omega)) | (with_reducible assumption) | (with_reducible refine Blk.at (t := ?_) ?_; rotate_left; with_reducible assumption) | with_reducible refine BlkAt.alloc ?_ _ | with_reducible refine BlkAt.drew ?_ | (with_reducible refine BlkAt.setSame ?_ _ _) | (with_reducible refine BlkAt.setCell ?_ ?_ _; rotate_left; ((try simp) <;> omega)) | (with_reducible refine BlkAt.ext (w := ?_) ?_ ?_; rotate_left 2; (with_reducible assumption)) | fail))); rotate_left; (next => first | (simp only [go_sem]; rfl) | rfl); (next => kernel_rfl); (try simp only [Act.put, List.setIfInBounds_toArray, List.set_cons_zero, List.set_cons_succ])) | (refine q_rem (by rfl) _ _ _ _ (by rfl) _ _ (by rfl) (by rfl) (by kernel_rfl) (by kernel_rfl) ?_ ?_; (next => omega); (try simp only [Act.put, List.setIfInBounds_toArray, List.set_cons_zero, List.set_cons_succ])) | (refine q_step_ex (by rfl) ?_; apply Exists.intro; refine ⟨fun W hW => ?_, ?_⟩; (next => (have hWc := fun (b o : Nat) (h : b < _) => (Ext.out hW).cell (p := ⟨b, o, none⟩) h); (try have hLK := HLK.out W (Ext.out hW)); go_simp; first | rfl | (go_at_call 105; refine (loose_any _).mono ?_; rintro e w'' ⟨rfl, hb3⟩; exact ⟨rfl, below_ext hW hb3⟩) | fail); (try simp only [Act.put, List.setIfInBounds_toArray, List.set_cons_zero, List.set_cons_succ])) | fail)
    refine wpQuiet_nil ?_
    intro wr hbr
    have hbn6 := hbn5.ext hbr
    ((with_reducible show wpList _ _ _ (⟨_, .store _ _ _, _, _, _, _⟩ :: _) _ _); refine wpList_store_put (by rfl) _ _ _ (by rfl) _ _ _ (by rfl) (by rfl) _ _ hbn6 ?_ ?_ ?_ ?_; (next => kernel_rfl); (next => rw [rfl3]; omega); (next => first | exact slotArr_one _ _ | exact ordArr_one _ | (simp [Value.oneCell']; done)); intro w7 hbn7 hU7)
    go_wp2_with fail
    go_ret2
    have z3 := hU3.size
    have z4 := hU4.size
    have z5 := hU5.size
    have z0 := hb2.size
    have ha := HA.out
    have hb := HB.out
    have hla := HLA.out
    have hhb := HHB.out
    refine ⟨rfl, ⟨_, _, ⟨(hhd5.ext hbr).upd hne.1 hU7, hbn7, (hbe5.ext hbr).upd (Ne.symm hne.2.2) hU7, (t2n.all hn (-1) (-1) (-1)).eq ?_ ?_ ?_, (t2e.set2 hi (((L i).length : Int) - 1)).eq ?_ ?_ ?_, hne, hlim⟩⟩, (((((ButL.of_below hb2).upd (by simp) hU3).upd (by simp) hU4).upd (by simp) hU5).ext (by omega) hbr).upd (by simp) hU7⟩
    · simp [remS, ha, hb, la_snoc, hd]
    · simp [remS, ha, hb, la_snoc, hd]
    · simp [remS]
    · simp [remS, ha, hb, hd]
    · simp [remS, ha, hb, la_snoc]
    · simp [remS, HN.out]
theorem rem_ab (f : FH w g bn be N Q s cn ce) (I : Inv N Q s L) (i n : Nat) (a b : List Nat) (hi : i < Q) (he : L i = a ++ n :: b) (p : Nat) (a0 : List Nat) (ha : a = a0 ++ [p]) (y : Nat) (b0 : List Nat) (hb : b = y :: b0) (hlen : (L i).length ≤ 500) : Calls Try.prog 118 #[.pointer (some ⟨g, 0, none⟩), .int .i64 n] w fun e w' => e = .returned (.tuple #[.int .i64 i, .bool true]) ∧ (∃ cn' ce', FH w' g bn be N Q (remS s i n a b) cn' ce') ∧ ButL [bn, be] w.heap.size w w' := by
  obtain ⟨l1, l2, l3⟩ := I.link i hi a n b he
  have hla : la a = p := by rw [ha]; exact la_snoc _ _
  have hhb : hd b = y := by rw [hb]; rfl
  rw [hla] at l2
  rw [hhb] at l3
  have hn : n < N := I.lt i hi n (by rw [he]; simp)
  have hen : s.en i = ((L i).length : Int) := I.en i hi
  have hpos : 1 ≤ (L i).length := by rw [he]; simp; omega
  have hp : p < N := I.lt i hi p (by rw [he, ha]; simp)
  have hy : y < N := I.lt i hi y (by rw [he, hb]; simp)
  obtain ⟨m0, m1, m2⟩ := f.n hn
  rw [l2] at m0
  rw [l3] at m1
  rw [l1] at m2
  have HO := Lib.hid (of_yes f n i hn l1)
  have hce := f.te.1
  have hcn := f.tn.1
  have hlim := f.lim
  have hne := f.ne
  have hhd := f.hd
  have hlt := f.hd.lt
  have hltn := f.fbn.lt
  have hlte := f.fbe.lt
  have hbn := f.fbn
  have hbe := f.fbe
  have hni : i * 3 + 2 < ce.size := by omega
  have hnn : n * 3 + 2 < cn.size := by omega
  have hnp : p * 3 + 2 < cn.size := by omega
  have hny : y * 3 + 2 < cn.size := by omega
  have HA := Lib.hid ha
  have HB := Lib.hid hb
  have HLA := Lib.hid hla
  have HHB := Lib.hid hhb
  have HN := Lib.hid hen
  clear ha hb hla hhb hen he l1 l2 l3 I
  have HH : ∀ W, Below w.heap.size w W → Blk W g _ _ := fun W hW => hhd.ext hW
  go_enter Try.func118, Try.ntmps118
  go_wp2_with (first | (go_at_call 149; refine HO.out.mono ?_; rintro e w' ⟨rfl, rfl⟩) | fail)
  go_region_held3 (fun w' => w'.cell? ⟨bn, n * 3, none⟩ = some (.int .i64 p) ∧ w'.cell? ⟨bn, n * 3 + 1, none⟩ = some (.int .i64 y) ∧ w'.cell? ⟨bn, n * 3 + 2, none⟩ = some (.int .i64 i)) (go_keep) (first | (go_at_call 113; refine (node_yes (HH _ (by (repeat (first | with_reducible exact Below.refl _ _ | (with_reducible assumption) | (with_reducible refine below_alloc ?_ _) | (with_reducible refine below_ext (w1 := ?_) ?_ ?_; rotate_left 2; (with_reducible assumption)) | (with_reducible refine Below.setCell ?_ ?_ _; rotate_left; ((try simp) <;> omega)) | (with_reducible refine Below.drew ?_) | (with_reducible refine below_drewN ?_ _) | fail)))) hlim n hn).mono ?_; rintro e w'' ⟨rfl, rfl⟩) | (go_at_call 112; refine (queue_yes (HH _ (by (repeat (first | with_reducible exact Below.refl _ _ | (with_reducible assumption) | (with_reducible refine below_alloc ?_ _) | (with_reducible refine below_ext (w1 := ?_) ?_ ?_; rotate_left 2; (with_reducible assumption)) | (with_reducible refine Below.setCell ?_ ?_ _; rotate_left; ((try simp) <;> omega)) | (with_reducible refine Below.drew ?_) | (with_reducible refine below_drewN ?_ _) | fail)))) hlim i hi).mono ?_; rintro e w'' ⟨rfl, rfl⟩))
  all_goals
    have hR2 : Blk (w.alloc (.cells #[.int .i64 p, .int .i64 y, .int .i64 i] 190)).drew w.heap.size 190 #[.int .i64 p, .int .i64 y, .int .i64 i] := (Blk.new _ _ _ _ rfl).drew
    have hb2 : Below w.heap.size w (w.alloc (.cells #[.int .i64 p, .int .i64 y, .int .i64 i] 190)).drew := by (repeat (first | with_reducible exact Below.refl _ _ | (with_reducible assumption) | (with_reducible refine below_alloc ?_ _) | (with_reducible refine below_ext (w1 := ?_) ?_ ?_; rotate_left 2; (with_reducible assumption)) | (with_reducible refine Below.setCell ?_ ?_ _; rotate_left; ((try simp) <;> omega)) | (with_reducible refine Below.drew ?_) | (with_reducible refine below_drewN ?_ _) | fail))
    generalize (w.alloc (.cells #[.int .i64 p, .int .i64 y, .int .i64 i] 190)).drew = w2 at *
    have r0 : w2.cell? ⟨w.heap.size, 0, none⟩ = some (.int .i64 p) := hR2.cell 0
    have r1 : w2.cell? ⟨w.heap.size, 1, none⟩ = some (.int .i64 y) := hR2.cell 1
    go_wp2_with fail
    have hhd2 := hhd.ext hb2
    have hbn2 := hbn.ext hb2
    have hbe2 := hbe.ext hb2
    refine (node_yes hhd2 hlim p hp).mono ?_
    rintro e w' ⟨rfl, rfl⟩
    go_wp2_with (first | (((with_reducible show wpList _ _ _ (⟨_, .store _ _ _, _, _, _, _⟩ :: _) _ _); refine wpList_store_fld (by rfl) _ _ _ (by rfl) _ _ (by rfl) _ (by rfl) _ _ hbn2 ?_ ?_ (by rfl) (by rfl) ?_; (next => first | omega | ((try simp) <;> omega)); (next => kernel_rfl); intro w3 hbn3 hU3); replace hbn3 : Blk w3 bn 190 (cn.setIfInBounds (p * 3 + 1) (.int .i64 y)) := hbn3; have hbe3 := hbe2.upd (Ne.symm hne.2.2) hU3; have r0' : w3.cell? ⟨w.heap.size, 0, none⟩ = some (.int .i64 p) := (hR2.upd (by omega) hU3).cell 0; have r1' := (hR2.upd (show w.heap.size ≠ _ by omega) hU3).cell 1; simp only [List.getElem?_toArray, List.getElem?_cons_zero, List.getElem?_cons_succ] at r1') | fail)
    have hhd3 := hhd2.upd hne.1 hU3
    have hR3 := hR2.upd (show w.heap.size ≠ bn by omega) hU3
    have t1n := (f.tn.set1 hp y)
    have t1e := f.te
    have u1n := t1n.1
    have u1e := t1e.1
    refine (node_yes hhd3 hlim y hy).mono ?_
    rintro e w' ⟨rfl, rfl⟩
    have t2n := (t1n.set0 hy p)
    have t2e := t1e
    have u2n := t2n.1
    have u2e := t2e.1
    have z2 := ((t2e.2 i hi).2.2).trans (by rw [HN.out] : _ = some (Value.int .i64 ((L i).length : Int)))
    go_wp2_with (first | (((with_reducible show wpList _ _ _ (⟨_, .store _ _ _, _, _, _, _⟩ :: _) _ _); refine wpList_store_fld (by rfl) _ _ _ (by rfl) _ _ (by rfl) _ (by rfl) _ _ hbn3 ?_ ?_ (by rfl) (by rfl) ?_; (next => first | omega | ((try simp) <;> omega)); (next => kernel_rfl); intro w4 hbn4 hU4); replace hbn4 : Blk w4 bn 190 ((cn.setIfInBounds (p * 3 + 1) (.int .i64 y)).setIfInBounds (y * 3) (.int .i64 p)) := hbn4; have hbe4 := hbe3.upd (Ne.symm hne.2.2) hU4; have g2 : w4.cell? ⟨be, i * 3 + 2, none⟩ = some (.int .i64 ((L i).length : Int)) := (hbe4.cell _).trans z2) | ((with_reducible show wpList _ _ _ (⟨_, .store _ _ _, _, _, _, _⟩ :: _) _ _); refine wpList_store_fld (by rfl) _ _ _ (by rfl) _ _ (by rfl) _ (by rfl) _ _ hbe4 ?_ ?_ (by rfl) (by rfl) ?_; (next => first | omega | ((try simp) <;> omega)); (next => kernel_rfl); intro w5 hbe5 hU5) | fail)
    replace hbe5 : Blk w5 be 193 ((ce).setIfInBounds (i * 3 + 2) (.int .i64 ((L i).length - 1))) := hbe5
    have hhd4 := hhd3.upd hne.1 hU4
    have hhd5 := hhd4.upd hne.2.1 hU5
    have hbn5 := hbn4.upd hne.2.2 hU5
    refine wp_region_below_tail 7 (by kernel_rfl) (by kernel_rfl) ?_
    simp only [List.take_succ_cons, List.take_zero, List.drop_succ_cons, List.drop_zero]
    repeat (first | go_big_quiet_skip | (go_big_quiet_want; go_big_quiet_op; go_big_quiet_on) | (refine q_load_fld (by rfl) _ _ (by rfl) (fun _ h => h) _ _ (by rfl) ?_ ?_ ?_ ?_ ?_ ?_; rotate_left; (next => (repeat (first | (with_reducible refine BlkAt.new _ _ _ _ ?_; ((try simp) <;> omega)) | (with_reducible assumption) | (with_reducible refine Blk.at (t := ?_) ?_; rotate_left; with_reducible assumption) | with_reducible refine BlkAt.alloc ?_ _ | with_reducible refine BlkAt.drew ?_ | (with_reducible refine BlkAt.setSame ?_ _ _) | (with_reducible refine BlkAt.setCell ?_ ?_ _; rotate_left; ((try simp) <;> omega)) | (with_reducible refine BlkAt.ext (w := ?_) ?_ ?_; rotate_left 2; (with_reducible assumption)) | fail))); rotate_left; (next => first | (simp only [go_sem]; rfl) | rfl); (next => kernel_rfl); (try simp only [Act.put, List.setIfInBounds_toArray, List.set_cons_zero, List.set_cons_succ])) | (refine q_rem (by rfl) _ _ _ _ (by rfl) _ _ (by rfl) (by rfl) (by kernel_rfl) (by kernel_rfl) ?_ ?_; (next => omega); (try simp only [Act.put, List.setIfInBounds_toArray, List.set_cons_zero, List.set_cons_succ])) | (refine q_step_ex (by rfl) ?_; apply Exists.intro; refine ⟨fun W hW => ?_, ?_⟩; (next => (have hWc := fun (b o : Nat) (h : b < _) => (Ext.out hW).cell (p := ⟨b, o, none⟩) h); (try have hLK := HLK.out W (Ext.out hW)); go_simp; first | rfl | (go_at_call 105; refine (loose_any _).mono ?_; rintro e w'' ⟨rfl, hb3⟩; exact ⟨rfl, below_ext hW hb3⟩) | fail); (try simp only [Act.put, List.setIfInBounds_toArray, List.set_cons_zero, List.set_cons_succ])) | fail)
    refine wpQuiet_nil ?_
    intro wr hbr
    have hbn6 := hbn5.ext hbr
    ((with_reducible show wpList _ _ _ (⟨_, .store _ _ _, _, _, _, _⟩ :: _) _ _); refine wpList_store_put (by rfl) _ _ _ (by rfl) _ _ _ (by rfl) (by rfl) _ _ hbn6 ?_ ?_ ?_ ?_; (next => kernel_rfl); (next => rw [rfl3]; omega); (next => first | exact slotArr_one _ _ | exact ordArr_one _ | (simp [Value.oneCell']; done)); intro w7 hbn7 hU7)
    go_wp2_with fail
    go_ret2
    have z3 := hU3.size
    have z4 := hU4.size
    have z5 := hU5.size
    have z0 := hb2.size
    have ha := HA.out
    have hb := HB.out
    have hla := HLA.out
    have hhb := HHB.out
    refine ⟨rfl, ⟨_, _, ⟨(hhd5.ext hbr).upd hne.1 hU7, hbn7, (hbe5.ext hbr).upd (Ne.symm hne.2.2) hU7, (t2n.all hn (-1) (-1) (-1)).eq ?_ ?_ ?_, (t2e.set2 hi (((L i).length : Int) - 1)).eq ?_ ?_ ?_, hne, hlim⟩⟩, (((((ButL.of_below hb2).upd (by simp) hU3).upd (by simp) hU4).upd (by simp) hU5).ext (by omega) hbr).upd (by simp) hU7⟩
    · simp [remS, ha, hb, la_snoc, hd]
    · simp [remS, ha, hb, la_snoc, hd]
    · simp [remS]
    · simp [remS, ha, hb, hd]
    · simp [remS, ha, hb, la_snoc]
    · simp [remS, HN.out]
end
end Fif
end Go.Proofs.Ytgaialcbpglhaaa
