/- This text proves the contract of fifo's Remove, case by case: contracts of the package fifo: New, Push, Front, Pop, Remove, Of, Len, over links that are held as data. It has no conditions but those that they state. This text proves contracts over lists of nodes: contracts of the package fifo: New, Push, Front, Pop, Remove, Of, Len, over links that are held as data. It has no conditions but those that they state. This text proves how queues are made, and the chapter's example: contracts of the package fifo: New, Push, Front, Pop, Remove, Of, Len, over links that are held as data. It has no conditions but those that they state. -/
import Derived.Test.YtbnappiaomiciaaGreatFifo
namespace Go.Proofs.YtbnappiaomiciaaGreat
set_option linter.unusedVariables false
open Go.RowKit
namespace Fif
set_option maxHeartbeats 4000000
set_option maxRecDepth 10000
/-! ### Remove -/
section
variable {w : World} {g bn be N Q : Nat} {s : Fs} {cn ce : Array Value} {L : Nat → List Nat}
theorem rem_nn (f : FH w g bn be N Q s cn ce) (I : Inv N Q s L) (i n : Nat) (a b : List Nat) (hi : i < Q) (he : L i = a ++ n :: b) (ha : a = []) (hb : b = []) (hlen : (L i).length ≤ 500) : Calls Tryz.prog 104 #[.pointer (some ⟨g, 0, none⟩), .int .i64 n] w fun e w' => e = .returned (.tuple #[.int .i64 i, .bool true]) ∧ (∃ cn' ce', FH w' g bn be N Q (remS s i n a b) cn' ce') ∧ ButL [bn, be] w.heap.size w w' := by
  obtain ⟨l1, l2, l3⟩ := I.link i hi a n b he
  have hla : la a = (-1) := by rw [ha]; rfl
  have hhb : hd b = (-1) := by rw [hb]; rfl
  rw [hla] at l2
  rw [hhb] at l3
  have hn : n < N := I.lt i hi n (by rw [he]; simp)
  have hen : s.en i = ((L i).length : Int) := I.en i hi
  have hpos : 1 ≤ (L i).length := by rw [he]; simp; omega
  obtain ⟨m0, m1, m2⟩ := f.n hn
  rw [l2] at m0
  rw [l3] at m1
  rw [l1] at m2
  have HO := Lib.hid (of_yes f n i hn l1)
  have hce := f.te.1
  have hcn := f.tn.1
  have hlim := f.lim
  have hne := f.ne
  have hhd := f.hd
  have hlt := f.hd.lt
  have hltn := f.fbn.lt
  have hlte := f.fbe.lt
  have hbn := f.fbn
  have hbe := f.fbe
  have hni : i * 3 + 2 < ce.size := by omega
  have hnn : n * 3 + 2 < cn.size := by omega
  have HA := Lib.hid ha
  have HB := Lib.hid hb
  have HLA := Lib.hid hla
  have HHB := Lib.hid hhb
  have HN := Lib.hid hen
  clear ha hb hla hhb hen he l1 l2 l3 I
  have HH : ∀ W, Below w.heap.size w W → Blk W g _ _ := fun W hW => hhd.ext hW
  go_enter Tryz.func104, Tryz.ntmps104
  go_wp2_with (first | (go_at_call 117; refine HO.out.mono ?_; rintro e w' ⟨rfl, rfl⟩) | fail)
  go_region_held3 (fun w' => w'.cell? ⟨bn, n * 3, none⟩ = some (.int .i64 (-1)) ∧ w'.cell? ⟨bn, n * 3 + 1, none⟩ = some (.int .i64 (-1)) ∧ w'.cell? ⟨bn, n * 3 + 2, none⟩ = some (.int .i64 i)) (go_keep) (first | (go_at_call 94; refine (node_yes (HH _ (by (repeat (first | with_reducible exact Below.refl _ _ | (with_reducible assumption) | (with_reducible refine below_alloc ?_ _) | (with_reducible refine below_ext (w1 := ?_) ?_ ?_; rotate_left 2; (with_reducible assumption)) | (with_reducible refine Below.setCell ?_ ?_ _; rotate_left; ((try simp) <;> omega)) | (with_reducible refine Below.drew ?_) | (with_reducible refine below_drewN ?_ _) | fail)))) hlim n hn).mono ?_; rintro e w'' ⟨rfl, rfl⟩) | (go_at_call 93; refine (queue_yes (HH _ (by (repeat (first | with_reducible exact Below.refl _ _ | (with_reducible assumption) | (with_reducible refine below_alloc ?_ _) | (with_reducible refine below_ext (w1 := ?_) ?_ ?_; rotate_left 2; (with_reducible assumption)) | (with_reducible refine Below.setCell ?_ ?_ _; rotate_left; ((try simp) <;> omega)) | (with_reducible refine Below.drew ?_) | (with_reducible refine below_drewN ?_ _) | fail)))) hlim i hi).mono ?_; rintro e w'' ⟨rfl, rfl⟩))
  all_goals
    have hR2 : Blk (w.alloc (.cells #[.int .i64 (-1), .int .i64 (-1), .int .i64 i] 143)).drew w.heap.size 143 #[.int .i64 (-1), .int .i64 (-1), .int .i64 i] := (Blk.new _ _ _ _ rfl).drew
    have hb2 : Below w.heap.size w (w.alloc (.cells #[.int .i64 (-1), .int .i64 (-1), .int .i64 i] 143)).drew := by (repeat (first | with_reducible exact Below.refl _ _ | (with_reducible assumption) | (with_reducible refine below_alloc ?_ _) | (with_reducible refine below_ext (w1 := ?_) ?_ ?_; rotate_left 2; (with_reducible assumption)) | (with_reducible refine Below.setCell ?_ ?_ _; rotate_left; ((try simp) <;> omega)) | (with_reducible refine Below.drew ?_) | (with_reducible refine below_drewN ?_ _) | fail))
    generalize (w.alloc (.cells #[.int .i64 (-1), .int .i64 (-1), .int .i64 i] 143)).drew = w2 at *
    have r0 : w2.cell? ⟨w.heap.size, 0, none⟩ = some (.int .i64 (-1)) := hR2.cell 0
    have r1 : w2.cell? ⟨w.heap.size, 1, none⟩ = some (.int .i64 (-1)) := hR2.cell 1
    go_wp2_with fail
    have hhd2 := hhd.ext hb2
    have hbn2 := hbn.ext hb2
    have hbe2 := hbe.ext hb2
    refine (node_no hhd2 hlim (-1) (.inl (by decide))).mono ?_
    rintro e w' ⟨rfl, rfl⟩
    go_wp2_with (first | (((with_reducible show wpList _ _ _ (⟨_, .store _ _ _, _, _, _, _⟩ :: _) _ _); refine wpList_store_fld (by rfl) _ _ _ (by rfl) _ _ (by rfl) _ (by rfl) _ _ hbe2 ?_ ?_ (by rfl) (by rfl) ?_; (next => first | omega | ((try simp) <;> omega)); (next => kernel_rfl); intro w3 hbe3 hU3); replace hbe3 : Blk w3 be 146 (ce.setIfInBounds (i * 3) (.int .i64 (-1))) := hbe3; have hbn3 := hbn2.upd hne.2.2 hU3; have r0' : w3.cell? ⟨w.heap.size, 0, none⟩ = some (.int .i64 (-1)) := (hR2.upd (by omega) hU3).cell 0; have r1' := (hR2.upd (show w.heap.size ≠ _ by omega) hU3).cell 1; simp only [List.getElem?_toArray, List.getElem?_cons_zero, List.getElem?_cons_succ] at r1') | fail)
    have hhd3 := hhd2.upd hne.2.1 hU3
    have hR3 := hR2.upd (show w.heap.size ≠ be by omega) hU3
    have t1n := f.tn
    have t1e := (f.te.set0 hi (-1))
    have u1n := t1n.1
    have u1e := t1e.1
    refine (node_no hhd3 hlim (-1) (.inl (by decide))).mono ?_
    rintro e w' ⟨rfl, rfl⟩
    have t2n := t1n
    have t2e := (t1e.set1 hi (-1))
    have u2n := t2n.1
    have u2e := t2e.1
    have z2 := ((t2e.2 i hi).2.2).trans (by rw [HN.out] : _ = some (Value.int .i64 ((L i).length : Int)))
    go_wp2_with (first | (((with_reducible show wpList _ _ _ (⟨_, .store _ _ _, _, _, _, _⟩ :: _) _ _); refine wpList_store_fld (by rfl) _ _ _ (by rfl) _ _ (by rfl) _ (by rfl) _ _ hbe3 ?_ ?_ (by rfl) (by rfl) ?_; (next => first | omega | ((try simp) <;> omega)); (next => kernel_rfl); intro w4 hbe4 hU4); replace hbe4 : Blk w4 be 146 ((ce.setIfInBounds (i * 3) (.int .i64 (-1))).setIfInBounds (i * 3 + 1) (.int .i64 (-1))) := hbe4; have hbn4 := hbn3.upd hne.2.2 hU4; have g2 : w4.cell? ⟨be, i * 3 + 2, none⟩ = some (.int .i64 ((L i).length : Int)) := (hbe4.cell _).trans z2) | ((with_reducible show wpList _ _ _ (⟨_, .store _ _ _, _, _, _, _⟩ :: _) _ _); refine wpList_store_fld (by rfl) _ _ _ (by rfl) _ _ (by rfl) _ (by rfl) _ _ hbe4 ?_ ?_ (by rfl) (by rfl) ?_; (next => first | omega | ((try simp) <;> omega)); (next => kernel_rfl); intro w5 hbe5 hU5) | fail)
    replace hbe5 : Blk w5 be 146 (((ce.setIfInBounds (i * 3) (.int .i64 (-1))).setIfInBounds (i * 3 + 1) (.int .i64 (-1))).setIfInBounds (i * 3 + 2) (.int .i64 ((L i).length - 1))) := hbe5
    have hhd4 := hhd3.upd hne.2.1 hU4
    have hhd5 := hhd4.upd hne.2.1 hU5
    have hbn5 := hbn4.upd hne.2.2 hU5
    refine wp_region_below_tail 7 (by kernel_rfl) (by kernel_rfl) ?_
    simp only [List.take_succ_cons, List.take_zero, List.drop_succ_cons, List.drop_zero]
    repeat (first | go_big_quiet_skip | (go_big_quiet_want; go_big_quiet_op; go_big_quiet_on) | (refine q_load_fld (by rfl) _ _ (by rfl) (fun _ h => h) _ _ (by rfl) ?_ ?_ ?_ ?_ ?_ ?_; rotate_left; (next => (repeat (first | (with_reducible refine BlkAt.new _ _ _ _ ?_; ((try simp) <;> omega)) | (with_reducible assumption) | (with_reducible refine Blk.at (t := ?_) ?_; rotate_left; with_reducible assumption) | with_reducible refine BlkAt.alloc ?_ _ | with_reducible refine BlkAt.drew ?_ | (with_reducible refine BlkAt.setSame ?_ _ _) | (with_reducible refine BlkAt.setCell ?_ ?_ _; rotate_left; ((try simp) <;> omega)) | (with_reducible refine BlkAt.ext (w := ?_) ?_ ?_; rotate_left 2; (with_reducible assumption)) | fail))); rotate_left; (next => first | (simp only [go_sem]; rfl) | rfl); (next => kernel_rfl); (try simp only [Act.put, List.setIfInBounds_toArray, List.set_cons_zero, List.set_cons_succ])) | (refine q_rem (by rfl) _ _ _ _ (by rfl) _ _ (by rfl) (by rfl) (by kernel_rfl) (by kernel_rfl) ?_ ?_; (next => omega); (try simp only [Act.put, List.setIfInBounds_toArray, List.set_cons_zero, List.set_cons_succ])) | (refine q_step_ex (by rfl) ?_; apply Exists.intro; refine ⟨fun W hW => ?_, ?_⟩; (next => (have hWc := fun (b o : Nat) (h : b < _) => (Ext.out hW).cell (p := ⟨b, o, none⟩) h); (try have hLK := HLK.out W (Ext.out hW)); go_simp; first | rfl | (go_at_call 63; refine (loose_any _).mono ?_; rintro e w'' ⟨rfl, hb3⟩; exact ⟨rfl, below_ext hW hb3⟩) | fail); (try simp only [Act.put, List.setIfInBounds_toArray, List.set_cons_zero, List.set_cons_succ])) | fail)
    refine wpQuiet_nil ?_
    intro wr hbr
    have hbn6 := hbn5.ext hbr
    ((with_reducible show wpList _ _ _ (⟨_, .store _ _ _, _, _, _, _⟩ :: _) _ _); refine wpList_store_put (by rfl) _ _ _ (by rfl) _ _ _ (by rfl) (by rfl) _ _ hbn6 ?_ ?_ ?_ ?_; (next => kernel_rfl); (next => rw [rfl3]; omega); (next => first | exact slotArr_one _ _ | exact ordArr_one _ | (simp [Value.oneCell']; done)); intro w7 hbn7 hU7)
    go_wp2_with fail
    go_ret2
    have z3 := hU3.size
    have z4 := hU4.size
    have z5 := hU5.size
    have z0 := hb2.size
    have ha := HA.out
    have hb := HB.out
    have hla := HLA.out
    have hhb := HHB.out
    refine ⟨rfl, ⟨_, _, ⟨(hhd5.ext hbr).upd hne.1 hU7, hbn7, (hbe5.ext hbr).upd (Ne.symm hne.2.2) hU7, (t2n.all hn (-1) (-1) (-1)).eq ?_ ?_ ?_, (t2e.set2 hi (((L i).length : Int) - 1)).eq ?_ ?_ ?_, hne, hlim⟩⟩, (((((ButL.of_below hb2).upd (by simp) hU3).upd (by simp) hU4).upd (by simp) hU5).ext (by omega) hbr).upd (by simp) hU7⟩
    · simp [remS, ha, hb, la_nil, hd]
    · simp [remS, ha, hb, la_nil, hd]
    · simp [remS]
    · simp [remS, ha, hb, hd]
    · simp [remS, ha, hb, la_nil]
    · simp [remS, HN.out]
theorem rem_nb (f : FH w g bn be N Q s cn ce) (I : Inv N Q s L) (i n : Nat) (a b : List Nat) (hi : i < Q) (he : L i = a ++ n :: b) (ha : a = []) (y : Nat) (b0 : List Nat) (hb : b = y :: b0) (hlen : (L i).length ≤ 500) : Calls Tryz.prog 104 #[.pointer (some ⟨g, 0, none⟩), .int .i64 n] w fun e w' => e = .returned (.tuple #[.int .i64 i, .bool true]) ∧ (∃ cn' ce', FH w' g bn be N Q (remS s i n a b) cn' ce') ∧ ButL [bn, be] w.heap.size w w' := by
  obtain ⟨l1, l2, l3⟩ := I.link i hi a n b he
  have hla : la a = (-1) := by rw [ha]; rfl
  have hhb : hd b = y := by rw [hb]; rfl
  rw [hla] at l2
  rw [hhb] at l3
  have hn : n < N := I.lt i hi n (by rw [he]; simp)
  have hen : s.en i = ((L i).length : Int) := I.en i hi
  have hpos : 1 ≤ (L i).length := by rw [he]; simp; omega
  have hy : y < N := I.lt i hi y (by rw [he, hb]; simp)
  obtain ⟨m0, m1, m2⟩ := f.n hn
  rw [l2] at m0
  rw [l3] at m1
  rw [l1] at m2
  have HO := Lib.hid (of_yes f n i hn l1)
  have hce := f.te.1
  have hcn := f.tn.1
  have hlim := f.lim
  have hne := f.ne
  have hhd := f.hd
  have hlt := f.hd.lt
  have hltn := f.fbn.lt
  have hlte := f.fbe.lt
  have hbn := f.fbn
  have hbe := f.fbe
  have hni : i * 3 + 2 < ce.size := by omega
  have hnn : n * 3 + 2 < cn.size := by omega
  have hny : y * 3 + 2 < cn.size := by omega
  have HA := Lib.hid ha
  have HB := Lib.hid hb
  have HLA := Lib.hid hla
  have HHB := Lib.hid hhb
  have HN := Lib.hid hen
  clear ha hb hla hhb hen he l1 l2 l3 I
  have HH : ∀ W, Below w.heap.size w W → Blk W g _ _ := fun W hW => hhd.ext hW
  go_enter Tryz.func104, Tryz.ntmps104
  go_wp2_with (first | (go_at_call 117; refine HO.out.mono ?_; rintro e w' ⟨rfl, rfl⟩) | fail)
  go_region_held3 (fun w' => w'.cell? ⟨bn, n * 3, none⟩ = some (.int .i64 (-1)) ∧ w'.cell? ⟨bn, n * 3 + 1, none⟩ = some (.int .i64 y) ∧ w'.cell? ⟨bn, n * 3 + 2, none⟩ = some (.int .i64 i)) (go_keep) (first | (go_at_call 94; refine (node_yes (HH _ (by (repeat (first | with_reducible exact Below.refl _ _ | (with_reducible assumption) | (with_reducible refine below_alloc ?_ _) | (with_reducible refine below_ext (w1 := ?_) ?_ ?_; rotate_left 2; (with_reducible assumption)) | (with_reducible refine Below.setCell ?_ ?_ _; rotate_left; ((try simp) <;> omega)) | (with_reducible refine Below.drew ?_) | (with_reducible refine below_drewN ?_ _) | fail)))) hlim n hn).mono ?_; rintro e w'' ⟨rfl, rfl⟩) | (go_at_call 93; refine (queue_yes (HH _ (by (repeat (first | with_reducible exact Below.refl _ _ | (with_reducible assumption) | (with_reducible refine below_alloc ?_ _) | (with_reducible refine below_ext (w1 := ?_) ?_ ?_; rotate_left 2; (with_reducible assumption)) | (with_reducible refine Below.setCell ?_ ?_ _; rotate_left; ((try simp) <;> omega)) | (with_reducible refine Below.drew ?_) | (with_reducible refine below_drewN ?_ _) | fail)))) hlim i hi).mono ?_; rintro e w'' ⟨rfl, rfl⟩))
  all_goals
    have hR2 : Blk (w.alloc (.cells #[.int .i64 (-1), .int .i64 y, .int .i64 i] 143)).drew w.heap.size 143 #[.int .i64 (-1), .int .i64 y, .int .i64 i] := (Blk.new _ _ _ _ rfl).drew
    have hb2 : Below w.heap.size w (w.alloc (.cells #[.int .i64 (-1), .int .i64 y, .int .i64 i] 143)).drew := by (repeat (first | with_reducible exact Below.refl _ _ | (with_reducible assumption) | (with_reducible refine below_alloc ?_ _) | (with_reducible refine below_ext (w1 := ?_) ?_ ?_; rotate_left 2; (with_reducible assumption)) | (with_reducible refine Below.setCell ?_ ?_ _; rotate_left; ((try simp) <;> omega)) | (with_reducible refine Below.drew ?_) | (with_reducible refine below_drewN ?_ _) | fail))
    generalize (w.alloc (.cells #[.int .i64 (-1), .int .i64 y, .int .i64 i] 143)).drew = w2 at *
    have r0 : w2.cell? ⟨w.heap.size, 0, none⟩ = some (.int .i64 (-1)) := hR2.cell 0
    have r1 : w2.cell? ⟨w.heap.size, 1, none⟩ = some (.int .i64 y) := hR2.cell 1
    go_wp2_with fail
    have hhd2 := hhd.ext hb2
    have hbn2 := hbn.ext hb2
    have hbe2 := hbe.ext hb2
    refine (node_no hhd2 hlim (-1) (.inl (by decide))).mono ?_
    rintro e w' ⟨rfl, rfl⟩
    go_wp2_with (first | (((with_reducible show wpList _ _ _ (⟨_, .store _ _ _, _, _, _, _⟩ :: _) _ _); refine wpList_store_fld (by rfl) _ _ _ (by rfl) _ _ (by rfl) _ (by rfl) _ _ hbe2 ?_ ?_ (by rfl) (by rfl) ?_; (next => first | omega | ((try simp) <;> omega)); (next => kernel_rfl); intro w3 hbe3 hU3); replace hbe3 : Blk w3 be 146 (ce.setIfInBounds (i * 3) (.int .i64 y)) := hbe3; have hbn3 := hbn2.upd hne.2.2 hU3; have r0' : w3.cell? ⟨w.heap.size, 0, none⟩ = some (.int .i64 (-1)) := (hR2.upd (by omega) hU3).cell 0; have r1' := (hR2.upd (show w.heap.size ≠ _ by omega) hU3).cell 1; simp only [List.getElem?_toArray, List.getElem?_cons_zero, List.getElem?_cons_succ] at r1') | fail)
    have hhd3 := hhd2.upd hne.2.1 hU3
    have hR3 := hR2.upd (show w.heap.size ≠ be by omega) hU3
    have t1n := f.tn
    have t1e := (f.te.set0 hi y)
    have u1n := t1n.1
    have u1e := t1e.1
    refine (node_yes hhd3 hlim y hy).mono ?_
    rintro e w' ⟨rfl, rfl⟩
    have t2n := (t1n.set0 hy (-1))
    have t2e := t1e
    have u2n := t2n.1
    have u2e := t2e.1
    have z2 := ((t2e.2 i hi).2.2).trans (by rw [HN.out] : _ = some (Value.int .i64 ((L i).length : Int)))
    go_wp2_with (first | (((with_reducible show wpList _ _ _ (⟨_, .store _ _ _, _, _, _, _⟩ :: _) _ _); refine wpList_store_fld (by rfl) _ _ _ (by rfl) _ _ (by rfl) _ (by rfl) _ _ hbn3 ?_ ?_ (by rfl) (by rfl) ?_; (next => first | omega | ((try simp) <;> omega)); (next => kernel_rfl); intro w4 hbn4 hU4); replace hbn4 : Blk w4 bn 143 ((cn).setIfInBounds (y * 3) (.int .i64 (-1))) := hbn4; have hbe4 := hbe3.upd (Ne.symm hne.2.2) hU4; have g2 : w4.cell? ⟨be, i * 3 + 2, none⟩ = some (.int .i64 ((L i).length : Int)) := (hbe4.cell _).trans z2) | ((with_reducible show wpList _ _ _ (⟨_, .store _ _ _, _, _, _, _⟩ :: _) _ _); refine wpList_store_fld (by rfl) _ _ _ (by rfl) _ _ (by rfl) _ (by rfl) _ _ hbe4 ?_ ?_ (by rfl) (by rfl) ?_; (next => first | omega | ((try simp) <;> omega)); (next => kernel_rfl); intro w5 hbe5 hU5) | fail)
    replace hbe5 : Blk w5 be 146 ((ce.setIfInBounds (i * 3) (.int .i64 y)).setIfInBounds (i * 3 + 2) (.int .i64 ((L i).length - 1))) := hbe5
    have hhd4 := hhd3.upd hne.1 hU4
    have hhd5 := hhd4.upd hne.2.1 hU5
    have hbn5 := hbn4.upd hne.2.2 hU5
    refine wp_region_below_tail 7 (by kernel_rfl) (by kernel_rfl) ?_
    simp only [List.take_succ_cons, List.take_zero, List.drop_succ_cons, List.drop_zero]
    repeat (first | go_big_quiet_skip | (go_big_quiet_want; go_big_quiet_op; go_big_quiet_on) | (refine q_load_fld (by rfl) _ _ (by rfl) (fun _ h => h) _ _ (by rfl) ?_ ?_ ?_ ?_ ?_ ?_; rotate_left; (next => (repeat (first | (with_reducible refine BlkAt.new _ _ _ _ ?_; ((try simp) <;> omega)) | (with_reducible assumption) | (with_reducible refine Blk.at (t := ?_) ?_; rotate_left; with_reducible assumption) | with_reducible refine BlkAt.alloc ?_ _ | with_reducible refine BlkAt.drew ?_ | (with_reducible refine BlkAt.setSame ?_ _ _) | (with_reducible refine BlkAt.setCell ?_ ?_ _; rotate_left; ((try simp) <;> omega)) | (with_reducible refine BlkAt.ext (w := ?_) ?_ ?_; rotate_left 2; (with_reducible assumption)) | fail))); rotate_left; (next => first | (simp only [go_sem]; rfl) | rfl); (next => kernel_rfl); (try simp only [Act.put, List.setIfInBounds_toArray, List.set_cons_zero, List.set_cons_succ])) | (refine q_rem (by rfl) _ _ _ _ (by rfl) _ _ (by rfl) (by rfl) (by kernel_rfl) (by kernel_rfl) ?_ ?_; (next => omega); (try simp only [Act.put, List.setIfInBounds_toArray, List.set_cons_zero, List.set_cons_succ])) | (refine q_step_ex (by rfl) ?_; apply Exists.intro; refine ⟨fun W hW => ?_, ?_⟩; (next => (have hWc := fun (b o : Nat) (h : b < _) => (Ext.out hW).cell (p := ⟨b, o, none⟩) h); (try have hLK := HLK.out W (Ext.out hW)); go_simp; first | rfl | (go_at_call 63; refine (loose_any _).mono ?_; rintro e w'' ⟨rfl, hb3⟩; exact ⟨rfl, below_ext hW hb3⟩) | fail); (try simp only [Act.put, List.setIfInBounds_toArray, List.set_cons_zero, List.set_cons_succ])) | fail)
    refine wpQuiet_nil ?_
    intro wr hbr
    have hbn6 := hbn5.ext hbr
    ((with_reducible show wpList _ _ _ (⟨_, .store _ _ _, _, _, _, _⟩ :: _) _ _); refine wpList_store_put (by rfl) _ _ _ (by rfl) _ _ _ (by rfl) (by rfl) _ _ hbn6 ?_ ?_ ?_ ?_; (next => kernel_rfl); (next => rw [rfl3]; omega); (next => first | exact slotArr_one _ _ | exact ordArr_one _ | (simp [Value.oneCell']; done)); intro w7 hbn7 hU7)
    go_wp2_with fail
    go_ret2
    have z3 := hU3.size
    have z4 := hU4.size
    have z5 := hU5.size
    have z0 := hb2.size
    have ha := HA.out
    have hb := HB.out
    have hla := HLA.out
    have hhb := HHB.out
    refine ⟨rfl, ⟨_, _, ⟨(hhd5.ext hbr).upd hne.1 hU7, hbn7, (hbe5.ext hbr).upd (Ne.symm hne.2.2) hU7, (t2n.all hn (-1) (-1) (-1)).eq ?_ ?_ ?_, (t2e.set2 hi (((L i).length : Int) - 1)).eq ?_ ?_ ?_, hne, hlim⟩⟩, (((((ButL.of_below hb2).upd (by simp) hU3).upd (by simp) hU4).upd (by simp) hU5).ext (by omega) hbr).upd (by simp) hU7⟩
    · simp [remS, ha, hb, la_nil, hd]
    · simp [remS, ha, hb, la_nil, hd]
    · simp [remS]
    · simp [remS, ha, hb, hd]
    · simp [remS, ha, hb, la_nil]
    · simp [remS, HN.out]
theorem rem_an (f : FH w g bn be N Q s cn ce) (I : Inv N Q s L) (i n : Nat) (a b : List Nat) (hi : i < Q) (he : L i = a ++ n :: b) (p : Nat) (a0 : List Nat) (ha : a = a0 ++ [p]) (hb : b = []) (hlen : (L i).length ≤ 500) : Calls Tryz.prog 104 #[.pointer (some ⟨g, 0, none⟩), .int .i64 n] w fun e w' => e = .returned (.tuple #[.int .i64 i, .bool true]) ∧ (∃ cn' ce', FH w' g bn be N Q (remS s i n a b) cn' ce') ∧ ButL [bn, be] w.heap.size w w' := by
  obtain ⟨l1, l2, l3⟩ := I.link i hi a n b he
  have hla : la a = p := by rw [ha]; exact la_snoc _ _
  have hhb : hd b = (-1) := by rw [hb]; rfl
  rw [hla] at l2
  rw [hhb] at l3
  have hn : n < N := I.lt i hi n (by rw [he]; simp)
  have hen : s.en i = ((L i).length : Int) := I.en i hi
  have hpos : 1 ≤ (L i).length := by rw [he]; simp; omega
  have hp : p < N := I.lt i hi p (by rw [he, ha]; simp)
  obtain ⟨m0, m1, m2⟩ := f.n hn
  rw [l2] at m0
  rw [l3] at m1
  rw [l1] at m2
  have HO := Lib.hid (of_yes f n i hn l1)
  have hce := f.te.1
  have hcn := f.tn.1
  have hlim := f.lim
  have hne := f.ne
  have hhd := f.hd
  have hlt := f.hd.lt
  have hltn := f.fbn.lt
  have hlte := f.fbe.lt
  have hbn := f.fbn
  have hbe := f.fbe
  have hni : i * 3 + 2 < ce.size := by omega
  have hnn : n * 3 + 2 < cn.size := by omega
  have hnp : p * 3 + 2 < cn.size := by omega
  have HA := Lib.hid ha
  have HB := Lib.hid hb
  have HLA := Lib.hid hla
  have HHB := Lib.hid hhb
  have HN := Lib.hid hen
  clear ha hb hla hhb hen he l1 l2 l3 I
  have HH : ∀ W, Below w.heap.size w W → Blk W g _ _ := fun W hW => hhd.ext hW
  go_enter Tryz.func104, Tryz.ntmps104
  go_wp2_with (first | (go_at_call 117; refine HO.out.mono ?_; rintro e w' ⟨rfl, rfl⟩) | fail)
  go_region_held3 (fun w' => w'.cell? ⟨bn, n * 3, none⟩ = some (.int .i64 p) ∧ w'.cell? ⟨bn, n * 3 + 1, none⟩ = some (.int .i64 (-1)) ∧ w'.cell? ⟨bn, n * 3 + 2, none⟩ = some (.int .i64 i)) (go_keep) (first | (go_at_call 94; refine (node_yes (HH _ (by (repeat (first | with_reducible exact Below.refl _ _ | (with_reducible assumption) | (with_reducible refine below_alloc ?_ _) | (with_reducible refine below_ext (w1 := ?_) ?_ ?_; rotate_left 2; (with_reducible assumption)) | (with_reducible refine Below.setCell ?_ ?_ _; rotate_left; ((try simp) <;> omega)) | (with_reducible refine Below.drew ?_) | (with_reducible refine below_drewN ?_ _) | fail)))) hlim n hn).mono ?_; rintro e w'' ⟨rfl, rfl⟩) | (go_at_call 93; refine (queue_yes (HH _ (by (repeat (first | with_reducible exact Below.refl _ _ | (with_reducible assumption) | (with_reducible refine below_alloc ?_ _) | (with_reducible refine below_ext (w1 := ?_) ?_ ?_; rotate_left 2; (with_reducible assumption)) | (with_reducible refine Below.setCell ?_ ?_ _; rotate_left; ((try simp) <;> omega)) | (with_reducible refine Below.drew ?_) | (with_reducible refine below_drewN ?_ _) | fail)))) hlim i hi).mono ?_; rintro e w'' ⟨rfl, rfl⟩))
  all_goals
    have hR2 : Blk (w.alloc (.cells #[.int .i64 p, .int .i64 (-1), .int .i64 i] 143)).drew w.heap.size 143 #[.int .i64 p, .int .i64 (-1), .int .i64 i] := (Blk.new _ _ _ _ rfl).drew
    have hb2 : Below w.heap.size w (w.alloc (.cells #[.int .i64 p, .int .i64 (-1), .int .i64 i] 143)).drew := by (repeat (first | with_reducible exact Below.refl _ _ | (with_reducible assumption) | (with_reducible refine below_alloc ?_ _) | (with_reducible refine below_ext (w1 := ?_) ?_ ?_; rotate_left 2; (with_reducible assumption)) | (with_reducible refine Below.setCell ?_ ?_ _; rotate_left; ((try simp) <;> omega)) | (with_reducible refine Below.drew ?_) | (with_reducible refine below_drewN ?_ _) | fail))
    generalize (w.alloc (.cells #[.int .i64 p, .int .i64 (-1), .int .i64 i] 143)).drew = w2 at *
    have r0 : w2.cell? ⟨w.heap.size, 0, none⟩ = some (.int .i64 p) := hR2.cell 0
    have r1 : w2.cell? ⟨w.heap.size, 1, none⟩ = some (.int .i64 (-1)) := hR2.cell 1
    go_wp2_with fail
    have hhd2 := hhd.ext hb2
    have hbn2 := hbn.ext hb2
    have hbe2 := hbe.ext hb2
    refine (node_yes hhd2 hlim p hp).mono ?_
    rintro e w' ⟨rfl, rfl⟩
    go_wp2_with (first | (((with_reducible show wpList _ _ _ (⟨_, .store _ _ _, _, _, _, _⟩ :: _) _ _); refine wpList_store_fld (by rfl) _ _ _ (by rfl) _ _ (by rfl) _ (by rfl) _ _ hbn2 ?_ ?_ (by rfl) (by rfl) ?_; (next => first | omega | ((try simp) <;> omega)); (next => kernel_rfl); intro w3 hbn3 hU3); replace hbn3 : Blk w3 bn 143 (cn.setIfInBounds (p * 3 + 1) (.int .i64 (-1))) := hbn3; have hbe3 := hbe2.upd (Ne.symm hne.2.2) hU3; have r0' : w3.cell? ⟨w.heap.size, 0, none⟩ = some (.int .i64 p) := (hR2.upd (by omega) hU3).cell 0; have r1' := (hR2.upd (show w.heap.size ≠ _ by omega) hU3).cell 1; simp only [List.getElem?_toArray, List.getElem?_cons_zero, List.getElem?_cons_succ] at r1') | fail)
    have hhd3 := hhd2.upd hne.1 hU3
    have hR3 := hR2.upd (show w.heap.size ≠ bn by omega) hU3
    have t1n := (f.tn.set1 hp (-1))
    have t1e := f.te
    have u1n := t1n.1
    have u1e := t1e.1
    refine (node_no hhd3 hlim (-1) (.inl (by decide))).mono ?_
    rintro e w' ⟨rfl, rfl⟩
    have t2n := t1n
    have t2e := (t1e.set1 hi p)
    have u2n := t2n.1
    have u2e := t2e.1
    have z2 := ((t2e.2 i hi).2.2).trans (by rw [HN.out] : _ = some (Value.int .i64 ((L i).length : Int)))
    go_wp2_with (first | (((with_reducible show wpList _ _ _ (⟨_, .store _ _ _, _, _, _, _⟩ :: _) _ _); refine wpList_store_fld (by rfl) _ _ _ (by rfl) _ _ (by rfl) _ (by rfl) _ _ hbe3 ?_ ?_ (by rfl) (by rfl) ?_; (next => first | omega | ((try simp) <;> omega)); (next => kernel_rfl); intro w4 hbe4 hU4); replace hbe4 : Blk w4 be 146 ((ce).setIfInBounds (i * 3 + 1) (.int .i64 p)) := hbe4; have hbn4 := hbn3.upd hne.2.2 hU4; have g2 : w4.cell? ⟨be, i * 3 + 2, none⟩ = some (.int .i64 ((L i).length : Int)) := (hbe4.cell _).trans z2) | ((with_reducible show wpList _ _ _ (⟨_, .store _ _ _, _, _, _, _⟩ :: _) _ _); refine wpList_store_fld (by rfl) _ _ _ (by rfl) _ _ (by rfl) _ (by rfl) _ _ hbe4 ?_ ?_ (by rfl) (by rfl) ?_; (next => first | omega | ((try simp) <;> omega)); (next => kernel_rfl); intro w5 hbe5 hU5) | fail)
    replace hbe5 : Blk w5 be 146 (((ce).setIfInBounds (i * 3 + 1) (.int .i64 p)).setIfInBounds (i * 3 + 2) (.int .i64 ((L i).length - 1))) := hbe5
    have hhd4 := hhd3.upd hne.2.1 hU4
    have hhd5 := hhd4.upd hne.2.1 hU5
    have hbn5 := hbn4.upd hne.2.2 hU5
    refine wp_region_below_tail 7 (by kernel_rfl) (by kernel_rfl) ?_
    simp only [List.take_succ_cons, List.take_zero, List.drop_succ_cons, List.drop_zero]
    repeat (first | go_big_quiet_skip | (go_big_quiet_want; go_big_quiet_op; go_big_quiet_on) | (refine q_load_fld (by rfl) _ _ (by rfl) (fun _ h => h) _ _ (by rfl) ?_ ?_ ?_ ?_ ?_ ?_; rotate_left; (next => (repeat (first | (with_reducible refine BlkAt.new _ _ _ _ ?_; ((try simp) <;> omega)) | (with_reducible assumption) | (with_reducible refine Blk.at (t := ?_) ?_; rotate_left; with_reducible assumption) | with_reducible refine BlkAt.alloc ?_ _ | with_reducible refine BlkAt.drew ?_ | (with_reducible refine BlkAt.setSame ?_ _ _) | (with_reducible refine BlkAt.setCell ?_ ?_ _; rotate_left; ((try simp) <;> omega)) | (with_reducible refine BlkAt.ext (w := ?_) ?_ ?_; rotate_left 2; (with_reducible assumption)) | fail))); rotate_left; (next => first | (simp only [go_sem]; rfl) | rfl); (next => kernel_rfl); (try simp only [Act.put, List.setIfInBounds_toArray, List.set_cons_zero, List.set_cons_succ])) | (refine q_rem (by rfl) _ _ _ _ (by rfl) _ _ (by rfl) (by rfl) (by kernel_rfl) (by kernel_rfl) ?_ ?_; (next => omega); (try simp only [Act.put, List.setIfInBounds_toArray, List.set_cons_zero, List.set_cons_succ])) | (refine q_step_ex (by rfl) ?_; apply Exists.intro; refine ⟨fun W hW => ?_, ?_⟩; (next => (have hWc := fun (b o : Nat) (h : b < _) => (Ext.out hW).cell (p := ⟨b, o, none⟩) h); (try have hLK := HLK.out W (Ext.out hW)); go_simp; first | rfl | (go_at_call 63; refine (loose_any _).mono ?_; rintro e w'' ⟨rfl, hb3⟩; exact ⟨rfl, below_ext hW hb3⟩) | fail); (try simp only [Act.put, List.setIfInBounds_toArray, List.set_cons_zero, List.set_cons_succ])) | fail)
    refine wpQuiet_nil ?_
    intro wr hbr
    have hbn6 := hbn5.ext hbr
    ((with_reducible show wpList _ _ _ (⟨_, .store _ _ _, _, _, _, _⟩ :: _) _ _); refine wpList_store_put (by rfl) _ _ _ (by rfl) _ _ _ (by rfl) (by rfl) _ _ hbn6 ?_ ?_ ?_ ?_; (next => kernel_rfl); (next => rw [rfl3]; omega); (next => first | exact slotArr_one _ _ | exact ordArr_one _ | (simp [Value.oneCell']; done)); intro w7 hbn7 hU7)
    go_wp2_with fail
    go_ret2
    have z3 := hU3.size
    have z4 := hU4.size
    have z5 := hU5.size
    have z0 := hb2.size
    have ha := HA.out
    have hb := HB.out
    have hla := HLA.out
    have hhb := HHB.out
    refine ⟨rfl, ⟨_, _, ⟨(hhd5.ext hbr).upd hne.1 hU7, hbn7, (hbe5.ext hbr).upd (Ne.symm hne.2.2) hU7, (t2n.all hn (-1) (-1) (-1)).eq ?_ ?_ ?_, (t2e.set2 hi (((L i).length : Int) - 1)).eq ?_ ?_ ?_, hne, hlim⟩⟩, (((((ButL.of_below hb2).upd (by simp) hU3).upd (by simp) hU4).upd (by simp) hU5).ext (by omega) hbr).upd (by simp) hU7⟩
    · simp [remS, ha, hb, la_snoc, hd]
    · simp [remS, ha, hb, la_snoc, hd]
    · simp [remS]
    · simp [remS, ha, hb, hd]
    · simp [remS, ha, hb, la_snoc]
    · simp [remS, HN.out]
theorem rem_ab (f : FH w g bn be N Q s cn ce) (I : Inv N Q s L) (i n : Nat) (a b : List Nat) (hi : i < Q) (he : L i = a ++ n :: b) (p : Nat) (a0 : List Nat) (ha : a = a0 ++ [p]) (y : Nat) (b0 : List Nat) (hb : b = y :: b0) (hlen : (L i).length ≤ 500) : Calls Tryz.prog 104 #[.pointer (some ⟨g, 0, none⟩), .int .i64 n] w fun e w' => e = .returned (.tuple #[.int .i64 i, .bool true]) ∧ (∃ cn' ce', FH w' g bn be N Q (remS s i n a b) cn' ce') ∧ ButL [bn, be] w.heap.size w w' := by
  obtain ⟨l1, l2, l3⟩ := I.link i hi a n b he
  have hla : la a = p := by rw [ha]; exact la_snoc _ _
  have hhb : hd b = y := by rw [hb]; rfl
  rw [hla] at l2
  rw [hhb] at l3
  have hn : n < N := I.lt i hi n (by rw [he]; simp)
  have hen : s.en i = ((L i).length : Int) := I.en i hi
  have hpos : 1 ≤ (L i).length := by rw [he]; simp; omega
  have hp : p < N := I.lt i hi p (by rw [he, ha]; simp)
  have hy : y < N := I.lt i hi y (by rw [he, hb]; simp)
  obtain ⟨m0, m1, m2⟩ := f.n hn
  rw [l2] at m0
  rw [l3] at m1
  rw [l1] at m2
  have HO := Lib.hid (of_yes f n i hn l1)
  have hce := f.te.1
  have hcn := f.tn.1
  have hlim := f.lim
  have hne := f.ne
  have hhd := f.hd
  have hlt := f.hd.lt
  have hltn := f.fbn.lt
  have hlte := f.fbe.lt
  have hbn := f.fbn
  have hbe := f.fbe
  have hni : i * 3 + 2 < ce.size := by omega
  have hnn : n * 3 + 2 < cn.size := by omega
  have hnp : p * 3 + 2 < cn.size := by omega
  have hny : y * 3 + 2 < cn.size := by omega
  have HA := Lib.hid ha
  have HB := Lib.hid hb
  have HLA := Lib.hid hla
  have HHB := Lib.hid hhb
  have HN := Lib.hid hen
  clear ha hb hla hhb hen he l1 l2 l3 I
  have HH : ∀ W, Below w.heap.size w W → Blk W g _ _ := fun W hW => hhd.ext hW
  go_enter Tryz.func104, Tryz.ntmps104
  go_wp2_with (first | (go_at_call 117; refine HO.out.mono ?_; rintro e w' ⟨rfl, rfl⟩) | fail)
  go_region_held3 (fun w' => w'.cell? ⟨bn, n * 3, none⟩ = some (.int .i64 p) ∧ w'.cell? ⟨bn, n * 3 + 1, none⟩ = some (.int .i64 y) ∧ w'.cell? ⟨bn, n * 3 + 2, none⟩ = some (.int .i64 i)) (go_keep) (first | (go_at_call 94; refine (node_yes (HH _ (by (repeat (first | with_reducible exact Below.refl _ _ | (with_reducible assumption) | (with_reducible refine below_alloc ?_ _) | (with_reducible refine below_ext (w1 := ?_) ?_ ?_; rotate_left 2; (with_reducible assumption)) | (with_reducible refine Below.setCell ?_ ?_ _; rotate_left; ((try simp) <;> omega)) | (with_reducible refine Below.drew ?_) | (with_reducible refine below_drewN ?_ _) | fail)))) hlim n hn).mono ?_; rintro e w'' ⟨rfl, rfl⟩) | (go_at_call 93; refine (queue_yes (HH _ (by (repeat (first | with_reducible exact Below.refl _ _ | (with_reducible assumption) | (with_reducible refine below_alloc ?_ _) | (with_reducible refine below_ext (w1 := ?_) ?_ ?_; rotate_left 2; (with_reducible assumption)) | (with_reducible refine Below.setCell ?_ ?_ _; rotate_left; ((try simp) <;> omega)) | (with_reducible refine Below.drew ?_) | (with_reducible refine below_drewN ?_ _) | fail)))) hlim i hi).mono ?_; rintro e w'' ⟨rfl, rfl⟩))
  all_goals
    have hR2 : Blk (w.alloc (.cells #[.int .i64 p, .int .i64 y, .int .i64 i] 143)).drew w.heap.size 143 #[.int .i64 p, .int .i64 y, .int .i64 i] := (Blk.new _ _ _ _ rfl).drew
    have hb2 : Below w.heap.size w (w.alloc (.cells #[.int .i64 p, .int .i64 y, .int .i64 i] 143)).drew := by (repeat (first | with_reducible exact Below.refl _ _ | (with_reducible assumption) | (with_reducible refine below_alloc ?_ _) | (with_reducible refine below_ext (w1 := ?_) ?_ ?_; rotate_left 2; (with_reducible assumption)) | (with_reducible refine Below.setCell ?_ ?_ _; rotate_left; ((try simp) <;> omega)) | (with_reducible refine Below.drew ?_) | (with_reducible refine below_drewN ?_ _) | fail))
    generalize (w.alloc (.cells #[.int .i64 p, .int .i64 y, .int .i64 i] 143)).drew = w2 at *
    have r0 : w2.cell? ⟨w.heap.size, 0, none⟩ = some (.int .i64 p) := hR2.cell 0
    have r1 : w2.cell? ⟨w.heap.size, 1, none⟩ = some (.int .i64 y) := hR2.cell 1
    go_wp2_with fail
    have hhd2 := hhd.ext hb2
    have hbn2 := hbn.ext hb2
    have hbe2 := hbe.ext hb2
    refine (node_yes hhd2 hlim p hp).mono ?_
    rintro e w' ⟨rfl, rfl⟩
    go_wp2_with (first | (((with_reducible show wpList _ _ _ (⟨_, .store _ _ _, _, _, _, _⟩ :: _) _ _); refine wpList_store_fld (by rfl) _ _ _ (by rfl) _ _ (by rfl) _ (by rfl) _ _ hbn2 ?_ ?_ (by rfl) (by rfl) ?_; (next => first | omega | ((try simp) <;> omega)); (next => kernel_rfl); intro w3 hbn3 hU3); replace hbn3 : Blk w3 bn 143 (cn.setIfInBounds (p * 3 + 1) (.int .i64 y)) := hbn3; have hbe3 := hbe2.upd (Ne.symm hne.2.2) hU3; have r0' : w3.cell? ⟨w.heap.size, 0, none⟩ = some (.int .i64 p) := (hR2.upd (by omega) hU3).cell 0; have r1' := (hR2.upd (show w.heap.size ≠ _ by omega) hU3).cell 1; simp only [List.getElem?_toArray, List.getElem?_cons_zero, List.getElem?_cons_succ] at r1') | fail)
    have hhd3 := hhd2.upd hne.1 hU3
    have hR3 := hR2.upd (show w.heap.size ≠ bn by omega) hU3
    have t1n := (f.tn.set1 hp y)
    have t1e := f.te
    have u1n := t1n.1
    have u1e := t1e.1
    refine (node_yes hhd3 hlim y hy).mono ?_
    rintro e w' ⟨rfl, rfl⟩
    have t2n := (t1n.set0 hy p)
    have t2e := t1e
    have u2n := t2n.1
    have u2e := t2e.1
    have z2 := ((t2e.2 i hi).2.2).trans (by rw [HN.out] : _ = some (Value.int .i64 ((L i).length : Int)))
    go_wp2_with (first | (((with_reducible show wpList _ _ _ (⟨_, .store _ _ _, _, _, _, _⟩ :: _) _ _); refine wpList_store_fld (by rfl) _ _ _ (by rfl) _ _ (by rfl) _ (by rfl) _ _ hbn3 ?_ ?_ (by rfl) (by rfl) ?_; (next => first | omega | ((try simp) <;> omega)); (next => kernel_rfl); intro w4 hbn4 hU4); replace hbn4 : Blk w4 bn 143 ((cn.setIfInBounds (p * 3 + 1) (.int .i64 y)).setIfInBounds (y * 3) (.int .i64 p)) := hbn4; have hbe4 := hbe3.upd (Ne.symm hne.2.2) hU4; have g2 : w4.cell? ⟨be, i * 3 + 2, none⟩ = some (.int .i64 ((L i).length : Int)) := (hbe4.cell _).trans z2) | ((with_reducible show wpList _ _ _ (⟨_, .store _ _ _, _, _, _, _⟩ :: _) _ _); refine wpList_store_fld (by rfl) _ _ _ (by rfl) _ _ (by rfl) _ (by rfl) _ _ hbe4 ?_ ?_ (by rfl) (by rfl) ?_; (next => first | omega | ((try simp) <;> omega)); (next => kernel_rfl); intro w5 hbe5 hU5) | fail)
    replace hbe5 : Blk w5 be 146 ((ce).setIfInBounds (i * 3 + 2) (.int .i64 ((L i).length - 1))) := hbe5
    have hhd4 := hhd3.upd hne.1 hU4
    have hhd5 := hhd4.upd hne.2.1 hU5
    have hbn5 := hbn4.upd hne.2.2 hU5
    refine wp_region_below_tail 7 (by kernel_rfl) (by kernel_rfl) ?_
    simp only [List.take_succ_cons, List.take_zero, List.drop_succ_cons, List.drop_zero]
    repeat (first | go_big_quiet_skip | (go_big_quiet_want; go_big_quiet_op; go_big_quiet_on) | (refine q_load_fld (by rfl) _ _ (by rfl) (fun _ h => h) _ _ (by rfl) ?_ ?_ ?_ ?_ ?_ ?_; rotate_left; (next => (repeat (first | (with_reducible refine BlkAt.new _ _ _ _ ?_; ((try simp) <;> omega)) | (with_reducible assumption) | (with_reducible refine Blk.at (t := ?_) ?_; rotate_left; with_reducible assumption) | with_reducible refine BlkAt.alloc ?_ _ | with_reducible refine BlkAt.drew ?_ | (with_reducible refine BlkAt.setSame ?_ _ _) | (with_reducible refine BlkAt.setCell ?_ ?_ _; rotate_left; ((try simp) <;> omega)) | (with_reducible refine BlkAt.ext (w := ?_) ?_ ?_; rotate_left 2; (with_reducible assumption)) | fail))); rotate_left; (next => first | (simp only [go_sem]; rfl) | rfl); (next => kernel_rfl); (try simp only [Act.put, List.setIfInBounds_toArray, List.set_cons_zero, List.set_cons_succ])) | (refine q_rem (by rfl) _ _ _ _ (by rfl) _ _ (by rfl) (by rfl) (by kernel_rfl) (by kernel_rfl) ?_ ?_; (next => omega); (try simp only [Act.put, List.setIfInBounds_toArray, List.set_cons_zero, List.set_cons_succ])) | (refine q_step_ex (by rfl) ?_; apply Exists.intro; refine ⟨fun W hW => ?_, ?_⟩; (next => (have hWc := fun (b o : Nat) (h : b < _) => (Ext.out hW).cell (p := ⟨b, o, none⟩) h); (try have hLK := HLK.out W (Ext.out hW)); go_simp; first | rfl | (go_at_call 63; refine (loose_any _).mono ?_; rintro e w'' ⟨rfl, hb3⟩; exact ⟨rfl, below_ext hW hb3⟩) | fail); (try simp only [Act.put, List.setIfInBounds_toArray, List.set_cons_zero, List.set_cons_succ])) | fail)
    refine wpQuiet_nil ?_
    intro wr hbr
    have hbn6 := hbn5.ext hbr
    ((with_reducible show wpList _ _ _ (⟨_, .store _ _ _, _, _, _, _⟩ :: _) _ _); refine wpList_store_put (by rfl) _ _ _ (by rfl) _ _ _ (by rfl) (by rfl) _ _ hbn6 ?_ ?_ ?_ ?_; (next => kernel_rfl); (next => rw [rfl3]; omega); (next => first | exact slotArr_one _ _ | exact ordArr_one _ | (simp [Value.oneCell']; done)); intro w7 hbn7 hU7)
    go_wp2_with fail
    go_ret2
    have z3 := hU3.size
    have z4 := hU4.size
    have z5 := hU5.size
    have z0 := hb2.size
    have ha := HA.out
    have hb := HB.out
    have hla := HLA.out
    have hhb := HHB.out
    refine ⟨rfl, ⟨_, _, ⟨(hhd5.ext hbr).upd hne.1 hU7, hbn7, (hbe5.ext hbr).upd (Ne.symm hne.2.2) hU7, (t2n.all hn (-1) (-1) (-1)).eq ?_ ?_ ?_, (t2e.set2 hi (((L i).length : Int) - 1)).eq ?_ ?_ ?_, hne, hlim⟩⟩, (((((ButL.of_below hb2).upd (by simp) hU3).upd (by simp) hU4).upd (by simp) hU5).ext (by omega) hbr).upd (by simp) hU7⟩
    · simp [remS, ha, hb, la_snoc, hd]
    · simp [remS, ha, hb, la_snoc, hd]
    · simp [remS]
    · simp [remS, ha, hb, hd]
    · simp [remS, ha, hb, la_snoc]
    · simp [remS, HN.out]
end
end Fif
end Go.Proofs.YtbnappiaomiciaaGreat
namespace Go.Proofs.YtbnappiaomiciaaGreat
set_option linter.unusedVariables false
open Go.RowKit
namespace Fif
set_option maxHeartbeats 1000000
set_option maxRecDepth 10000

/-- Queues that hold these lists. -/
def Fq (w : World) (g bn be N Q : Nat) (L : Nat → List Nat) : Prop := ∃ s cn ce, FH w g bn be N Q s cn ce ∧ Inv N Q s L
section
variable {w : World} {g bn be N Q : Nat} {L : Nat → List Nat}
theorem Fq.ext {w' : World} (h : Fq w g bn be N Q L) (hb : Below w.heap.size w w') : Fq w' g bn be N Q L := by
  obtain ⟨s, cn, ce, f, I⟩ := h
  exact ⟨s, cn, ce, f.ext hb, I⟩
theorem Fq.lt (h : Fq w g bn be N Q L) : g < w.heap.size ∧ bn < w.heap.size ∧ be < w.heap.size := by
  obtain ⟨s, cn, ce, f, I⟩ := h
  exact ⟨f.hd.lt, f.fbn.lt, f.fbe.lt⟩
theorem Inv.len {N Q : Nat} {s : Fs} {L : Nat → List Nat} (I : Inv N Q s L) {i : Nat} (hi : i < Q) : (L i).length ≤ N := len_le N _ (I.nodup i hi) (I.lt i hi)
/-- Not in any queue. -/
def free (Q : Nat) (L : Nat → List Nat) (n : Nat) : Prop := ∀ j, j < Q → n ∉ L j
theorem q_push_yes (h : Fq w g bn be N Q L) (i n : Nat) (hi : i < Q) (hn : n < N) (hl : free Q L n) :
    Calls Tryz.prog 61 #[.pointer (some ⟨g, 0, none⟩), .int .i64 i, .int .i64 n] w fun e w' => e = .returned (.bool true) ∧ Fq w' g bn be N Q (up L i (L i ++ [n])) ∧ ButL [bn, be] w.heap.size w w' := by
  obtain ⟨s, cn, ce, f, I⟩ := h
  refine (push_yes f I i n hi hn hl (Nat.le_trans (I.len hi) f.lim.1)).mono ?_
  rintro e w' ⟨h1, ⟨cn', ce', f'⟩, h2⟩
  exact ⟨h1, ⟨_, cn', ce', f', I.push hi hn hl⟩, h2⟩
theorem q_remove_yes (h : Fq w g bn be N Q L) (i n : Nat) (a b : List Nat) (hi : i < Q) (he : L i = a ++ n :: b) :
    Calls Tryz.prog 104 #[.pointer (some ⟨g, 0, none⟩), .int .i64 n] w fun e w' => e = .returned (.tuple #[.int .i64 i, .bool true]) ∧ Fq w' g bn be N Q (up L i (a ++ b)) ∧ ButL [bn, be] w.heap.size w w' := by
  obtain ⟨s, cn, ce, f, I⟩ := h
  have hlen := Nat.le_trans (I.len hi) f.lim.1
  have main : Calls Tryz.prog 104 #[.pointer (some ⟨g, 0, none⟩), .int .i64 n] w fun e w' => e = .returned (.tuple #[.int .i64 i, .bool true]) ∧ (∃ cn' ce', FH w' g bn be N Q (remS s i n a b) cn' ce') ∧ ButL [bn, be] w.heap.size w w' := by
    by_cases ha : a = []
    · cases b with
      | nil => exact rem_nn f I i n a [] hi he ha rfl hlen
      | cons y b0 => exact rem_nb f I i n a (y :: b0) hi he ha y b0 rfl hlen
    · obtain ⟨a0, p, ha'⟩ := snoc_of ha
      cases b with
      | nil => exact rem_an f I i n a [] hi he p a0 ha' rfl hlen
      | cons y b0 => exact rem_ab f I i n a (y :: b0) hi he p a0 ha' y b0 rfl hlen
  refine main.mono ?_
  rintro e w' ⟨h1, ⟨cn', ce', f'⟩, h2⟩
  exact ⟨h1, ⟨_, cn', ce', f', I.remove hi he⟩, h2⟩
end
end Fif
end Go.Proofs.YtbnappiaomiciaaGreat
namespace Go.Proofs.YtbnappiaomiciaaGreat
set_option linter.unusedVariables false
open Go.RowKit
namespace Fif
set_option maxHeartbeats 1000000
set_option maxRecDepth 10000

def zz (k : Nat) : Nat → Int := fun j => if j < k then -1 else 0
theorem zz_succ (k : Nat) : up (zz k) k (-1) = zz (k + 1) := by
  funext i
  by_cases e : i = k
  · subst e; simp [up_same, zz]
  · rw [up_ne _ _ e]
    unfold zz
    by_cases h : i < k
    · rw [if_pos h, if_pos (by omega)]
    · rw [if_neg h, if_neg (by omega)]
theorem up_zero (k : Nat) : up (fun _ => (0 : Int)) k 0 = fun _ => 0 := by
  funext i
  unfold up
  split <;> rfl
theorem tri_zero (n : Nat) : Tri (madeCells #[.int .i64 0, .int .i64 0, .int .i64 0] (n * 3)) n (zz 0) (zz 0) (fun _ => 0) := by
  have h : ∀ k, k < n * 3 → (madeCells #[.int .i64 0, .int .i64 0, .int .i64 0] (n * 3))[k]? = some (Value.int .i64 0) := fun k hk =>
    madeCells_all (fun i hi => by
      match i, hi with
      | 0, _ => rfl
      | 1, _ => rfl
      | 2, _ => rfl) (by decide) _ _ hk
  exact ⟨size_madeCells _ _, fun k hk => ⟨h _ (by omega), h _ (by omega), h _ (by omega)⟩⟩
theorem Tri.full {cs : Array Value} {n : Nat} (t : Tri cs n (zz n) (zz n) (zz n)) : Tri cs n fs0.na fs0.nb fs0.nq := by
  refine ⟨t.1, fun k hk => ?_⟩
  have h := t.2 k hk
  simp only [zz, if_pos hk] at h
  exact h
theorem Tri.full0 {cs : Array Value} {n : Nat} (t : Tri cs n (zz n) (zz n) (fun _ => 0)) : Tri cs n fs0.ef fs0.el fs0.en := by
  refine ⟨t.1, fun k hk => ?_⟩
  have h := t.2 k hk
  simp only [zz, if_pos hk] at h
  exact h
def FNewPost (N Q : Nat) (w : World) (e : Ending) (w' : World) : Prop :=
  ∃ g bn be, e = .returned (.tuple #[.pointer (some ⟨g, 0, none⟩), .int .i64 0]) ∧ (w.heap.size ≤ g ∧ w.heap.size ≤ bn ∧ w.heap.size ≤ be) ∧ Fq w' g bn be N Q (fun _ => []) ∧ Below w.heap.size w w'
theorem fnew_any (N Q : Nat) (w : World) (h1 : 1 ≤ N ∧ N ≤ 500) (h2 : 1 ≤ Q ∧ Q ≤ 400) :
    Calls Tryz.prog 24 #[.int .i64 N, .int .i64 Q] w (FNewPost N Q w) := by
  obtain ⟨h1a, h1b⟩ := h1
  obtain ⟨h2a, h2b⟩ := h2
  have hm1 : ∀ W : World, (Instr.makeSlice 138 (.int .i64 N) (.int .i64 N)).run Tryz.prog W = .ok (.slice (some ⟨W.heap.size, 0, none⟩) N N) (W.alloc (.cells (madeCells #[.int .i64 0, .int .i64 0, .int .i64 0] (N * 3)) 143)) := fun W => by
    obtain ⟨i, hi, hz, hs, hby⟩ := info_parts (P := Tryz.prog) (e := 143) (z := .agg #[.int .i64 0, .int .i64 0, .int .i64 0]) (size := 3) (bytes := 24) (by kernel_rfl)
    have hr := run_make (P := Tryz.prog) W 138 143 i _ Tryz.underlying138 hi hz .i64 .i64 N N (by omega) (Int.le_refl _) (by rw [hby]; omega) (by omega)
    rw [hs] at hr
    simp only [Int.toNat_natCast] at hr
    exact hr
  have hm2 : ∀ W : World, (Instr.makeSlice 139 (.int .i64 Q) (.int .i64 Q)).run Tryz.prog W = .ok (.slice (some ⟨W.heap.size, 0, none⟩) Q Q) (W.alloc (.cells (madeCells #[.int .i64 0, .int .i64 0, .int .i64 0] (Q * 3)) 146)) := fun W => by
    obtain ⟨i, hi, hz, hs, hby⟩ := info_parts (P := Tryz.prog) (e := 146) (z := .agg #[.int .i64 0, .int .i64 0, .int .i64 0]) (size := 3) (bytes := 24) (by kernel_rfl)
    have hr := run_make (P := Tryz.prog) W 139 146 i _ Tryz.underlying139 hi hz .i64 .i64 Q Q (by omega) (Int.le_refl _) (by rw [hby]; omega) (by omega)
    rw [hs] at hr
    simp only [Int.toNat_natCast] at hr
    exact hr
  go_enter Tryz.func24, Tryz.ntmps24
  go_wp2_with fail
  go_region_with fail
  · have hG : Blk (((w.alloc (.cells (madeCells #[.int .i64 0, .int .i64 0, .int .i64 0] (N * 3)) 143)).alloc (.cells (madeCells #[.int .i64 0, .int .i64 0, .int .i64 0] (Q * 3)) 146)).alloc (.cells #[.slice (some ⟨w.heap.size, 0, none⟩) N N, .slice (some ⟨w.heap.size + 1, 0, none⟩) Q Q] 141)).drew (w.heap.size + 1 + 1) 141 #[.slice (some ⟨w.heap.size, 0, none⟩) N N, .slice (some ⟨w.heap.size + 1, 0, none⟩) Q Q] := (Blk.new _ _ _ _ (by rw [sz_alloc, sz_alloc])).drew
    have hX : Blk (((w.alloc (.cells (madeCells #[.int .i64 0, .int .i64 0, .int .i64 0] (N * 3)) 143)).alloc (.cells (madeCells #[.int .i64 0, .int .i64 0, .int .i64 0] (Q * 3)) 146)).alloc (.cells #[.slice (some ⟨w.heap.size, 0, none⟩) N N, .slice (some ⟨w.heap.size + 1, 0, none⟩) Q Q] 141)).drew w.heap.size 143 (madeCells #[.int .i64 0, .int .i64 0, .int .i64 0] (N * 3)) := (((Blk.new w _ _ _ rfl).alloc _).alloc _).drew
    have hY : Blk (((w.alloc (.cells (madeCells #[.int .i64 0, .int .i64 0, .int .i64 0] (N * 3)) 143)).alloc (.cells (madeCells #[.int .i64 0, .int .i64 0, .int .i64 0] (Q * 3)) 146)).alloc (.cells #[.slice (some ⟨w.heap.size, 0, none⟩) N N, .slice (some ⟨w.heap.size + 1, 0, none⟩) Q Q] 141)).drew (w.heap.size + 1) 146 (madeCells #[.int .i64 0, .int .i64 0, .int .i64 0] (Q * 3)) := ((Blk.new _ _ _ _ (sz_alloc _ _)).alloc _).drew
    have hb0 : Below w.heap.size w (((w.alloc (.cells (madeCells #[.int .i64 0, .int .i64 0, .int .i64 0] (N * 3)) 143)).alloc (.cells (madeCells #[.int .i64 0, .int .i64 0, .int .i64 0] (Q * 3)) 146)).alloc (.cells #[.slice (some ⟨w.heap.size, 0, none⟩) N N, .slice (some ⟨w.heap.size + 1, 0, none⟩) Q Q] 141)).drew := by (repeat (first | with_reducible exact Below.refl _ _ | (with_reducible assumption) | (with_reducible refine below_alloc ?_ _) | (with_reducible refine below_ext (w1 := ?_) ?_ ?_; rotate_left 2; (with_reducible assumption)) | (with_reducible refine Below.setCell ?_ ?_ _; rotate_left; ((try simp) <;> omega)) | (with_reducible refine Below.drew ?_) | (with_reducible refine below_drewN ?_ _) | fail))
    generalize (((w.alloc (.cells (madeCells #[.int .i64 0, .int .i64 0, .int .i64 0] (N * 3)) 143)).alloc (.cells (madeCells #[.int .i64 0, .int .i64 0, .int .i64 0] (Q * 3)) 146)).alloc (.cells #[.slice (some ⟨w.heap.size, 0, none⟩) N N, .slice (some ⟨w.heap.size + 1, 0, none⟩) Q Q] 141)).drew = w0 at *
    have c0 : w0.cell? ⟨w.heap.size + 1 + 1, 0, none⟩ = some (.slice (some ⟨w.heap.size, 0, none⟩) N N) := hG.cell 0
    have zn := tri_zero N
    have ze := tri_zero Q
    go_wp2_with fail
    go_loopw [34] (fun a wr => ∃ k : Nat, a = .int .i64 k ∧ k ≤ N ∧ (∃ cn, Blk wr w.heap.size 143 cn ∧ Tri cn N (zz k) (zz k) (zz k)) ∧ Blk wr (w.heap.size + 1) 146 (madeCells #[.int .i64 0, .int .i64 0, .int .i64 0] (Q * 3)) ∧ Blk wr (w.heap.size + 1 + 1) 141 #[.slice (some ⟨w.heap.size, 0, none⟩) N N, .slice (some ⟨w.heap.size + 1, 0, none⟩) Q Q] ∧ Below w.heap.size w wr) (fun a _ => N - (intOf a).toNat)
    case atStart => exact ⟨0, rfl, Nat.zero_le _, ⟨_, hX, zn⟩, hY, hG, hb0⟩
    case round =>
      obtain ⟨k, rfl, hk, ⟨cn, hbn, tn⟩, hbe, hg, hb⟩ := hrel
      by_cases hlt : k < N
      · have hcn := tn.1
        have e1 : (k : Int) < (N : Int) := by omega
        go_wp2_with fail
        refine wp_region_below_tail 7 (by kernel_rfl) (by kernel_rfl) ?_
        simp only [List.take_succ_cons, List.take_zero, List.drop_succ_cons, List.drop_zero]
        repeat (first | go_big_quiet_skip | (go_big_quiet_want; go_big_quiet_op; go_big_quiet_on) | (refine q_load_fld (by rfl) _ _ (by rfl) (fun _ h => h) _ _ (by rfl) ?_ ?_ ?_ ?_ ?_ ?_; rotate_left; (next => (repeat (first | (with_reducible refine BlkAt.new _ _ _ _ ?_; ((try simp) <;> omega)) | (with_reducible assumption) | (with_reducible refine Blk.at (t := ?_) ?_; rotate_left; with_reducible assumption) | with_reducible refine BlkAt.alloc ?_ _ | with_reducible refine BlkAt.drew ?_ | (with_reducible refine BlkAt.setSame ?_ _ _) | (with_reducible refine BlkAt.setCell ?_ ?_ _; rotate_left; ((try simp) <;> omega)) | (with_reducible refine BlkAt.ext (w := ?_) ?_ ?_; rotate_left 2; (with_reducible assumption)) | fail))); rotate_left; (next => first | (simp only [go_sem]; rfl) | rfl); (next => kernel_rfl); (try simp only [Act.put, List.setIfInBounds_toArray, List.set_cons_zero, List.set_cons_succ])) | (refine q_rem (by rfl) _ _ _ _ (by rfl) _ _ (by rfl) (by rfl) (by kernel_rfl) (by kernel_rfl) ?_ ?_; (next => omega); (try simp only [Act.put, List.setIfInBounds_toArray, List.set_cons_zero, List.set_cons_succ])) | (refine q_step_ex (by rfl) ?_; apply Exists.intro; refine ⟨fun W hW => ?_, ?_⟩; (next => (have hWc := fun (b o : Nat) (h : b < _) => (Ext.out hW).cell (p := ⟨b, o, none⟩) h); (try have hLK := HLK.out W (Ext.out hW)); go_simp; first | rfl | (go_at_call 63; refine (loose_any _).mono ?_; rintro e w'' ⟨rfl, hb3⟩; exact ⟨rfl, below_ext hW hb3⟩) | fail); (try simp only [Act.put, List.setIfInBounds_toArray, List.set_cons_zero, List.set_cons_succ])) | fail)
        refine wpQuiet_nil ?_
        intro wq hbq
        have hbn2 := hbn.ext hbq
        ((with_reducible show wpList _ _ _ (⟨_, .store _ _ _, _, _, _, _⟩ :: _) _ _); refine wpList_store_put (by rfl) _ _ _ (by rfl) _ _ _ (by rfl) (by rfl) _ _ hbn2 ?_ ?_ ?_ ?_; (next => kernel_rfl); (next => rw [rfl3]; omega); (next => first | exact slotArr_one _ _ | exact ordArr_one _ | (simp [Value.oneCell']; done)); intro w5 hbn5 hU5)
        go_wp2_with fail
        have hz := hbq.size
        have hgl := hg.lt
        go_roundw
        case rel => exact ⟨k + 1, by go_num, by omega, ⟨_, hbn5, (tn.all hlt (-1) (-1) (-1)).eq (zz_succ k) (zz_succ k) (zz_succ k)⟩, (hbe.ext hbq).upd (by omega) hU5, (hg.ext hbq).upd (by omega) hU5, below_upd (below_ext hb hbq) (by omega) hU5⟩
        case measure => simp [intOf]; omega
      · have hkN : k = N := by omega
        subst hkN
        have c1 : wr.cell? ⟨w.heap.size + 1 + 1, 1, none⟩ = some (.slice (some ⟨w.heap.size + 1, 0, none⟩) Q Q) := hg.cell 1
        go_wp2_with fail
        obtain ⟨wo, rfl⟩ : ∃ wo : World, wo = wr := ⟨_, rfl⟩
        go_loopw [50] (fun a wr => ∃ j : Nat, a = .int .i64 j ∧ j ≤ Q ∧ Blk wr w.heap.size 143 cn ∧ (∃ ce, Blk wr (w.heap.size + 1) 146 ce ∧ Tri ce Q (zz j) (zz j) (fun _ => 0)) ∧ Blk wr (w.heap.size + 1 + 1) 141 #[.slice (some ⟨w.heap.size, 0, none⟩) k k, .slice (some ⟨w.heap.size + 1, 0, none⟩) Q Q] ∧ Below w.heap.size w wr) (fun a _ => Q - (intOf a).toNat)
        case atStart => exact ⟨0, rfl, Nat.zero_le _, hbn, ⟨_, hbe, ze⟩, hg, hb⟩
        case round =>
          obtain ⟨j, rfl, hj, hbn1, ⟨ce, hbe1, te⟩, hg1, hb1⟩ := hrel
          by_cases hlt2 : j < Q
          · have hce := te.1
            have e1 : (j : Int) < (Q : Int) := by omega
            go_wp2_with fail
            refine wp_region_below_tail 7 (by kernel_rfl) (by kernel_rfl) ?_
            simp only [List.take_succ_cons, List.take_zero, List.drop_succ_cons, List.drop_zero]
            repeat (first | go_big_quiet_skip | (go_big_quiet_want; go_big_quiet_op; go_big_quiet_on) | (refine q_load_fld (by rfl) _ _ (by rfl) (fun _ h => h) _ _ (by rfl) ?_ ?_ ?_ ?_ ?_ ?_; rotate_left; (next => (repeat (first | (with_reducible refine BlkAt.new _ _ _ _ ?_; ((try simp) <;> omega)) | (with_reducible assumption) | (with_reducible refine Blk.at (t := ?_) ?_; rotate_left; with_reducible assumption) | with_reducible refine BlkAt.alloc ?_ _ | with_reducible refine BlkAt.drew ?_ | (with_reducible refine BlkAt.setSame ?_ _ _) | (with_reducible refine BlkAt.setCell ?_ ?_ _; rotate_left; ((try simp) <;> omega)) | (with_reducible refine BlkAt.ext (w := ?_) ?_ ?_; rotate_left 2; (with_reducible assumption)) | fail))); rotate_left; (next => first | (simp only [go_sem]; rfl) | rfl); (next => kernel_rfl); (try simp only [Act.put, List.setIfInBounds_toArray, List.set_cons_zero, List.set_cons_succ])) | (refine q_rem (by rfl) _ _ _ _ (by rfl) _ _ (by rfl) (by rfl) (by kernel_rfl) (by kernel_rfl) ?_ ?_; (next => omega); (try simp only [Act.put, List.setIfInBounds_toArray, List.set_cons_zero, List.set_cons_succ])) | (refine q_step_ex (by rfl) ?_; apply Exists.intro; refine ⟨fun W hW => ?_, ?_⟩; (next => (have hWc := fun (b o : Nat) (h : b < _) => (Ext.out hW).cell (p := ⟨b, o, none⟩) h); (try have hLK := HLK.out W (Ext.out hW)); go_simp; first | rfl | (go_at_call 64; refine (empty_any _).mono ?_; rintro e w'' ⟨rfl, hb3⟩; exact ⟨rfl, below_ext hW hb3⟩) | fail); (try simp only [Act.put, List.setIfInBounds_toArray, List.set_cons_zero, List.set_cons_succ])) | fail)
            refine wpQuiet_nil ?_
            intro wq hbq
            have hbe2 := hbe1.ext hbq
            ((with_reducible show wpList _ _ _ (⟨_, .store _ _ _, _, _, _, _⟩ :: _) _ _); refine wpList_store_put (by rfl) _ _ _ (by rfl) _ _ _ (by rfl) (by rfl) _ _ hbe2 ?_ ?_ ?_ ?_; (next => kernel_rfl); (next => rw [rfl3]; omega); (next => first | exact slotArr_one _ _ | exact ordArr_one _ | (simp [Value.oneCell']; done)); intro w5 hbe5 hU5)
            go_wp2_with fail
            have hz := hbq.size
            have hgl := hg1.lt
            go_roundw
            case rel => exact ⟨j + 1, by go_num, by omega, (hbn1.ext hbq).upd (by omega) hU5, ⟨_, hbe5, (te.all hlt2 (-1) (-1) 0).eq (zz_succ j) (zz_succ j) (up_zero j)⟩, (hg1.ext hbq).upd (by omega) hU5, below_upd (below_ext hb1 hbq) (by omega) hU5⟩
            case measure => simp [intOf]; omega
          · have hjQ : j = Q := by omega
            subst hjQ
            go_wp2_with fail
            go_ret2
            exact ⟨_, _, _, rfl, by omega, ⟨fs0, _, _, ⟨hg1, hbn1, hbe1, tn.full, te.full0, by omega, by omega⟩, inv0 _ _⟩, hb1⟩
  · have hG : Blk (((w.alloc (.cells (madeCells #[.int .i64 0, .int .i64 0, .int .i64 0] (Q * 3)) 146)).alloc (.cells (madeCells #[.int .i64 0, .int .i64 0, .int .i64 0] (N * 3)) 143)).alloc (.cells #[.slice (some ⟨w.heap.size + 1, 0, none⟩) N N, .slice (some ⟨w.heap.size, 0, none⟩) Q Q] 141)).drew (w.heap.size + 1 + 1) 141 #[.slice (some ⟨w.heap.size + 1, 0, none⟩) N N, .slice (some ⟨w.heap.size, 0, none⟩) Q Q] := (Blk.new _ _ _ _ (by rw [sz_alloc, sz_alloc])).drew
    have hX : Blk (((w.alloc (.cells (madeCells #[.int .i64 0, .int .i64 0, .int .i64 0] (Q * 3)) 146)).alloc (.cells (madeCells #[.int .i64 0, .int .i64 0, .int .i64 0] (N * 3)) 143)).alloc (.cells #[.slice (some ⟨w.heap.size + 1, 0, none⟩) N N, .slice (some ⟨w.heap.size, 0, none⟩) Q Q] 141)).drew w.heap.size 146 (madeCells #[.int .i64 0, .int .i64 0, .int .i64 0] (Q * 3)) := (((Blk.new w _ _ _ rfl).alloc _).alloc _).drew
    have hY : Blk (((w.alloc (.cells (madeCells #[.int .i64 0, .int .i64 0, .int .i64 0] (Q * 3)) 146)).alloc (.cells (madeCells #[.int .i64 0, .int .i64 0, .int .i64 0] (N * 3)) 143)).alloc (.cells #[.slice (some ⟨w.heap.size + 1, 0, none⟩) N N, .slice (some ⟨w.heap.size, 0, none⟩) Q Q] 141)).drew (w.heap.size + 1) 143 (madeCells #[.int .i64 0, .int .i64 0, .int .i64 0] (N * 3)) := ((Blk.new _ _ _ _ (sz_alloc _ _)).alloc _).drew
    have hb0 : Below w.heap.size w (((w.alloc (.cells (madeCells #[.int .i64 0, .int .i64 0, .int .i64 0] (Q * 3)) 146)).alloc (.cells (madeCells #[.int .i64 0, .int .i64 0, .int .i64 0] (N * 3)) 143)).alloc (.cells #[.slice (some ⟨w.heap.size + 1, 0, none⟩) N N, .slice (some ⟨w.heap.size, 0, none⟩) Q Q] 141)).drew := by (repeat (first | with_reducible exact Below.refl _ _ | (with_reducible assumption) | (with_reducible refine below_alloc ?_ _) | (with_reducible refine below_ext (w1 := ?_) ?_ ?_; rotate_left 2; (with_reducible assumption)) | (with_reducible refine Below.setCell ?_ ?_ _; rotate_left; ((try simp) <;> omega)) | (with_reducible refine Below.drew ?_) | (with_reducible refine below_drewN ?_ _) | fail))
    generalize (((w.alloc (.cells (madeCells #[.int .i64 0, .int .i64 0, .int .i64 0] (Q * 3)) 146)).alloc (.cells (madeCells #[.int .i64 0, .int .i64 0, .int .i64 0] (N * 3)) 143)).alloc (.cells #[.slice (some ⟨w.heap.size + 1, 0, none⟩) N N, .slice (some ⟨w.heap.size, 0, none⟩) Q Q] 141)).drew = w0 at *
    have c0 : w0.cell? ⟨w.heap.size + 1 + 1, 0, none⟩ = some (.slice (some ⟨w.heap.size + 1, 0, none⟩) N N) := hG.cell 0
    have zn := tri_zero N
    have ze := tri_zero Q
    go_wp2_with fail
    go_loopw [34] (fun a wr => ∃ k : Nat, a = .int .i64 k ∧ k ≤ N ∧ (∃ cn, Blk wr (w.heap.size + 1) 143 cn ∧ Tri cn N (zz k) (zz k) (zz k)) ∧ Blk wr w.heap.size 146 (madeCells #[.int .i64 0, .int .i64 0, .int .i64 0] (Q * 3)) ∧ Blk wr (w.heap.size + 1 + 1) 141 #[.slice (some ⟨w.heap.size + 1, 0, none⟩) N N, .slice (some ⟨w.heap.size, 0, none⟩) Q Q] ∧ Below w.heap.size w wr) (fun a _ => N - (intOf a).toNat)
    case atStart => exact ⟨0, rfl, Nat.zero_le _, ⟨_, hY, zn⟩, hX, hG, hb0⟩
    case round =>
      obtain ⟨k, rfl, hk, ⟨cn, hbn, tn⟩, hbe, hg, hb⟩ := hrel
      by_cases hlt : k < N
      · have hcn := tn.1
        have e1 : (k : Int) < (N : Int) := by omega
        go_wp2_with fail
        refine wp_region_below_tail 7 (by kernel_rfl) (by kernel_rfl) ?_
        simp only [List.take_succ_cons, List.take_zero, List.drop_succ_cons, List.drop_zero]
        repeat (first | go_big_quiet_skip | (go_big_quiet_want; go_big_quiet_op; go_big_quiet_on) | (refine q_load_fld (by rfl) _ _ (by rfl) (fun _ h => h) _ _ (by rfl) ?_ ?_ ?_ ?_ ?_ ?_; rotate_left; (next => (repeat (first | (with_reducible refine BlkAt.new _ _ _ _ ?_; ((try simp) <;> omega)) | (with_reducible assumption) | (with_reducible refine Blk.at (t := ?_) ?_; rotate_left; with_reducible assumption) | with_reducible refine BlkAt.alloc ?_ _ | with_reducible refine BlkAt.drew ?_ | (with_reducible refine BlkAt.setSame ?_ _ _) | (with_reducible refine BlkAt.setCell ?_ ?_ _; rotate_left; ((try simp) <;> omega)) | (with_reducible refine BlkAt.ext (w := ?_) ?_ ?_; rotate_left 2; (with_reducible assumption)) | fail))); rotate_left; (next => first | (simp only [go_sem]; rfl) | rfl); (next => kernel_rfl); (try simp only [Act.put, List.setIfInBounds_toArray, List.set_cons_zero, List.set_cons_succ])) | (refine q_rem (by rfl) _ _ _ _ (by rfl) _ _ (by rfl) (by rfl) (by kernel_rfl) (by kernel_rfl) ?_ ?_; (next => omega); (try simp only [Act.put, List.setIfInBounds_toArray, List.set_cons_zero, List.set_cons_succ])) | (refine q_step_ex (by rfl) ?_; apply Exists.intro; refine ⟨fun W hW => ?_, ?_⟩; (next => (have hWc := fun (b o : Nat) (h : b < _) => (Ext.out hW).cell (p := ⟨b, o, none⟩) h); (try have hLK := HLK.out W (Ext.out hW)); go_simp; first | rfl | (go_at_call 63; refine (loose_any _).mono ?_; rintro e w'' ⟨rfl, hb3⟩; exact ⟨rfl, below_ext hW hb3⟩) | fail); (try simp only [Act.put, List.setIfInBounds_toArray, List.set_cons_zero, List.set_cons_succ])) | fail)
        refine wpQuiet_nil ?_
        intro wq hbq
        have hbn2 := hbn.ext hbq
        ((with_reducible show wpList _ _ _ (⟨_, .store _ _ _, _, _, _, _⟩ :: _) _ _); refine wpList_store_put (by rfl) _ _ _ (by rfl) _ _ _ (by rfl) (by rfl) _ _ hbn2 ?_ ?_ ?_ ?_; (next => kernel_rfl); (next => rw [rfl3]; omega); (next => first | exact slotArr_one _ _ | exact ordArr_one _ | (simp [Value.oneCell']; done)); intro w5 hbn5 hU5)
        go_wp2_with fail
        have hz := hbq.size
        have hgl := hg.lt
        go_roundw
        case rel => exact ⟨k + 1, by go_num, by omega, ⟨_, hbn5, (tn.all hlt (-1) (-1) (-1)).eq (zz_succ k) (zz_succ k) (zz_succ k)⟩, (hbe.ext hbq).upd (by omega) hU5, (hg.ext hbq).upd (by omega) hU5, below_upd (below_ext hb hbq) (by omega) hU5⟩
        case measure => simp [intOf]; omega
      · have hkN : k = N := by omega
        subst hkN
        have c1 : wr.cell? ⟨w.heap.size + 1 + 1, 1, none⟩ = some (.slice (some ⟨w.heap.size, 0, none⟩) Q Q) := hg.cell 1
        go_wp2_with fail
        obtain ⟨wo, rfl⟩ : ∃ wo : World, wo = wr := ⟨_, rfl⟩
        go_loopw [50] (fun a wr => ∃ j : Nat, a = .int .i64 j ∧ j ≤ Q ∧ Blk wr (w.heap.size + 1) 143 cn ∧ (∃ ce, Blk wr w.heap.size 146 ce ∧ Tri ce Q (zz j) (zz j) (fun _ => 0)) ∧ Blk wr (w.heap.size + 1 + 1) 141 #[.slice (some ⟨w.heap.size + 1, 0, none⟩) k k, .slice (some ⟨w.heap.size, 0, none⟩) Q Q] ∧ Below w.heap.size w wr) (fun a _ => Q - (intOf a).toNat)
        case atStart => exact ⟨0, rfl, Nat.zero_le _, hbn, ⟨_, hbe, ze⟩, hg, hb⟩
        case round =>
          obtain ⟨j, rfl, hj, hbn1, ⟨ce, hbe1, te⟩, hg1, hb1⟩ := hrel
          by_cases hlt2 : j < Q
          · have hce := te.1
            have e1 : (j : Int) < (Q : Int) := by omega
            go_wp2_with fail
            refine wp_region_below_tail 7 (by kernel_rfl) (by kernel_rfl) ?_
            simp only [List.take_succ_cons, List.take_zero, List.drop_succ_cons, List.drop_zero]
            repeat (first | go_big_quiet_skip | (go_big_quiet_want; go_big_quiet_op; go_big_quiet_on) | (refine q_load_fld (by rfl) _ _ (by rfl) (fun _ h => h) _ _ (by rfl) ?_ ?_ ?_ ?_ ?_ ?_; rotate_left; (next => (repeat (first | (with_reducible refine BlkAt.new _ _ _ _ ?_; ((try simp) <;> omega)) | (with_reducible assumption) | (with_reducible refine Blk.at (t := ?_) ?_; rotate_left; with_reducible assumption) | with_reducible refine BlkAt.alloc ?_ _ | with_reducible refine BlkAt.drew ?_ | (with_reducible refine BlkAt.setSame ?_ _ _) | (with_reducible refine BlkAt.setCell ?_ ?_ _; rotate_left; ((try simp) <;> omega)) | (with_reducible refine BlkAt.ext (w := ?_) ?_ ?_; rotate_left 2; (with_reducible assumption)) | fail))); rotate_left; (next => first | (simp only [go_sem]; rfl) | rfl); (next => kernel_rfl); (try simp only [Act.put, List.setIfInBounds_toArray, List.set_cons_zero, List.set_cons_succ])) | (refine q_rem (by rfl) _ _ _ _ (by rfl) _ _ (by rfl) (by rfl) (by kernel_rfl) (by kernel_rfl) ?_ ?_; (next => omega); (try simp only [Act.put, List.setIfInBounds_toArray, List.set_cons_zero, List.set_cons_succ])) | (refine q_step_ex (by rfl) ?_; apply Exists.intro; refine ⟨fun W hW => ?_, ?_⟩; (next => (have hWc := fun (b o : Nat) (h : b < _) => (Ext.out hW).cell (p := ⟨b, o, none⟩) h); (try have hLK := HLK.out W (Ext.out hW)); go_simp; first | rfl | (go_at_call 64; refine (empty_any _).mono ?_; rintro e w'' ⟨rfl, hb3⟩; exact ⟨rfl, below_ext hW hb3⟩) | fail); (try simp only [Act.put, List.setIfInBounds_toArray, List.set_cons_zero, List.set_cons_succ])) | fail)
            refine wpQuiet_nil ?_
            intro wq hbq
            have hbe2 := hbe1.ext hbq
            ((with_reducible show wpList _ _ _ (⟨_, .store _ _ _, _, _, _, _⟩ :: _) _ _); refine wpList_store_put (by rfl) _ _ _ (by rfl) _ _ _ (by rfl) (by rfl) _ _ hbe2 ?_ ?_ ?_ ?_; (next => kernel_rfl); (next => rw [rfl3]; omega); (next => first | exact slotArr_one _ _ | exact ordArr_one _ | (simp [Value.oneCell']; done)); intro w5 hbe5 hU5)
            go_wp2_with fail
            have hz := hbq.size
            have hgl := hg1.lt
            go_roundw
            case rel => exact ⟨j + 1, by go_num, by omega, (hbn1.ext hbq).upd (by omega) hU5, ⟨_, hbe5, (te.all hlt2 (-1) (-1) 0).eq (zz_succ j) (zz_succ j) (up_zero j)⟩, (hg1.ext hbq).upd (by omega) hU5, below_upd (below_ext hb1 hbq) (by omega) hU5⟩
            case measure => simp [intOf]; omega
          · have hjQ : j = Q := by omega
            subst hjQ
            go_wp2_with fail
            go_ret2
            exact ⟨_, _, _, rfl, by omega, ⟨fs0, _, _, ⟨hg1, hbn1, hbe1, tn.full, te.full0, by omega, by omega⟩, inv0 _ _⟩, hb1⟩
end Fif
end Go.Proofs.YtbnappiaomiciaaGreat
