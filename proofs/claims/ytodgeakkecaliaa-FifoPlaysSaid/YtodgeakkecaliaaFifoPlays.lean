/- This text proves FifoPlays: whatever the input, the law returns true. It has no conditions. It holds contracts of the package fifo: New, Push, Front, Pop, Remove, Of, Len, over links that are held as data, and of the document's queues. -/
import Derived.Test.YtodgeakkecaliaaFifoActs
import Derived.Test.YtodgeakkecaliaaMid
namespace Go.Proofs.Ytodgeakkecaliaa
set_option linter.unusedVariables false
open Go.RowKit
namespace Fif
set_option maxHeartbeats 600000
set_option maxRecDepth 10000
theorem rd_range {α : Type} {c : α → List Value} {w : World} {k : Nat} {A : Option Addr} {xs : List α} (h : Rd w k A (xs.map c)) {i : Nat} (hi : i < xs.length) :
    ∃ b off, A = some ⟨b, off, none⟩ ∧ w.rangeAt b (off + i * k) (c xs[i]) := by
  obtain ⟨b, off, e, hc⟩ := h.at hi
  exact ⟨b, off, e, fun j v hv => by rw [Nat.add_assoc]; exact hc j v hv⟩
theorem len_out {w : World} {g bn be N Q : Nat} {L : Nat → List Nat} (f : Fq w g bn be N Q L) (i : Int) (hi : i < 0 ∨ (Q : Int) ≤ i) : Calls Try.prog 29 #[.pointer (some ⟨g, 0, none⟩), .int .i64 i] w fun e w' => e = .returned (.int .i64 0) ∧ w = w' := by
  obtain ⟨s, cn, ce, f, I⟩ := f
  exact len_no f i hi
theorem fplays_any (n q : Int) (xs : List Act) (A : Option Addr) (cap : Nat) (w : World) (hr : Rd w 3 A (xs.map Act.cells)) (hml : xs.length ≤ maxLen) :
    Calls Try.prog 7 #[.int .i64 n, .int .i64 q, .slice A xs.length cap] w fun e w' => e = .returned (.bool true) ∧ Below w.heap.size w w' := by
  unfold maxLen at hml
  have HR := Lib.hid hr
  clear hr
  by_cases h60 : 200 < xs.length
  · go_enter Try.func7, Try.ntmps7
    go_wp2_with (first | (go_at_call 24; refine (alive_any _).mono ?_; rintro e w'' ⟨rfl, hb2⟩) | fail)
    go_ret
    exact ⟨rfl, by (repeat (first | with_reducible exact Below.refl _ _ | (with_reducible assumption) | (with_reducible refine below_alloc ?_ _) | (with_reducible refine below_ext (w1 := ?_) ?_ ?_; rotate_left 2; (with_reducible assumption)) | (with_reducible refine Below.setCell ?_ ?_ _; rotate_left; ((try simp) <;> omega)) | (with_reducible refine Below.drew ?_) | (with_reducible refine below_drewN ?_ _) | fail))⟩
  by_cases hn : ¬ ((1 ≤ n ∧ n ≤ 500) ∧ 1 ≤ q ∧ q ≤ 400)
  · have HN := Lib.hid hn
    clear hn
    go_enter Try.func7, Try.ntmps7
    go_wp2_with (first | (go_at_call 25; refine (fnew_bad n q _ HN.out).mono ?_; rintro e w' ⟨rfl, rfl⟩) | (go_at_call 26; refine (rnew_bad n q _ HN.out).mono ?_; rintro e w' ⟨rfl, rfl⟩) | (go_at_call 24; refine (alive_any _).mono ?_; rintro e w'' ⟨rfl, hb2⟩) | fail)
    go_ret
    exact ⟨rfl, by (repeat (first | with_reducible exact Below.refl _ _ | (with_reducible assumption) | (with_reducible refine below_alloc ?_ _) | (with_reducible refine below_ext (w1 := ?_) ?_ ?_; rotate_left 2; (with_reducible assumption)) | (with_reducible refine Below.setCell ?_ ?_ _; rotate_left; ((try simp) <;> omega)) | (with_reducible refine Below.drew ?_) | (with_reducible refine below_drewN ?_ _) | fail))⟩
  have hn' := Decidable.not_not.1 hn
  clear hn
  obtain ⟨n, rfl⟩ : ∃ m : Nat, n = m := ⟨n.toNat, by omega⟩
  obtain ⟨q, rfl⟩ : ∃ m : Nat, q = m := ⟨q.toNat, by omega⟩
  obtain ⟨⟨hn1, hn2⟩, hq1, hq2⟩ := hn'
  go_enter Try.func7, Try.ntmps7
  go_wp2_with fail
  refine (fnew_any n q _ (by omega) (by omega)).mono ?_
  rintro e w1 ⟨g, bn, be, rfl, hge, hq, hb1⟩
  have hql := hq.lt
  go_wp2_with fail
  refine (rnew_any n q _ (by omega) (by omega)).mono ?_
  rintro e w2 ⟨h, bl, cl, rfl, hhs, q2, hF2, hb2⟩
  have hz1 := hb1.size
  have B2 : Bq w2 g bn be h bl n q (fun _ => []) cl w1.heap.size := ⟨hq.ext hb2, q2, hF2 _, hql, hhs⟩
  have hB2 := below_ext hb1 hb2
  obtain ⟨B, hB⟩ : ∃ B, B = w1.heap.size := ⟨_, rfl⟩
  rw [← hB] at B2 hz1 hhs
  have hgw : w.heap.size ≤ bl := by omega
  clear q2 hq hF2 hql hB hb1 hb2
  go_wp2_with fail
  go_loopw [11] (fun i wr => ∃ k : Nat, i = .int .i64 k ∧ k ≤ xs.length ∧ (∃ L cl, Bq wr g bn be h bl n q L cl B) ∧ Below w.heap.size w wr) (fun i _ => xs.length - (intOf i).toNat)
  case atStart => exact ⟨0, rfl, Nat.zero_le _, ⟨_, _, B2⟩, hB2⟩
  case round =>
    obtain ⟨k, rfl, hk, ⟨L, cl2, BB⟩, hb⟩ := hrel
    clear B2
    by_cases hlt : k < xs.length
    · obtain ⟨rb, ro, rfl, hrg⟩ := rd_range HR.out hlt
      have HA : Hid (∀ W, Below wr.heap.size wr W → Calls Try.prog 27 #[.pointer (some ⟨g, 0, none⟩), .pointer (some ⟨h, 0, none⟩), .agg xs[k].arr] W (ActPost W g bn be h bl n q B)) := Lib.hid (fun W hW => act_any xs[k] (BB.ext hW))
      have hmid : wr.rangeAt rb (ro + k * 3) xs[k].cells := fun j v hv => (hb.cell (cell_lt (hrg j v hv))).trans (hrg j v hv)
      generalize xs[k] = x at HA hmid hrg
      have hx0 : w.cell? ⟨rb, ro + k * 3 + 1, none⟩ = some (.int .i64 x.queue) := hrg 1 _ rfl
      have hrb := cell_lt hx0
      go_wp2_with fail
      refine wp_region_mid (C := fun W => Ext _ W) 6 _ (by kernel_rfl) (by kernel_rfl) rfl rfl (Below.refl _ _).drew ?_
      simp only [List.take_succ_cons, List.take_zero, List.drop_succ_cons, List.drop_zero]
      repeat (first | go_big_quiet_skip | (go_big_quiet_want; go_big_quiet_op; go_big_quiet_on) | (refine q_load_mid (by rfl) _ _ (by rfl) (fun _ h => h) _ _ (by rfl) _ _ hmid Try.underlying63 rfl (by kernel_rfl) ?_; (try simp only [Act.put, List.setIfInBounds_toArray, List.set_cons_zero, List.set_cons_succ])) | (refine q_load_fld (by rfl) _ _ (by rfl) (fun _ h => h) _ _ (by rfl) ?_ ?_ ?_ ?_ ?_ ?_; rotate_left; (next => (repeat (first | (with_reducible refine BlkAt.new _ _ _ _ ?_; ((try simp) <;> omega)) | (with_reducible assumption) | (with_reducible refine Blk.at (t := ?_) ?_; rotate_left; with_reducible assumption) | with_reducible refine BlkAt.alloc ?_ _ | with_reducible refine BlkAt.drew ?_ | (with_reducible refine BlkAt.setSame ?_ _ _) | (with_reducible refine BlkAt.setCell ?_ ?_ _; rotate_left; ((try simp) <;> omega)) | (with_reducible refine BlkAt.ext (w := ?_) ?_ ?_; rotate_left 2; (with_reducible assumption)) | fail))); rotate_left; (next => first | (simp only [go_sem]; rfl) | rfl); (next => kernel_rfl); (try simp only [Act.put, List.setIfInBounds_toArray, List.set_cons_zero, List.set_cons_succ])) | (refine q_rem (by rfl) _ _ _ _ (by rfl) _ _ (by rfl) (by rfl) (by kernel_rfl) (by kernel_rfl) ?_ ?_; (next => omega); (try simp only [Act.put, List.setIfInBounds_toArray, List.set_cons_zero, List.set_cons_succ])) | (refine q_step_ex (by rfl) ?_; apply Exists.intro; refine ⟨fun W hW => ?_, ?_⟩; (next => (have hWc := fun (b o : Nat) (h : b < _) => (Ext.out hW).cell (p := ⟨b, o, none⟩) h); go_simp; first | rfl | fail | fail); (try simp only [Act.put, List.setIfInBounds_toArray, List.set_cons_zero, List.set_cons_succ])) | fail)
      refine wpQuiet_nil ?_
      intro w4 hb4
      refine wp_enter (F := 27) (args := #[.pointer (some ⟨g, 0, none⟩), .pointer (some ⟨h, 0, none⟩), .agg x.arr]) (v := .bool true) ?_ ?_
      (next => first | (go_simp; done) | (go_simp; rfl))
      refine (HA.out _ hb4).mono ?_
      rintro e w5 ⟨rfl, ⟨L5, cl5, B5⟩, hu5⟩
      refine ⟨rfl, ?_⟩
      simp only [Act.put, List.setIfInBounds_toArray, List.set_cons_zero, List.set_cons_succ]
      have hb4' := below_ext hb hb4
      have hb5 : Below w.heap.size w w5 := hb4'.trans (hu5.below (by simp; omega) hb4'.size)
      have hq5 : w5.cell? ⟨rb, ro + k * 3 + 1, none⟩ = some (.int .i64 x.queue) := (hb5.cell (p := ⟨rb, ro + k * 3 + 1, none⟩) hrb).trans hx0
      have hrb5 : rb < w5.heap.size := Nat.lt_of_lt_of_le hrb hb5.size
      have c1 := (B5.rq.c).2
      have hh5 := B5.rq.hd.lt
      have hl5 := B5.rq.tab.lt
      clear hmid hrg hx0 HA BB hb4 hb4' hu5
      by_cases hx : x.queue < 0 ∨ (q : Int) ≤ x.queue
      · have HX := Lib.hid hx
        clear hx
        skip
        repeat (first | go_big_quiet_skip | (go_big_quiet_want; go_big_quiet_op; go_big_quiet_on) | (refine q_load_fld (by rfl) _ _ (by rfl) (fun _ h => h) _ _ (by rfl) ?_ ?_ ?_ ?_ ?_ ?_; rotate_left; (next => (repeat (first | (with_reducible refine BlkAt.new _ _ _ _ ?_; ((try simp) <;> omega)) | (with_reducible assumption) | (with_reducible refine Blk.at (t := ?_) ?_; rotate_left; with_reducible assumption) | with_reducible refine BlkAt.alloc ?_ _ | with_reducible refine BlkAt.drew ?_ | (with_reducible refine BlkAt.setSame ?_ _ _) | (with_reducible refine BlkAt.setCell ?_ ?_ _; rotate_left; ((try simp) <;> omega)) | (with_reducible refine BlkAt.ext (w := ?_) ?_ ?_; rotate_left 2; (with_reducible assumption)) | fail))); rotate_left; (next => first | (simp only [go_sem]; rfl) | rfl); (next => kernel_rfl); (try simp only [Act.put, List.setIfInBounds_toArray, List.set_cons_zero, List.set_cons_succ])) | (refine q_rem (by rfl) _ _ _ _ (by rfl) _ _ (by rfl) (by rfl) (by kernel_rfl) (by kernel_rfl) ?_ ?_; (next => omega); (try simp only [Act.put, List.setIfInBounds_toArray, List.set_cons_zero, List.set_cons_succ])) | (refine q_step_ex (by rfl) ?_; apply Exists.intro; refine ⟨fun W hW => ?_, ?_⟩; (next => (have hWc := fun (b o : Nat) (h : b < _) => (Ext.out hW).cell (p := ⟨b, o, none⟩) h); go_simp; first | rfl | (go_at_call 28; refine (rhas_no (B5.rq.ext hW.out) x.queue HX.out).mono ?_; rintro e w'' ⟨rfl, rfl⟩; exact ⟨rfl, hW⟩) | fail); (try simp only [Act.put, List.setIfInBounds_toArray, List.set_cons_zero, List.set_cons_succ])) | fail)
        refine wpQuiet_nil ?_
        intro w6 hb6
        go_wp2_with fail
        go_roundw
        case rel => exact ⟨k + 1, by go_num, by omega, ⟨_, _, B5.ext hb6⟩, below_ext hb5 hb6⟩
        case measure => simp [intOf]; omega
      · obtain ⟨i, hi⟩ : ∃ m : Nat, x.queue = m := ⟨x.queue.toNat, by omega⟩
        rw [hi] at hq5 hx
        have hiQ : i < q := by omega
        clear hx hi
        obtain ⟨v, A, cp, hv, hr⟩ := B5.rq.row i hiQ
        have hc : w5.cell? ⟨bl, i, none⟩ = some (.slice A (L5 i).length cp) := (B5.rq.tab.cell i).trans (hv.trans (by rw [hr.is]))
        have hr5 := hr.len
        have e1 : (i : Int) < (q : Int) := by omega
        have e2 : (0 : Int) ≤ (i : Int) := by omega
        clear hv hr
        skip
        repeat (first | go_big_quiet_skip | (go_big_quiet_want; go_big_quiet_op; go_big_quiet_on) | (refine q_load_fld (by rfl) _ _ (by rfl) (fun _ h => h) _ _ (by rfl) ?_ ?_ ?_ ?_ ?_ ?_; rotate_left; (next => (repeat (first | (with_reducible refine BlkAt.new _ _ _ _ ?_; ((try simp) <;> omega)) | (with_reducible assumption) | (with_reducible refine Blk.at (t := ?_) ?_; rotate_left; with_reducible assumption) | with_reducible refine BlkAt.alloc ?_ _ | with_reducible refine BlkAt.drew ?_ | (with_reducible refine BlkAt.setSame ?_ _ _) | (with_reducible refine BlkAt.setCell ?_ ?_ _; rotate_left; ((try simp) <;> omega)) | (with_reducible refine BlkAt.ext (w := ?_) ?_ ?_; rotate_left 2; (with_reducible assumption)) | fail))); rotate_left; (next => first | (simp only [go_sem]; rfl) | rfl); (next => kernel_rfl); (try simp only [Act.put, List.setIfInBounds_toArray, List.set_cons_zero, List.set_cons_succ])) | (refine q_rem (by rfl) _ _ _ _ (by rfl) _ _ (by rfl) (by rfl) (by kernel_rfl) (by kernel_rfl) ?_ ?_; (next => omega); (try simp only [Act.put, List.setIfInBounds_toArray, List.set_cons_zero, List.set_cons_succ])) | (refine q_step_ex (by rfl) ?_; apply Exists.intro; refine ⟨fun W hW => ?_, ?_⟩; (next => (have hWc := fun (b o : Nat) (h : b < _) => (Ext.out hW).cell (p := ⟨b, o, none⟩) h); go_simp; first | rfl | (go_at_call 28; refine (rhas_yes (B5.rq.ext hW.out) i hiQ).mono ?_; rintro e w'' ⟨rfl, rfl⟩; exact ⟨rfl, hW⟩) | (go_at_call 29; refine (q_len (B5.fq.ext hW.out) i hiQ).mono ?_; rintro e w'' ⟨rfl, rfl⟩; exact ⟨rfl, hW⟩) | fail); (try simp only [Act.put, List.setIfInBounds_toArray, List.set_cons_zero, List.set_cons_succ])) | fail)
        refine wpQuiet_nil ?_
        intro w6 hb6
        go_wp2_with fail
        go_roundw
        case rel => exact ⟨k + 1, by go_num, by omega, ⟨_, _, B5.ext hb6⟩, below_ext hb5 hb6⟩
        case measure => simp [intOf]; omega
    · have hBB := BB.fq
      clear BB
      go_wp2_with (first | (go_at_call 29; refine (len_out hBB _ (by omega)).mono ?_; rintro e w'' ⟨rfl, rfl⟩) | (go_at_call 24; refine (alive_any _).mono ?_; rintro e w'' ⟨rfl, hb9⟩) | fail)
      go_ret
      exact ⟨rfl, by (repeat (first | with_reducible exact Below.refl _ _ | (with_reducible assumption) | (with_reducible refine below_alloc ?_ _) | (with_reducible refine below_ext (w1 := ?_) ?_ ?_; rotate_left 2; (with_reducible assumption)) | (with_reducible refine Below.setCell ?_ ?_ _; rotate_left; ((try simp) <;> omega)) | (with_reducible refine Below.drew ?_) | (with_reducible refine below_drewN ?_ _) | fail))⟩
open Go.ChangeShapes Go.WideShapes Go.ChangeAt Go.Deep
theorem fitAct {vs : List Value} (h : fits (List.replicate 3 K) vs) : ∃ s : Act, vs = s.cells ∧ True := by
  obtain ⟨a0, _, rfl, b0, h⟩ := fitInt h
  obtain ⟨a1, _, rfl, b1, h⟩ := fitInt h
  obtain ⟨a2, _, rfl, b2, h⟩ := fitInt h
  cases fitNil h
  exact ⟨⟨a0, a1, a2⟩, rfl, trivial⟩
set_option maxRecDepth 100000 in
theorem argsFifoPlays (H : Type) (enc : TypeId × Value → H) (W : World) (args : Array Value) (hargs : Args Try.checked H enc [3, 3, 54] W args) :
    Calls Try.prog 7 args W fun e W' => e = .returned (.bool true) ∧ Below W.heap.size W W' := by
  obtain ⟨base, ds, p, hval, hA⟩ := hargs
  obtain ⟨v0, vs0, d0, ds0, p0, q0, hargs, rfl, rfl, h0, r0⟩ := trodAll_cons hA
  obtain ⟨v1, vs1, d1, ds1, p1, q1, rfl, rfl, rfl, h1, r1⟩ := trodAll_cons r0
  obtain ⟨v2, vs2, d2, ds2, p2, q2, rfl, rfl, rfl, h2, r2⟩ := trodAll_cons r1
  obtain ⟨rfl, rfl, rfl⟩ := trodAll_nil r2
  obtain rfl : args = #[v0, v1, v2] := by cases args; simp_all
  obtain ⟨n, rfl, _⟩ := open_int Try.underlying3 (hval 0 _ v0 rfl rfl) h0
  obtain ⟨q, rfl, _⟩ := open_int Try.underlying3 (hval 1 _ v1 rfl rfl) h1
  obtain ⟨A, la, ca, rows, rfl, hla, hlc, hca, hfa, ha⟩ := open_rows (ks := List.replicate 3 K) 6 Try.underlying54 (by kernel_rfl) (by kernel_rfl) (by decide) (hval 2 _ v2 rfl rfl) h2
  obtain ⟨xs, rfl, _⟩ := rowsOf (fun vs h => fitAct h) rows hfa
  rw [List.length_map] at hla
  subst hla
  exact fplays_any n q xs A ca W ha (by omega)
theorem ownFifoPlays : ownKnob Try.prog.godebug = none := by kernel_rfl
theorem laidFifoPlays : laidOutB Try.prog = true := by kernel_rfl
set_option maxRecDepth 100000 in
theorem liftedFifoPlays (os : Os) (started : os.Started) (H : Type) (enc : TypeId × Value → H) :
    ReturnsInHanded {} Try.checked os 7 .any (Rows.fifoPlaysSpec.pre6 enc Try.prog Try.f7 Rows.fifoPlaysRow.domain false) (Rows.fifoPlaysSpec.post enc Try.prog Try.f7 false true false false) :=
  law_lifted (C := Try.checked) (ts := [3, 3, 54]) (tb := 4) ownFifoPlays laidFifoPlays started (by kernel_rfl) Try.func7 (by kernel_rfl)
    (ChangeSpec.witness6 (enc := enc) (C := Try.checked) false ⟨#[], #[.int .i64 0, .int .i64 0, .slice none 0 0], []⟩ 8 (by kernel_rfl) (by kernel_rfl) (by kernel_rfl) (by kernel_rfl))
    rfl (by kernel_rfl) Try.underlying4 (by kernel_rfl)
    (fun ds h => by
      match ds, h with
      | [d0, d1, d2], _ => rfl)
    (fun W args h => argsFifoPlays H enc W args h)
theorem provedFifoPlays : Rows.FifoPlaysSaid :=
  OpenClaim.holds_of_wide 7 Try.f7 rfl rfl rfl rfl rfl rfl rfl ⟨rfl, rfl, rfl, rfl, rfl⟩ rfl rfl rfl rfl rfl (by kernel_rfl) Try.func7 (by kernel_rfl)
    (of_decide_eq_true (by kernel_rfl)) (by unfold Func.isWrapper; first | (rw [if_pos (by decide +kernel)]; kernel_rfl) | (rw [if_neg (by decide +kernel)]; exact ⟨rfl, rfl⟩))
    (fun os started H enc _ => liftedFifoPlays os started H enc)
#print axioms provedFifoPlays
end Fif
end Go.Proofs.Ytodgeakkecaliaa
