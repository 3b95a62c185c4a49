/- This text proves SessionChanges: whatever the input, the law returns true. It has no conditions. -/
import Derived.Test.YteoagikahdlggaaSessionCh
namespace Go.Proofs.Yteoagikahdlggaa
set_option linter.unusedVariables false
open Go.RowKit
namespace Ses
set_option maxHeartbeats 2000000
set_option maxRecDepth 10000
attribute [local go_sem] Oper.semAt_some in
theorem changes_any (xs : List Row) (stop : Int) (A : Option Addr) (cap : Nat) (w : World) (hml : xs.length ≤ maxLen) (hr : Rd w 2 A (xs.map Row.cells)) :
    Calls Try.prog 6 #[.slice A xs.length cap, .int .i64 stop] w fun e w' => e = .returned (.bool true) ∧ Below w.heap.size w w' := by
  have HR := Lib.hid hr
  clear hr
  refine calls_of_wp_marks Try.func6 rfl ?_
  simp only [Try.ntmps6, List.size_toArray, List.length_cons, List.length_nil, Nat.reduceAdd, Nat.reduceSub, Array.replicate_succ, Array.replicate_zero, List.push_toArray, List.append_toArray, List.nil_append, List.cons_append]
  have hS : Blk ((w.alloc (.cells #[.int .i64 stop] 3)).alloc (.cells #[.bool false] 4)) w.heap.size 3 #[.int .i64 stop] := (Blk.new w _ _ _ rfl).alloc _
  have hT : Blk ((w.alloc (.cells #[.int .i64 stop] 3)).alloc (.cells #[.bool false] 4)) (w.heap.size + 1) 4 #[.bool false] := Blk.new _ _ _ _ (sz_alloc _ _)
  have hb0 : Below w.heap.size w ((w.alloc (.cells #[.int .i64 stop] 3)).alloc (.cells #[.bool false] 4)) := by (repeat (first | with_reducible exact Below.refl _ _ | (with_reducible assumption) | (with_reducible refine below_alloc ?_ _) | (with_reducible refine below_ext (w1 := ?_) ?_ ?_; rotate_left 2; (with_reducible assumption)) | (with_reducible refine Below.setCell ?_ ?_ _; rotate_left; ((try simp) <;> omega)) | (with_reducible refine Below.drew ?_) | (with_reducible refine below_drewN ?_ _) | fail))
  generalize hw0 : (w.alloc (.cells #[.int .i64 stop] 3)).alloc (.cells #[.bool false] 4) = w0 at hS hT hb0
  have hz0 : w0.heap.size = w.heap.size + 1 + 1 := by rw [← hw0, sz_alloc, sz_alloc]
  have HW0 := Lib.hid hw0
  have HZ0 := Lib.hid hz0
  clear hw0 hz0
  go_wp2_with fail
  rw [HW0.out]
  refine (alive_any _).mono ?_
  rintro e w1 ⟨rfl, hb1⟩
  have hT1 := hT.ext hb1
  have hS1 := hS.ext hb1
  have hB1 := hb0.trans (hb1.mono hb0.size)
  have hz1 : w.heap.size + 2 ≤ w1.heap.size := by have h1 := HZ0.out; have h2 := hb1.size; omega
  clear hT hS hb0 HW0 HZ0 hb1
  go_wp2_with fail
  refine (light_any xs A cap 0 _ hml (HR.out.below hB1)).mono ?_
  rintro e w2 ⟨rfl, hb2⟩
  have hT2 := hT1.ext hb2
  have hS2 := hS1.ext hb2
  have hB2 := below_ext hB1 hb2
  have hz2 : w.heap.size + 2 ≤ w2.heap.size := by have h2 := hb2.size; omega
  clear hT1 hS1 hB1 hz1 hb2
  cases hl : lightF xs 0 with
  | false =>
    go_wp2_with (first | (refine wpList_store_fld (by rfl) _ _ _ (by rfl) _ _ (by rfl) _ (by rfl) _ _ hT2 ?_ ?_ (by rfl) (by rfl) ?_; (next => first | omega | ((try simp) <;> omega)); (next => kernel_rfl); intro w4 hT4 hU4) | fail)
    have hcc : w4.cell? ⟨w.heap.size + 1, 0, none⟩ = some (.bool true) := hT4.cell 0
    exact bodyPostM_none (v := .bool true) rfl (by simp [results, Try.results6, go_sem, hcc]) ⟨rfl, below_upd hB2 (by omega) hU4⟩
  | true =>
    have hx60 := (lightF_yes hl).1
    clear hl
    go_wp2_with fail
    refine (rchg_any xs A cap _ hx60 (HR.out.below hB2)).mono ?_
    rintro e w3 ⟨v, rfl, hown, hb3⟩
    obtain ⟨A2, cap2, rfl, hrd, hfar⟩ := owns_rows hown
    have hln : (chgF 0 xs).length ≤ 60 := Nat.le_trans (chgF_len 0 xs) hx60
    have hT3 := hT2.ext hb3
    have hS3 := hS2.ext hb3
    have hB3 := below_ext hB2 hb3
    have hz3 : w.heap.size + 2 ≤ w3.heap.size := by have h2 := hb3.size; omega
    clear hT2 hS2 hown hb3 hB2
    have hL0 : Blk (w3.alloc (.cells #[.slice none 0 0] 22)) w3.heap.size 22 #[.slice none 0 0] := Blk.new _ _ _ _ rfl
    go_wp2_with (first | (refine wpList_store_fld (by rfl) _ _ _ (by rfl) _ _ (by rfl) _ (by rfl) _ _ hL0 ?_ ?_ (by rfl) (by rfl) ?_; (next => first | omega | ((try simp) <;> omega)); (next => kernel_rfl); intro w4 hL4 hU4) | fail)
    have hb34 : Below w3.heap.size w3 w4 := below_upd (below_alloc (Below.refl _ _) _) (Nat.le_refl _) hU4
    have hz4 : w3.heap.size + 1 ≤ w4.heap.size := by have := hL4.lt; omega
    have hN5 : Blk (w4.alloc (.cells #[.int .i64 0] 3)) w4.heap.size 3 #[.int .i64 0] := Blk.new _ _ _ _ rfl
    have hb45 : Below w4.heap.size w4 (w4.alloc (.cells #[.int .i64 0] 3)) := by (repeat (first | with_reducible exact Below.refl _ _ | (with_reducible assumption) | (with_reducible refine below_alloc ?_ _) | (with_reducible refine below_ext (w1 := ?_) ?_ ?_; rotate_left 2; (with_reducible assumption)) | (with_reducible refine Below.setCell ?_ ?_ _; rotate_left; ((try simp) <;> omega)) | (with_reducible refine Below.drew ?_) | (with_reducible refine below_drewN ?_ _) | fail))
    generalize w4.alloc (.cells #[.int .i64 0] 3) = w5 at hN5 hb45
    refine (each_any A xs.length cap _).mono ?_
    rintro e w6 ⟨rfl, hQ6, hb6⟩
    go_wp2_with fail
    have hw46 : Below w4.heap.size w4 w6 := below_ext hb45 hb6
    have hw36 : Below w3.heap.size w3 w6 := hb34.trans (hw46.mono (by omega))
    have hz5 : w4.heap.size + 1 ≤ w5.heap.size := by have := hN5.lt; omega
    have hz6 := hb6.size
    have hN6 := hN5.ext hb6
    have hL6 := hL4.ext hw46
    have hT6 := hT3.ext hw36
    have hS6 := hS3.ext hw36
    have hR6 : Rd w6 2 A2 ((chgF 0 xs).map Row.cells) := hrd.keep (fun a e => hw36.block _ (hfar a e).2)
    have hB6 := below_ext hB3 hw36
    have hseq := Lib.hid (each_stops xs A cap hx60 _ hQ6 [w4.heap.size] (by simp; omega) (fun W hW => HR.out.below (hB6.trans (hW.below (by simp; omega) (by omega)))))
    generalize hLe : chgF 0 xs = L at *
    have hfr : ∀ a, A2 = some a → a.block < w3.heap.size := fun a e => (hfar a e).2
    clear hQ6 hL0 hU4 hN5 hL4 hb34 hw46 hw36 hb45 hb6 hT3 hS3 hB3 hrd hfar HR hLe
    refine' wp_rangeFuncB (α := Row) [w4.heap.size] (gf := 22) (by rfl) (enters_of Try.func22 (by kernel_rfl) rfl) hseq.out (fun _ => rfl)
      (fun pre W => Below w4.heap.size w6 W ∧ Blk W w4.heap.size 3 #[.int .i64 pre.length] ∧ ∀ m : Nat, 1 ≤ m → m ≤ pre.length → (m : Int) ≠ stop)
      (fun c pre W => (c = .ret ∧ ¬ pre <+: L) ∨ (c = .exit 0 ∧ Below w4.heap.size w6 W ∧ Blk W w4.heap.size 3 #[.int .i64 pre.length] ∧ (pre.length : Int) = stop ∧ 1 ≤ pre.length))
      ?I ?Ix ?h0 _ ?assign ?body ?done ?stop
    case I =>
      rintro pre W W' row ⟨h1, h2, h4⟩ hg hr
      have hsz := h1.size
      have hbl : Below w6.heap.size W W' := grown_below hg h1.size (fun g e => (hr g e).1)
      exact ⟨h1.trans (hbl.mono (by omega)), (hbl.block _ (by omega)).trans h2, h4⟩
    case Ix =>
      rintro c pre W W' row h2 hg hr
      rcases h2 with h2 | ⟨h2, h1, h3, h5⟩
      · exact .inl h2
      · have hsz := h1.size
        have hbl : Below w6.heap.size W W' := grown_below hg h1.size (fun g e => (hr g e).1)
        exact .inr ⟨h2, h1.trans (hbl.mono (by omega)), (hbl.block _ (by omega)).trans h3, h5⟩
    case h0 => exact ⟨Below.refl _ _, hN6, fun m h1 h2 => by simp at h2; omega⟩
    case assign =>
      intro l x W K hK
      unfold encR
      gi_wp2
      exact hK
    case body =>
      rintro l pre x W ⟨h1, h2, h4⟩ hlt2
      have hsz := h1.size
      have hRW : Rd W 2 A2 (L.map Row.cells) := hR6.keep (fun a e => h1.block _ (by have h6 := hfr a e; omega))
      obtain ⟨rb, ro, rfl, _, hc0, hc1⟩ := row_at hRW hlt2
      have cn : W.cell? ⟨w4.heap.size, 0, none⟩ = some (.int .i64 pre.length) := h2.cell 0
      have cw : W.cell? ⟨w3.heap.size, 0, none⟩ = some (.slice (some ⟨rb, ro, none⟩) L.length cap2) := (show Blk W _ _ _ from (h1.block _ (by omega)).trans hL6).cell 0
      have cs : W.cell? ⟨w.heap.size, 0, none⟩ = some (.int .i64 stop) := (show Blk W _ _ _ from (h1.block _ (by omega)).trans hS6).cell 0
      have hTW : Blk W (w.heap.size + 1) 4 #[.bool false] := (h1.block _ (by omega)).trans hT6
      have cr : W.cell? ⟨w.heap.size + 1, 0, none⟩ = some (.bool false) := hTW.cell 0
      have rf : W.frozen? ⟨w.heap.size + 1, 0, none⟩ = false := hTW.frozen 0
      have nf : W.frozen? ⟨w4.heap.size, 0, none⟩ = false := h2.frozen 0
      have hl1 : (pre.length : Int) < (L.length : Int) := by omega
      have hl2 : (pre.length : Int) < 60 := by omega
      have hne1 : w.heap.size ≠ w4.heap.size := by omega
      clear hseq
      have hle : (((pre ++ [x]).length : Nat) : Int) = (pre.length : Int) + 1 := by simp
      have hkp : ∀ v, ButL [w4.heap.size] w6.heap.size W (W.setCell ⟨w4.heap.size, 0, none⟩ v) := fun v => (ButL.refl _ _ W).upd (by simp) (Upd.setCell W ⟨w4.heap.size, 0, none⟩ v)
      have hbl : ∀ v, Below w4.heap.size w6 (W.setCell ⟨w4.heap.size, 0, none⟩ v) := fun v => below_upd h1 (Nat.le_refl _) (Upd.setCell W ⟨w4.heap.size, 0, none⟩ v)
      by_cases ht : L[pre.length].tick = x.tick
      · by_cases hp : L[pre.length].phase = x.phase
        · rw [ht] at hc0
          rw [hp] at hc1
          gi_wp2_with fail
          · rename_i hs
            have hs2 := eq_of_beq hs
            exact ⟨KeepsOthers.setCell _ _ _, .inr ⟨rfl, hbl _, by rw [hle]; exact h2.setCell 0 _, by rw [hle]; exact hs2, by simp⟩⟩
          · rename_i hs
            have hs2 : (pre.length : Int) + 1 ≠ stop := by simpa using hs
            refine ⟨KeepsOthers.setCell _ _ _, hkp _, hbl _, by rw [hle]; exact h2.setCell 0 _, ?_⟩
            intro m hm1 hm2
            by_cases hm3 : m ≤ pre.length
            · exact h4 m hm1 hm3
            · simp at hm2
              omega
        · rw [ht] at hc0
          have hp2 : (L[pre.length].phase == x.phase) = false := by simpa using hp
          have hnp : ¬ (pre ++ [x]) <+: L := by
            rintro ⟨t, ht'⟩
            exact hp (by simp [← ht'])
          have hp3 : L[pre.length].phase ≠ x.phase := hp
          clear hp
          gi_wp2_with fail
          exact ⟨KeepsOthers.setCell _ _ _, .inl ⟨rfl, hnp⟩⟩
      · have ht2 : (L[pre.length].tick == x.tick) = false := by simpa using ht
        have hnp : ¬ (pre ++ [x]) <+: L := by
          rintro ⟨t, ht'⟩
          exact ht (by simp [← ht'])
        have ht3 : L[pre.length].tick ≠ x.tick := ht
        clear ht
        gi_wp2_with fail
        exact ⟨KeepsOthers.setCell _ _ _, .inl ⟨rfl, hnp⟩⟩
    case done =>
      rintro D ys W hD rfl ⟨h1, h2, h4⟩ hK
      have hsz := h1.size
      have hTW : Blk W (w.heap.size + 1) 4 #[.bool false] := (h1.block _ (by omega)).trans hT6
      have cN : W.cell? ⟨w4.heap.size, 0, none⟩ = some (.int .i64 ys.length) := h2.cell 0
      have cw : W.cell? ⟨w3.heap.size, 0, none⟩ = some (.slice A2 ys.length cap2) := (show Blk W _ _ _ from (h1.block _ (by omega)).trans hL6).cell 0
      have cs : W.cell? ⟨w.heap.size, 0, none⟩ = some (.int .i64 stop) := (show Blk W _ _ _ from (h1.block _ (by omega)).trans hS6).cell 0
      have hbw := hB6
      clear hseq
      by_cases hs : 0 < stop ∧ stop < ys.length
      · exact absurd (show ((stop.toNat : Nat) : Int) = stop by omega) (h4 stop.toNat (by omega) (by omega))
      · go_wp2_with (first | (refine wpList_store_fld (by rfl) _ _ _ (by rfl) _ _ (by rfl) _ (by rfl) _ _ hTW ?_ ?_ (by rfl) (by rfl) ?_; (next => first | omega | ((try simp) <;> omega)); (next => kernel_rfl); intro w9 hT9 hU9) | fail)
        all_goals (
          have hT10 : Blk w9 (w.heap.size + 1) 4 #[.bool true] := by
            simpa [go_sem] using hT9
          have hKl : D < W.heap.size := (Array.getElem?_eq_some_iff.1 hK).1
          have hK9 : w9.heap[D]? = some (.deferred (some [])) := (hU9.block D (by omega)).trans hK
          have hb9 : Below w.heap.size w w9 := below_upd (hbw.trans (h1.mono (by omega))) (by omega) hU9
          have hcc : (w9.putObj D (.deferred none)).cell? ⟨w.heap.size + 1, 0, none⟩ = some (.bool true) := (cell_mark (by omega)).trans (hT10.cell 0)
          exact bodyPostM_ret (v := .bool true) rfl hK9 (by simp [results, Try.results6, go_sem, hcc]) ⟨rfl, below_mark hb9 (by omega) hK9⟩)
    case stop =>
      rintro D c pre W hD hp h2 hK
      rcases h2 with ⟨_, h2⟩ | ⟨rfl, h1, h2, h4, h5⟩
      · exact absurd hp h2
      have hsz := h1.size
      have hTW : Blk W (w.heap.size + 1) 4 #[.bool false] := (h1.block _ (by omega)).trans hT6
      have cN : W.cell? ⟨w4.heap.size, 0, none⟩ = some (.int .i64 pre.length) := h2.cell 0
      have cw : W.cell? ⟨w3.heap.size, 0, none⟩ = some (.slice A2 L.length cap2) := (show Blk W _ _ _ from (h1.block _ (by omega)).trans hL6).cell 0
      have cs : W.cell? ⟨w.heap.size, 0, none⟩ = some (.int .i64 stop) := (show Blk W _ _ _ from (h1.block _ (by omega)).trans hS6).cell 0
      have hbw := hB6
      have hpl := hp.length_le
      clear hseq
      subst h4
      obtain ⟨m, hm1, hm2⟩ : ∃ m : Nat, L.length = m ∧ (m = pre.length ∨ (pre.length : Int) < (m : Int)) := ⟨_, rfl, by omega⟩
      rw [hm1] at cw
      rcases hm2 with rfl | hlt4
      all_goals (
        go_wp2_with (first | (refine wpList_store_fld (by rfl) _ _ _ (by rfl) _ _ (by rfl) _ (by rfl) _ _ hTW ?_ ?_ (by rfl) (by rfl) ?_; (next => first | omega | ((try simp) <;> omega)); (next => kernel_rfl); intro w9 hT9 hU9) | fail)
        all_goals (
          have hT10 : Blk w9 (w.heap.size + 1) 4 #[.bool true] := by
            simpa [go_sem] using hT9
          have hKl : D < W.heap.size := (Array.getElem?_eq_some_iff.1 hK).1
          have hK9 : w9.heap[D]? = some (.deferred (some [])) := (hU9.block D (by omega)).trans hK
          have hb9 : Below w.heap.size w w9 := below_upd (hbw.trans (h1.mono (by omega))) (by omega) hU9
          have hcc : (w9.putObj D (.deferred none)).cell? ⟨w.heap.size + 1, 0, none⟩ = some (.bool true) := (cell_mark (by omega)).trans (hT10.cell 0)
          exact bodyPostM_ret (v := .bool true) rfl hK9 (by simp [results, Try.results6, go_sem, hcc]) ⟨rfl, below_mark hb9 (by omega) hK9⟩))
open Go.ChangeShapes Go.WideShapes Go.ChangeAt Go.Deep
set_option maxRecDepth 100000 in
theorem argsSessionChanges (H : Type) (enc : TypeId × Value → H) (W : World) (args : Array Value) (hargs : Args Try.checked H enc [22, 3] W args) :
    Calls Try.prog 6 args W fun e W' => e = .returned (.bool true) ∧ Below W.heap.size W W' := by
  obtain ⟨base, ds, p, hval, hA⟩ := hargs
  obtain ⟨v0, vs0, d0, ds0, p0, q0, hargs, rfl, rfl, h0, r0⟩ := trodAll_cons hA
  obtain ⟨v1, vs1, d1, ds1, p1, q1, rfl, rfl, rfl, h1, r1⟩ := trodAll_cons r0
  obtain ⟨rfl, rfl, rfl⟩ := trodAll_nil r1
  obtain rfl : args = #[v0, v1] := by cases args; simp_all
  obtain ⟨A, la, ca, rows, rfl, hla, hlc, hca, hfa, ha⟩ := open_rows (ks := List.replicate 2 K) 5 Try.underlying22 (by kernel_rfl) (by kernel_rfl) (by decide) (hval 0 _ v0 rfl rfl) h0
  obtain ⟨t, rfl, _⟩ := open_int Try.underlying3 (hval 1 _ v1 rfl rfl) h1
  obtain ⟨xs, rfl, _⟩ := rowsOf (fun vs h => fitRow h) rows hfa
  rw [List.length_map] at hla
  subst hla
  exact changes_any xs t A ca W (by omega) ha
theorem ownSessionChanges : ownKnob Try.prog.godebug = none := by kernel_rfl
theorem laidSessionChanges : laidOutB Try.prog = true := by kernel_rfl
set_option maxRecDepth 100000 in
theorem liftedSessionChanges (os : Os) (started : os.Started) (H : Type) (enc : TypeId × Value → H) :
    ReturnsInHanded {} Try.checked os 6 .any (Rows.sessionChangesSpec.pre6 enc Try.prog Try.f6 Rows.sessionChangesRow.domain false) (Rows.sessionChangesSpec.post enc Try.prog Try.f6 false true false false) :=
  law_lifted (C := Try.checked) (ts := [22, 3]) (tb := 4) ownSessionChanges laidSessionChanges started (by kernel_rfl) Try.func6 (by kernel_rfl)
    (ChangeSpec.witness6 (enc := enc) (C := Try.checked) false ⟨#[], #[.slice none 0 0, .int .i64 0], []⟩ 8 (by kernel_rfl) (by kernel_rfl) (by kernel_rfl) (by kernel_rfl))
    rfl (by kernel_rfl) Try.underlying4 (by kernel_rfl)
    (fun ds h => by
      match ds, h with
      | [d0, d1], _ => rfl)
    (fun W args h => argsSessionChanges H enc W args h)
theorem provedSessionChanges : Rows.SessionChangesSaid :=
  OpenClaim.holds_of_wide 6 Try.f6 rfl rfl rfl rfl rfl rfl rfl ⟨rfl, rfl, rfl, rfl, rfl⟩ rfl rfl rfl rfl rfl (by kernel_rfl) Try.func6 (by kernel_rfl)
    (of_decide_eq_true (by kernel_rfl)) (by unfold Func.isWrapper; first | (rw [if_pos (by decide +kernel)]; kernel_rfl) | (rw [if_neg (by decide +kernel)]; exact ⟨rfl, rfl⟩))
    (fun os started H enc _ => liftedSessionChanges os started H enc)
#print axioms provedSessionChanges
end Ses
end Go.Proofs.Yteoagikahdlggaa
