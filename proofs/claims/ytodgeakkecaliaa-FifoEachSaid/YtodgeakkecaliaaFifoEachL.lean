/- This text proves FifoEach: whatever the input, the law returns true. It has no conditions. -/
import Derived.Test.YtodgeakkecaliaaFifoEach
import Derived.Deep.CutRange
namespace Go.Proofs.Ytodgeakkecaliaa
set_option linter.unusedVariables false
open Go.RowKit
namespace Fif
set_option maxHeartbeats 2000000
set_option maxRecDepth 10000
theorem rd_range {α : Type} {c : α → List Value} {w : World} {k : Nat} {A : Option Addr} {xs : List α} (h : Rd w k A (xs.map c)) {i : Nat} (hi : i < xs.length) :
    ∃ b off, A = some ⟨b, off, none⟩ ∧ w.rangeAt b (off + i * k) (c xs[i]) := by
  obtain ⟨b, off, e, hc⟩ := h.at hi
  exact ⟨b, off, e, fun j v hv => by rw [Nat.add_assoc]; exact hc j v hv⟩
theorem rhas_any {w : World} {h bl N Q : Nat} {L : Nat → List Nat} {cl : Array Value} (q : RQ w h bl N Q L cl) (i : Int) : Calls Try.prog 28 #[.pointer (some ⟨h, 0, none⟩), .int .i64 i] w fun e w' => e = .returned (.bool (decide (0 ≤ i ∧ i < Q))) ∧ w = w' := by
  by_cases hi : 0 ≤ i ∧ i < Q
  · rw [decide_eq_true hi]
    obtain ⟨m, rfl⟩ : ∃ m : Nat, i = m := ⟨i.toNat, by omega⟩
    exact rhas_yes q m (by omega)
  · rw [decide_eq_false hi]
    exact rhas_no q i (by omega)
/-- What is wanted: the rows of the queue that is asked for, or none. -/
def Want (w : World) (g bn be N Q : Nat) (L : Nat → List Nat) (i : Int) (lo wb : Nat) (wl : List Nat) (A : Option Addr) (cap : Nat) : Prop :=
  Fq w g bn be N Q L ∧ ((0 ≤ i ∧ i < Q ∧ wl = L i.toNat) ∨ ((i < 0 ∨ (Q : Int) ≤ i) ∧ wl = [])) ∧ Blk w wb 28 #[.slice A wl.length cap] ∧ Rd w 1 A (wl.map nrow) ∧ wl.length ≤ 500 ∧ ∀ a, A = some a → lo ≤ a.block ∧ a.block < wb
attribute [local go_sem] Oper.semAt_some in
theorem feach_any (n q i stop : Int) (xs : List Act) (A : Option Addr) (cap : Nat) (w : World) (hr : Rd w 3 A (xs.map Act.cells)) (hml : xs.length ≤ maxLen) :
    Calls Try.prog 9 #[.int .i64 n, .int .i64 q, .slice A xs.length cap, .int .i64 i, .int .i64 stop] w fun e w' => e = .returned (.bool true) ∧ Below w.heap.size w w' := by
  unfold maxLen at hml
  have HR := Lib.hid hr
  clear hr
  refine calls_of_wp_marks Try.func9 rfl ?_
  simp only [Try.ntmps9, List.size_toArray, List.length_cons, List.length_nil, Nat.reduceAdd, Nat.reduceSub, Array.replicate_succ, Array.replicate_zero, List.push_toArray, List.append_toArray, List.nil_append, List.cons_append]
  have hS : Blk ((w.alloc (.cells #[.int .i64 stop] 3)).alloc (.cells #[.bool false] 4)) w.heap.size 3 #[.int .i64 stop] := (Blk.new w _ _ _ rfl).alloc _
  have hT : Blk ((w.alloc (.cells #[.int .i64 stop] 3)).alloc (.cells #[.bool false] 4)) (w.heap.size + 1) 4 #[.bool false] := Blk.new _ _ _ _ (sz_alloc _ _)
  have hb0 : Below w.heap.size w ((w.alloc (.cells #[.int .i64 stop] 3)).alloc (.cells #[.bool false] 4)) := by (repeat (first | with_reducible exact Below.refl _ _ | (with_reducible assumption) | (with_reducible refine below_alloc ?_ _) | (with_reducible refine below_ext (w1 := ?_) ?_ ?_; rotate_left 2; (with_reducible assumption)) | (with_reducible refine Below.setCell ?_ ?_ _; rotate_left; ((try simp) <;> omega)) | (with_reducible refine Below.drew ?_) | (with_reducible refine below_drewN ?_ _) | fail))
  generalize hw0 : (w.alloc (.cells #[.int .i64 stop] 3)).alloc (.cells #[.bool false] 4) = w0 at hS hT hb0
  have hz0 : w0.heap.size = w.heap.size + 1 + 1 := by rw [← hw0, sz_alloc, sz_alloc]
  have HW0 := Lib.hid hw0
  have HZ0 := Lib.hid hz0
  clear hw0 hz0
  go_wp2_with fail
  rw [HW0.out]
  refine (alive_any _).mono ?_
  rintro e w1 ⟨rfl, hb1⟩
  have hT1 := hT.ext hb1
  have hS1 := hS.ext hb1
  have hB1 := hb0.trans (hb1.mono hb0.size)
  have hz1 : w.heap.size + 2 ≤ w1.heap.size := by have h1 := HZ0.out; have h2 := hb1.size; omega
  clear hT hS hb0 HW0 HZ0 hb1
  by_cases hn : ¬ ((1 ≤ n ∧ n ≤ 500) ∧ 1 ≤ q ∧ q ≤ 400)
  · have HN := Lib.hid hn
    clear hn
    go_wp2_with fail
    refine (rnew_bad n q _ HN.out).mono ?_
    rintro e w2 ⟨rfl, rfl⟩
    by_cases h60 : 200 < xs.length
    · go_wp2_with (first | (refine wpList_store_fld (by rfl) _ _ _ (by rfl) _ _ (by rfl) _ (by rfl) _ _ hT1 ?_ ?_ (by rfl) (by rfl) ?_; (next => first | omega | ((try simp) <;> omega)); (next => kernel_rfl); intro w4 hT4 hU4) | fail)
      have hcc : w4.cell? ⟨w.heap.size + 1, 0, none⟩ = some (.bool true) := hT4.cell 0
      exact bodyPostM_none (v := .bool true) rfl (by simp [results, Try.results9, go_sem, hcc]) ⟨rfl, below_upd hB1 (by omega) hU4⟩
    · go_wp2_with (first | (refine wpList_store_fld (by rfl) _ _ _ (by rfl) _ _ (by rfl) _ (by rfl) _ _ hT1 ?_ ?_ (by rfl) (by rfl) ?_; (next => first | omega | ((try simp) <;> omega)); (next => kernel_rfl); intro w4 hT4 hU4) | fail)
      have hcc : w4.cell? ⟨w.heap.size + 1, 0, none⟩ = some (.bool true) := hT4.cell 0
      exact bodyPostM_none (v := .bool true) rfl (by simp [results, Try.results9, go_sem, hcc]) ⟨rfl, below_upd hB1 (by omega) hU4⟩
  have hn' := Decidable.not_not.1 hn
  clear hn
  obtain ⟨n, rfl⟩ : ∃ m : Nat, n = m := ⟨n.toNat, by omega⟩
  obtain ⟨q, rfl⟩ : ∃ m : Nat, q = m := ⟨q.toNat, by omega⟩
  obtain ⟨⟨hn1, hn2⟩, hq1, hq2⟩ := hn'
  go_wp2_with fail
  refine (rnew_any n q _ (by omega) (by omega)).mono ?_
  rintro e w2 ⟨h, bl, cl, rfl, hhs, q2, hF2, hb2⟩
  have hT2 := hT1.ext hb2
  have hS2 := hS1.ext hb2
  have hB2 := below_ext hB1 hb2
  by_cases h60 : 200 < xs.length
  · go_wp2_with (first | (refine wpList_store_fld (by rfl) _ _ _ (by rfl) _ _ (by rfl) _ (by rfl) _ _ hT2 ?_ ?_ (by rfl) (by rfl) ?_; (next => first | omega | ((try simp) <;> omega)); (next => kernel_rfl); intro w4 hT4 hU4) | fail)
    have hcc : w4.cell? ⟨w.heap.size + 1, 0, none⟩ = some (.bool true) := hT4.cell 0
    exact bodyPostM_none (v := .bool true) rfl (by simp [results, Try.results9, go_sem, hcc]) ⟨rfl, below_upd hB2 (by omega) hU4⟩
  have hql2 := q2.hd.lt
  have htl2 := q2.tab.lt
  have hz2 := hb2.size
  go_wp2_with fail
  refine (fnew_any n q _ (by omega) (by omega)).mono ?_
  rintro e w3 ⟨g, bn, be, rfl, hge, f3, hb3⟩
  have hfl := f3.lt
  have B3 : Bq w3 g bn be h bl n q (fun _ => []) cl w3.heap.size := ⟨f3, q2.ext hb3, hF2 _, hfl, by omega, Nat.le_refl _⟩
  obtain ⟨B, hB⟩ : ∃ B, B = w3.heap.size := ⟨_, rfl⟩
  rw [← hB] at B3
  have hT3 := hT2.ext hb3
  have hS3 := hS2.ext hb3
  have hB3 := below_ext hB2 hb3
  have hlo : w.heap.size + 2 ≤ bn ∧ w.heap.size + 2 ≤ be ∧ w.heap.size + 2 ≤ bl ∧ w.heap.size + 2 ≤ g ∧ w.heap.size + 2 ≤ h := by omega
  clear hT1 hS1 hB1 hT2 hS2 hB2 q2 hF2 hb2 f3 hb3 hfl hge hhs hB hz1 hz2 hql2 htl2
  go_wp2_with fail
  go_loopw [15] (fun iv wr => ∃ k : Nat, iv = .int .i64 k ∧ k ≤ xs.length ∧ (∃ L cl, Bq wr g bn be h bl n q L cl B) ∧ Below w.heap.size w wr ∧ Blk wr w.heap.size 3 #[.int .i64 stop] ∧ Blk wr (w.heap.size + 1) 4 #[.bool false]) (fun iv _ => xs.length - (intOf iv).toNat)
  case atStart => exact ⟨0, rfl, Nat.zero_le _, ⟨_, _, B3⟩, hB3, hS3, hT3⟩
  case round =>
    obtain ⟨k, rfl, hk, ⟨L, cl2, BB⟩, hb, hS, hT⟩ := hrel
    clear B3 hB3 hS3 hT3
    by_cases hlt : k < xs.length
    · obtain ⟨rb, ro, rfl, hrg0⟩ := rd_range HR.out hlt
      have hrg : wr.rangeAt rb (ro + k * 3) xs[k].cells := fun j v hv => (hb.cell (cell_lt (hrg0 j v hv))).trans (hrg0 j v hv)
      have HA := Lib.hid (act_any xs[k] BB)
      clear BB hrg0
      go_wp2_with (first | (refine wpList_load_mid (by rfl) _ _ (by rfl) _ _ (by rfl) _ _ hrg Try.underlying63 rfl (by kernel_rfl) ?_) | fail)
      refine HA.out.mono ?_
      rintro e w4 ⟨rfl, ⟨L4, cl4, B4⟩, hu4⟩
      have hb4 : Below w.heap.size w w4 := hb.trans (hu4.below (by simp; omega) hb.size)
      have hS4 := hS.butL hu4 (by simp; omega)
      have hT4 := hT.butL hu4 (by simp; omega)
      go_wp2_with fail
      go_roundw
      case rel => exact ⟨k + 1, by go_num, by omega, ⟨_, _, B4⟩, hb4, hS4, hT4⟩
      case measure => simp [intOf]; omega
    · go_wp2_with fail
      have hW0 : Blk (wr.alloc (.cells #[.slice none 0 0] 28)) wr.heap.size 28 #[.slice none 0 0] := Blk.new _ _ _ _ rfl
      have hbW : Below wr.heap.size wr (wr.alloc (.cells #[.slice none 0 0] 28)) := by (repeat (first | with_reducible exact Below.refl _ _ | (with_reducible assumption) | (with_reducible refine below_alloc ?_ _) | (with_reducible refine below_ext (w1 := ?_) ?_ ?_; rotate_left 2; (with_reducible assumption)) | (with_reducible refine Below.setCell ?_ ?_ _; rotate_left; ((try simp) <;> omega)) | (with_reducible refine Below.drew ?_) | (with_reducible refine below_drewN ?_ _) | fail))
      generalize wr.alloc (.cells #[.slice none 0 0] 28) = W0 at hW0 hbW
      have B0 := BB.ext hbW
      have HH := Lib.hid (rhas_any B0.rq i)
      refine HH.out.mono ?_
      rintro e w' ⟨rfl, rfl⟩
      clear HH
      go_upto_if 57 with fail
      go_cut [] from 58 to 64 (fun wc => ∃ wl A cap, Want wc g bn be n q L i (w.heap.size + 2) wr.heap.size wl A cap ∧ Below wr.heap.size wr wc)
      case first =>
        have hlt2 := BB.lt
        by_cases hi : 0 ≤ i ∧ i < q
        · obtain ⟨m, rfl⟩ : ∃ m : Nat, i = m := ⟨i.toNat, by omega⟩
          have hm : m < q := by omega
          obtain ⟨v, A2, cap2, hv, rs⟩ := BB.rq.row m hm
          have c1 := B0.rq.c.2
          have c2 : W0.cell? ⟨bl, m, none⟩ = some (.slice A2 (L m).length cap2) := by rw [B0.rq.tab.cell, hv, rs.is]
          go_wp2_with (first | (refine wpList_store_fld (by rfl) _ _ _ (by rfl) _ _ (by rfl) _ (by rfl) _ _ hW0 ?_ ?_ (by rfl) (by rfl) ?_; (next => first | omega | ((try simp) <;> omega)); (next => kernel_rfl); intro w4 hW4 hU4) | fail)
          go_meet
          case rel =>
            have hb4 : Below wr.heap.size wr w4 := below_upd hbW (Nat.le_refl _) hU4
            exact ⟨L m, A2, cap2, ⟨BB.fq.ext hb4, .inl ⟨by omega, by omega, rfl⟩, hW4, rs.rd.keep (fun a e => hb4.block _ (rs.far a e).2.2), rs.len, fun a e => by
              subst e
              have h1 := rs.far a rfl
              have h2 := BB.far m a (L m).length cap2 (by rw [hv, rs.is])
              omega⟩, hb4⟩
        · go_wp2_with fail
          go_meet
          case rel => exact ⟨[], none, 0, ⟨B0.fq, .inr ⟨by omega, rfl⟩, hW0, fun h => absurd rfl h, by simp, fun a e => by simp at e⟩, hbW⟩
      case rest =>
        clear BB B0 hbW hW0
        obtain ⟨wl, A2, cap2, ⟨fc, hwl, hLc, hRc, hlen, hfar⟩, hbc⟩ := hcut
        have hWL := Lib.hid hwl
        clear hwl
        have hlt3 := fc.lt
        have hTr := hT.lt
        have hSc := hS.ext hbc
        have hTc := hT.ext hbc
        have hB := below_ext hb hbc
        clear hS hT hb
        have hN0 : Blk (wc.alloc (.cells #[.int .i64 0] 3)) wc.heap.size 3 #[.int .i64 0] := Blk.new _ _ _ _ rfl
        go_wp2_with (first | (refine wpList_store_fld (by rfl) _ _ _ (by rfl) _ _ (by rfl) _ (by rfl) _ _ hN0 ?_ ?_ (by rfl) (by rfl) ?_; (next => first | omega | ((try simp) <;> omega)); (next => kernel_rfl); intro w5 hN5 hU5) | fail)
        have hb5 : Below wc.heap.size wc w5 := below_upd (below_alloc (Below.refl _ _) _) (Nat.le_refl _) hU5
        refine (each_any (some ⟨g, 0, none⟩) i _).mono ?_
        rintro e w6 ⟨rfl, hQ6, hI6, hb6⟩
        go_wp2_with fail
        have hw56 : Below wc.heap.size wc w6 := below_ext hb5 hb6
        have hz5 : wc.heap.size + 1 ≤ w5.heap.size := by have := hN5.lt; omega
        have hz6 := hb6.size
        have hN6 : Blk w6 wc.heap.size 3 #[.int .i64 0] := hN5.ext hb6
        have hT6 := hTc.ext hw56
        have hS6 := hSc.ext hw56
        have hL6 := hLc.ext hw56
        have hTl := hTc.lt
        have hLl := hLc.lt
        have hR6 : Rd w6 1 A2 (wl.map nrow) := hRc.keep (fun a e => hw56.block _ (by have := (hfar a e).2; omega))
        have F6 := fc.ext hw56
        have hseq : Hid (SeqStopsK Fence.wide 8 Try.prog 51 #[.pointer (some ⟨w5.heap.size, 0, none⟩), .pointer (some ⟨w5.heap.size + 1, 0, none⟩)] (fun x : Nat => #[Value.int .i64 (x : Int)]) (ButL [wc.heap.size, w.heap.size + 1] w6.heap.size) (fun ys => ys = wl) (fun pre => pre <+: wl) wl.length w6) := by
          rcases hWL.out with ⟨h1, h2, rfl⟩ | ⟨h1, rfl⟩
          · obtain ⟨m, rfl⟩ : ∃ m : Nat, i = m := ⟨i.toNat, by omega⟩
            exact Lib.hid (each_stops F6 m _ _ (by omega) hQ6 hI6 _ (by simp; omega))
          · exact Lib.hid (each_off F6 i _ _ h1 hQ6 hI6 _)
        clear hQ6 hI6 hN5 hU5 hb5 hN0 hTc hSc hLc hRc fc
        refine' wp_rangeFuncB (α := Nat) [wc.heap.size, w.heap.size + 1] (gf := 51) (by rfl) (enters_of Try.func51 (by kernel_rfl) rfl) hseq.out (fun _ => rfl)
          (fun pre W => ButL [wc.heap.size, w.heap.size + 1] w6.heap.size w6 W ∧ Blk W wc.heap.size 3 #[.int .i64 pre.length] ∧ Blk W (w.heap.size + 1) 4 #[.bool false] ∧ ∀ m : Nat, 1 ≤ m → m ≤ pre.length → (m : Int) ≠ stop)
          (fun c pre W => ButL [wc.heap.size, w.heap.size + 1] w6.heap.size w6 W ∧ ((c = .ret ∧ ¬ pre <+: wl) ∨ (c = .exit 2 ∧ Blk W wc.heap.size 3 #[.int .i64 pre.length] ∧ Blk W (w.heap.size + 1) 4 #[.bool false] ∧ (pre.length : Int) = stop ∧ 1 ≤ pre.length)))
          ?I ?Ix ?h0 _ ?assign ?body ?done ?stop
        case I =>
          rintro pre W W' row ⟨h1, h2, h3, h4⟩ hg hr
          have hbl : Below w6.heap.size W W' := grown_below hg h1.size (fun g e => (hr g e).1)
          exact ⟨h1.trans (ButL.of_below hbl), (hbl.block _ (by omega)).trans h2, (hbl.block _ (by omega)).trans h3, h4⟩
        case Ix =>
          rintro c pre W W' row ⟨h1, h2⟩ hg hr
          have hbl : Below w6.heap.size W W' := grown_below hg h1.size (fun g e => (hr g e).1)
          refine ⟨h1.trans (ButL.of_below hbl), ?_⟩
          rcases h2 with h2 | ⟨h2, h3, h4, h5⟩
          · exact .inl h2
          · exact .inr ⟨h2, (hbl.block _ (by omega)).trans h3, (hbl.block _ (by omega)).trans h4, h5⟩
        case h0 => exact ⟨ButL.refl _ _ _, hN6, hT6, fun m h1 h2 => by simp at h2; omega⟩
        case assign =>
          intro l x W K hK
          gi_wp2
          exact hK
        case body =>
          rintro l pre x W ⟨h1, h2, h3, h4⟩ hlt2
          have hLW := hL6.butL h1 (by simp; omega)
          have hSW := hS6.butL h1 (by simp; omega)
          have hRW : Rd W 1 A2 (wl.map nrow) := hR6.keep (fun a e => by have h6 := hfar a e; exact h1.block _ (by omega) (by simp; omega))
          obtain ⟨rb, ro, rfl, hcx⟩ : ∃ b o, A2 = some ⟨b, o, none⟩ ∧ W.cell? ⟨b, o + pre.length, none⟩ = some (.int .i64 (wl[pre.length] : Int)) := by
            obtain ⟨b, o, e, hc⟩ := hRW.at hlt2
            have h0 := hc 0 _ rfl
            simp only [Nat.mul_one, Nat.add_zero] at h0
            exact ⟨b, o, e, h0⟩
          have cn : W.cell? ⟨wc.heap.size, 0, none⟩ = some (.int .i64 pre.length) := h2.cell 0
          have nf : W.frozen? ⟨wc.heap.size, 0, none⟩ = false := h2.frozen 0
          have cw : W.cell? ⟨wr.heap.size, 0, none⟩ = some (.slice (some ⟨rb, ro, none⟩) wl.length cap2) := hLW.cell 0
          have cs : W.cell? ⟨w.heap.size, 0, none⟩ = some (.int .i64 stop) := hSW.cell 0
          have cr : W.cell? ⟨w.heap.size + 1, 0, none⟩ = some (.bool false) := h3.cell 0
          have rf : W.frozen? ⟨w.heap.size + 1, 0, none⟩ = false := h3.frozen 0
          have hl1 : (pre.length : Int) < (wl.length : Int) := by omega
          have hl2 : (pre.length : Int) < 500 := by omega
          have hne1 : wc.heap.size ≠ w.heap.size := by omega
          clear hseq hWL HR
          by_cases hx : x = wl[pre.length]
          · subst hx
            have hle : (((pre ++ [wl[pre.length]]).length : Nat) : Int) = (pre.length : Int) + 1 := by simp
            gi_wp2_with fail
            · rename_i hs
              have hs2 := eq_of_beq hs
              refine ⟨KeepsOthers.setCell _ _ _, h1.upd (by simp) (Upd.setCell _ _ _), .inr ⟨rfl, ?_, h3.upd (show w.heap.size + 1 ≠ wc.heap.size by omega) (Upd.setCell W ⟨wc.heap.size, 0, none⟩ _), by rw [hle]; exact hs2, by simp⟩⟩
              rw [hle]
              exact h2.setCell 0 _
            · rename_i hs
              have hs2 : (pre.length : Int) + 1 ≠ stop := by simpa using hs
              refine ⟨KeepsOthers.setCell _ _ _, (ButL.refl _ _ W).upd (by simp) (Upd.setCell _ _ _), h1.upd (by simp) (Upd.setCell _ _ _), ?_, h3.upd (show w.heap.size + 1 ≠ wc.heap.size by omega) (Upd.setCell W ⟨wc.heap.size, 0, none⟩ _), ?_⟩
              · rw [hle]
                exact h2.setCell 0 _
              · intro m hm1 hm2
                by_cases hm3 : m ≤ pre.length
                · exact h4 m hm1 hm3
                · simp at hm2
                  omega
          · have hx2 : (x : Int) ≠ (wl[pre.length] : Int) := fun h => hx (Int.ofNat.inj h)
            gi_wp2_with fail
            · refine ⟨KeepsOthers.setCell _ _ _, h1.upd (by simp) (Upd.setCell _ _ _), .inl ⟨rfl, ?_⟩⟩
              rintro ⟨t, ht⟩
              exact hx (by simp [← ht])
            · rename_i h7 _
              exact absurd (by simpa using h7.2) hx2
            · rename_i h7 _
              exact absurd (by simpa using h7.2) hx2
        case done =>
          rintro D ys W hD rfl ⟨h1, h2, h3, h4⟩ hK
          have hLW := hL6.butL h1 (by simp; omega)
          have hSW := hS6.butL h1 (by simp; omega)
          have cn : W.cell? ⟨wc.heap.size, 0, none⟩ = some (.int .i64 ys.length) := h2.cell 0
          have cw : W.cell? ⟨wr.heap.size, 0, none⟩ = some (.slice A2 ys.length cap2) := hLW.cell 0
          have cs : W.cell? ⟨w.heap.size, 0, none⟩ = some (.int .i64 stop) := hSW.cell 0
          by_cases hs : 0 < stop ∧ stop < ys.length
          · exact absurd (show ((stop.toNat : Nat) : Int) = stop by omega) (h4 stop.toNat (by omega) (by omega))
          · go_wp2_with (first | (refine wpList_store_fld (by rfl) _ _ _ (by rfl) _ _ (by rfl) _ (by rfl) _ _ h3 ?_ ?_ (by rfl) (by rfl) ?_; (next => first | omega | ((try simp) <;> omega)); (next => kernel_rfl); intro w9 hT9 hU9) | fail)
            all_goals (
              have hT10 : Blk w9 (w.heap.size + 1) 4 #[.bool true] := by
                simpa [go_sem] using hT9
              have hKl : D < W.heap.size := (Array.getElem?_eq_some_iff.1 hK).1
              have hzW := h1.size
              have hK9 : w9.heap[D]? = some (.deferred (some [])) := (hU9.block D (by omega)).trans hK
              have hbW : Below w.heap.size w W := (hB.trans (hw56.mono (by omega))).trans (h1.below (by simp; omega) (by omega))
              have hb9 : Below w.heap.size w w9 := below_upd hbW (by omega) hU9
              have hcc : (w9.putObj D (.deferred none)).cell? ⟨w.heap.size + 1, 0, none⟩ = some (.bool true) := (cell_mark (by omega)).trans (hT10.cell 0)
              exact bodyPostM_ret (v := .bool true) rfl hK9 (by simp [results, Try.results9, go_sem, hcc]) ⟨rfl, below_mark hb9 (by omega) hK9⟩)
        case stop =>
          rintro D c pre W hD hp ⟨h1, h2⟩ hK
          rcases h2 with ⟨_, h2⟩ | ⟨rfl, h2, h3, h4, h5⟩
          · exact absurd hp h2
          have hLW := hL6.butL h1 (by simp; omega)
          have hSW := hS6.butL h1 (by simp; omega)
          have cn : W.cell? ⟨wc.heap.size, 0, none⟩ = some (.int .i64 pre.length) := h2.cell 0
          have cw : W.cell? ⟨wr.heap.size, 0, none⟩ = some (.slice A2 wl.length cap2) := hLW.cell 0
          have cs : W.cell? ⟨w.heap.size, 0, none⟩ = some (.int .i64 stop) := hSW.cell 0
          have hpl := hp.length_le
          subst h4
          obtain ⟨m, hm1, hm2⟩ : ∃ m : Nat, wl.length = m ∧ (m = pre.length ∨ (pre.length : Int) < (m : Int)) := ⟨_, rfl, by omega⟩
          rw [hm1] at cw
          rcases hm2 with rfl | hlt4
          all_goals (
            go_wp2_with (first | (refine wpList_store_fld (by rfl) _ _ _ (by rfl) _ _ (by rfl) _ (by rfl) _ _ h3 ?_ ?_ (by rfl) (by rfl) ?_; (next => first | omega | ((try simp) <;> omega)); (next => kernel_rfl); intro w9 hT9 hU9) | fail)
            all_goals (
              have hT10 : Blk w9 (w.heap.size + 1) 4 #[.bool true] := by
                simpa [go_sem] using hT9
              have hKl : D < W.heap.size := (Array.getElem?_eq_some_iff.1 hK).1
              have hzW := h1.size
              have hK9 : w9.heap[D]? = some (.deferred (some [])) := (hU9.block D (by omega)).trans hK
              have hbW : Below w.heap.size w W := (hB.trans (hw56.mono (by omega))).trans (h1.below (by simp; omega) (by omega))
              have hb9 : Below w.heap.size w w9 := below_upd hbW (by omega) hU9
              have hcc : (w9.putObj D (.deferred none)).cell? ⟨w.heap.size + 1, 0, none⟩ = some (.bool true) := (cell_mark (by omega)).trans (hT10.cell 0)
              exact bodyPostM_ret (v := .bool true) rfl hK9 (by simp [results, Try.results9, go_sem, hcc]) ⟨rfl, below_mark hb9 (by omega) hK9⟩))
open Go.ChangeShapes Go.WideShapes Go.ChangeAt Go.Deep
theorem fitAct {vs : List Value} (h : fits (List.replicate 3 K) vs) : ∃ s : Act, vs = s.cells ∧ True := by
  obtain ⟨a0, _, rfl, b0, h⟩ := fitInt h
  obtain ⟨a1, _, rfl, b1, h⟩ := fitInt h
  obtain ⟨a2, _, rfl, b2, h⟩ := fitInt h
  cases fitNil h
  exact ⟨⟨a0, a1, a2⟩, rfl, trivial⟩
set_option maxRecDepth 100000 in
theorem argsFifoEach (H : Type) (enc : TypeId × Value → H) (W : World) (args : Array Value) (hargs : Args Try.checked H enc [3, 3, 54, 3, 3] W args) :
    Calls Try.prog 9 args W fun e W' => e = .returned (.bool true) ∧ Below W.heap.size W W' := by
  obtain ⟨base, ds, p, hval, hA⟩ := hargs
  obtain ⟨v0, vs0, d0, ds0, p0, q0, hargs, rfl, rfl, h0, r0⟩ := trodAll_cons hA
  obtain ⟨v1, vs1, d1, ds1, p1, q1, rfl, rfl, rfl, h1, r1⟩ := trodAll_cons r0
  obtain ⟨v2, vs2, d2, ds2, p2, q2, rfl, rfl, rfl, h2, r2⟩ := trodAll_cons r1
  obtain ⟨v3, vs3, d3, ds3, p3, q3, rfl, rfl, rfl, h3, r3⟩ := trodAll_cons r2
  obtain ⟨v4, vs4, d4, ds4, p4, q4, rfl, rfl, rfl, h4, r4⟩ := trodAll_cons r3
  obtain ⟨rfl, rfl, rfl⟩ := trodAll_nil r4
  obtain rfl : args = #[v0, v1, v2, v3, v4] := by cases args; simp_all
  obtain ⟨n, rfl, _⟩ := open_int Try.underlying3 (hval 0 _ v0 rfl rfl) h0
  obtain ⟨q, rfl, _⟩ := open_int Try.underlying3 (hval 1 _ v1 rfl rfl) h1
  obtain ⟨A, la, ca, rows, rfl, hla, hlc, hca, hfa, ha⟩ := open_rows (ks := List.replicate 3 K) 6 Try.underlying54 (by kernel_rfl) (by kernel_rfl) (by decide) (hval 2 _ v2 rfl rfl) h2
  obtain ⟨i, rfl, _⟩ := open_int Try.underlying3 (hval 3 _ v3 rfl rfl) h3
  obtain ⟨stop, rfl, _⟩ := open_int Try.underlying3 (hval 4 _ v4 rfl rfl) h4
  obtain ⟨xs, rfl, _⟩ := rowsOf (fun vs h => fitAct h) rows hfa
  rw [List.length_map] at hla
  subst hla
  exact feach_any n q i stop xs A ca W ha (by omega)
theorem ownFifoEach : ownKnob Try.prog.godebug = none := by kernel_rfl
theorem laidFifoEach : laidOutB Try.prog = true := by kernel_rfl
set_option maxRecDepth 100000 in
theorem liftedFifoEach (os : Os) (started : os.Started) (H : Type) (enc : TypeId × Value → H) :
    ReturnsInHanded {} Try.checked os 9 .any (Rows.fifoEachSpec.pre6 enc Try.prog Try.f9 Rows.fifoEachRow.domain false) (Rows.fifoEachSpec.post enc Try.prog Try.f9 false true false false) :=
  law_lifted (C := Try.checked) (ts := [3, 3, 54, 3, 3]) (tb := 4) ownFifoEach laidFifoEach started (by kernel_rfl) Try.func9 (by kernel_rfl)
    (ChangeSpec.witness6 (enc := enc) (C := Try.checked) false ⟨#[], #[.int .i64 0, .int .i64 0, .slice none 0 0, .int .i64 0, .int .i64 0], []⟩ 8 (by kernel_rfl) (by kernel_rfl) (by kernel_rfl) (by kernel_rfl))
    rfl (by kernel_rfl) Try.underlying4 (by kernel_rfl)
    (fun ds h => by
      match ds, h with
      | [d0, d1, d2, d3, d4], _ => rfl)
    (fun W args h => argsFifoEach H enc W args h)
theorem provedFifoEach : Rows.FifoEachSaid :=
  OpenClaim.holds_of_wide 9 Try.f9 rfl rfl rfl rfl rfl rfl rfl ⟨rfl, rfl, rfl, rfl, rfl⟩ rfl rfl rfl rfl rfl (by kernel_rfl) Try.func9 (by kernel_rfl)
    (of_decide_eq_true (by kernel_rfl)) (by unfold Func.isWrapper; first | (rw [if_pos (by decide +kernel)]; kernel_rfl) | (rw [if_neg (by decide +kernel)]; exact ⟨rfl, rfl⟩))
    (fun os started H enc _ => liftedFifoEach os started H enc)
#print axioms provedFifoEach
end Fif
end Go.Proofs.Ytodgeakkecaliaa
