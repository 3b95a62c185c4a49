/- This text proves IndexEach: whatever the input, the law returns true. It has no conditions. -/
import Derived.Test.YtojkkmmiflbepaaIdxSrt
import Derived.Test.YtojkkmmiflbepaaIdxAlive
import Derived.Deep.CutRange
namespace Go.Proofs.Ytojkkmmiflbepaa
set_option linter.unusedVariables false
open Go.RowKit Go.Maps
namespace Idx
set_option maxHeartbeats 2000000
set_option maxRecDepth 10000
theorem rd_rangeI {α : Type} {c : α → List Value} {w : World} {k : Nat} {A : Option Addr} {xs : List α} (h : Rd w k A (xs.map c)) {i : Nat} (hi : i < xs.length) :
    ∃ b off, A = some ⟨b, off, none⟩ ∧ w.rangeAt b (off + i * k) (c xs[i]) := by
  obtain ⟨b, off, e, hc⟩ := h.at hi
  exact ⟨b, off, e, fun j v hv => by rw [Nat.add_assoc]; exact hc j v hv⟩
theorem kc_set {nb : List Nat} {B : Nat} {W : World} {g i : Nat} {v : Value} (hg : g ∈ nb) : Kc nb B W (W.setCell ⟨g, i, none⟩ v) :=
  ⟨(ButL.refl _ _ W).upd hg (Upd.setCell W ⟨g, i, none⟩ v), fun k cs t fr hk hn => by rw [(Upd.setCell W ⟨g, i, none⟩ v).block k (fun e => hn (by rw [e]; exact hg))]; exact hk⟩
attribute [local go_sem] Oper.semAt_some in
theorem ieach_any (sym stop : Int) (hsy : Wf sym) (xs : List Act) (A : Option Addr) (cap : Nat) (w : World) (hr : Rd w 4 A (xs.map Act.cells)) (hml : xs.length ≤ maxLen) (hwf : ∀ x ∈ xs, x.wf) :
    Calls Try.prog 3 #[.slice A xs.length cap, .int .i64 sym, .int .i64 stop] w fun e w' => e = .returned (.bool true) ∧ Below w.heap.size w w' := by
  unfold maxLen at hml
  have HR := Lib.hid hr
  clear hr
  refine calls_of_wp_marks Try.func3 rfl ?_
  simp only [Try.ntmps3, List.size_toArray, List.length_cons, List.length_nil, Nat.reduceAdd, Nat.reduceSub, Array.replicate_succ, Array.replicate_zero, List.push_toArray, List.append_toArray, List.nil_append, List.cons_append]
  have hS : Blk ((w.alloc (.cells #[.int .i64 stop] 3)).alloc (.cells #[.bool false] 4)) w.heap.size 3 #[.int .i64 stop] := (Blk.new w _ _ _ rfl).alloc _
  have hT : Blk ((w.alloc (.cells #[.int .i64 stop] 3)).alloc (.cells #[.bool false] 4)) (w.heap.size + 1) 4 #[.bool false] := Blk.new _ _ _ _ (sz_alloc _ _)
  have hb0 : Below w.heap.size w ((w.alloc (.cells #[.int .i64 stop] 3)).alloc (.cells #[.bool false] 4)) := by (repeat (first | with_reducible exact Below.refl _ _ | (with_reducible assumption) | (with_reducible refine below_alloc ?_ _) | (with_reducible refine below_ext (w1 := ?_) ?_ ?_; rotate_left 2; (with_reducible assumption)) | (with_reducible refine Below.setCell ?_ ?_ _; rotate_left; ((try simp) <;> omega)) | (with_reducible refine Below.drew ?_) | (with_reducible refine below_drewN ?_ _) | fail))
  generalize hw0 : (w.alloc (.cells #[.int .i64 stop] 3)).alloc (.cells #[.bool false] 4) = w0 at hS hT hb0
  have hz0 : w0.heap.size = w.heap.size + 1 + 1 := by rw [← hw0, sz_alloc, sz_alloc]
  have HW0 := Lib.hid hw0
  have HZ0 := Lib.hid hz0
  clear hw0 hz0
  go_wp2_with fail
  rw [HW0.out]
  refine (alive_any _).mono ?_
  rintro e w1 ⟨rfl, hb1⟩
  have hT1 := hT.ext hb1
  have hS1 := hS.ext hb1
  have hB1 := hb0.trans (hb1.mono hb0.size)
  have hz1 : w.heap.size + 2 ≤ w1.heap.size := by have h1 := HZ0.out; have h2 := hb1.size; omega
  clear hT hS hb0 HW0 HZ0 hb1
  by_cases h60 : 200 < xs.length
  · go_wp2_with (first | ((with_reducible show wpList _ _ _ (⟨_, .store _ _ _, _, _, _, _⟩ :: _) _ _); refine wpList_store_fld (by rfl) _ _ _ (by rfl) _ _ (by rfl) _ (by rfl) _ _ hT1 ?_ ?_ (by rfl) (by rfl) ?_; (next => first | omega | ((try simp) <;> omega)); (next => kernel_rfl); intro w4 hT4 hU4) | fail)
    have hcc : w4.cell? ⟨w.heap.size + 1, 0, none⟩ = some (.bool true) := hT4.cell 0
    exact bodyPostM_none (v := .bool true) rfl (by simp [results, Try.results3, go_sem, hcc]) ⟨rfl, below_upd hB1 (by omega) hU4⟩
  go_wp2_with fail
  refine (new_any _).mono ?_
  rintro e w2 ⟨xb, bs, bm, rfl, hlo, x2, hb2⟩
  have hz2 := hb2.size
  have hR0 : Blk (w2.alloc (.cells #[.slice none 0 0] 29)) w2.heap.size 29 #[.slice none 0 0] := Blk.new _ _ _ _ rfl
  have hb3 : Below w2.heap.size w2 (w2.alloc (.cells #[.slice none 0 0] 29)) := by (repeat (first | with_reducible exact Below.refl _ _ | (with_reducible assumption) | (with_reducible refine below_alloc ?_ _) | (with_reducible refine below_ext (w1 := ?_) ?_ ?_; rotate_left 2; (with_reducible assumption)) | (with_reducible refine Below.setCell ?_ ?_ _; rotate_left; ((try simp) <;> omega)) | (with_reducible refine Below.drew ?_) | (with_reducible refine below_drewN ?_ _) | fail))
  have B3 : Bx (w2.alloc (.cells #[.slice none 0 0] 29)) xb bs bm 0 w2.heap.size [] := ⟨x2.ext hb3, none, 0, hR0, fun h => absurd rfl h, Nat.le_refl _, fun _ => rfl, fun a e => (by cases e), by simp⟩
  have hb13 := below_ext hb2 hb3
  have hT3 := hT1.ext hb13
  have hS3 := hS1.ext hb13
  have hB3 := below_ext hB1 hb13
  obtain ⟨rb, hrb⟩ : ∃ r, r = w2.heap.size := ⟨_, rfl⟩
  have hlr : w.heap.size + 2 ≤ rb ∧ w.heap.size + 2 ≤ bs ∧ w.heap.size + 2 ≤ bm := by omega
  go_wp2_with fail
  rw [← hrb] at B3 ⊢
  generalize w2.alloc (.cells #[.slice none 0 0] 29) = w3 at B3 hB3 hT3 hS3 ⊢
  clear hR0 hb3 hrb x2 hb2 hz1 hz2 hb13 hT1 hS1 hB1 hlo
  go_loopw [9] (fun i wr => ∃ (k n : Nat) (L : List R3), i = .int .i64 k ∧ k ≤ xs.length ∧ Bx wr xb bs bm n rb L ∧ L.length ≤ k ∧ n ≤ k ∧ Below w.heap.size w wr ∧ Blk wr w.heap.size 3 #[.int .i64 stop] ∧ Blk wr (w.heap.size + 1) 4 #[.bool false]) (fun i _ => xs.length - (intOf i).toNat)
  case atStart => exact ⟨0, 0, [], rfl, Nat.zero_le _, B3, Nat.le_refl _, Nat.le_refl _, hB3, hS3, hT3⟩
  case round =>
    obtain ⟨k, n, L, rfl, hk, B, hL, hn, hb, hS, hT⟩ := hrel
    clear B3 hB3 hS3 hT3
    by_cases hlt : k < xs.length
    · obtain ⟨b, o, rfl, hrg0⟩ := rd_rangeI HR.out hlt
      have hrg : wr.rangeAt b (o + k * 4) xs[k].cells := fun j v hv => (hb.cell (cell_lt (hrg0 j v hv))).trans (hrg0 j v hv)
      have HA := Lib.hid (act_any xs[k] (hwf _ (List.getElem_mem hlt)) B (m := k) hL hn (by omega))
      clear B hrg0
      go_wp2_with (first | (refine wpList_load_mid (by rfl) _ _ (by rfl) _ _ (by rfl) _ _ hrg Try.underlying32 rfl (by kernel_rfl) ?_) | fail)
      refine HA.out.mono ?_
      rintro e w4 ⟨rfl, ⟨n4, L4, B4, hL4, hn4⟩, hu4⟩
      have hb4 : Below w.heap.size w w4 := hb.trans (hu4.below (by simp; omega) hb.size)
      have hS4 := hS.butL hu4 (by simp; omega)
      have hT4 := hT.butL hu4 (by simp; omega)
      go_wp2_with fail
      go_roundw
      case rel => exact ⟨k + 1, n4, L4, by go_num, by omega, B4, hL4, hn4, hb4, hS4, hT4⟩
      case measure => simp [intOf]; omega
    · obtain ⟨Ar, capr, qr⟩ := B.2
      have hu := B.1.uniq
      have hcn : (ofR L sym).length ≤ 200 := by rw [of_len]; have := cntS_le L sym; omega
      have HP := Lib.hid (of_pairs hu sym)
      have X0 := B.1
      clear B hu
      go_wp2_with (first
        | (go_at_call 7; refine (rof_any qr sym).mono ?_; rintro e w6 ⟨⟨v, rfl, hown⟩, hb6⟩; obtain ⟨A6, cap6, rfl, hR6, hc6, _, hfar6⟩ := owns_r3 hown; clear hown)
        | fail)
      have hz6 := hb6.size
      have hL7 : Blk ((w6.alloc (.cells #[.slice A6 (ofR L sym).length cap6] 27)).alloc (.cells #[.int .i64 0] 3)) w6.heap.size 27 #[.slice A6 (ofR L sym).length cap6] := (Blk.new w6 _ _ _ rfl).alloc _
      have hN7 : Blk ((w6.alloc (.cells #[.slice A6 (ofR L sym).length cap6] 27)).alloc (.cells #[.int .i64 0] 3)) (w6.heap.size + 1) 3 #[.int .i64 0] := Blk.new _ _ _ _ (sz_alloc _ _)
      have hb7 : Below w6.heap.size w6 ((w6.alloc (.cells #[.slice A6 (ofR L sym).length cap6] 27)).alloc (.cells #[.int .i64 0] 3)) := by (repeat (first | with_reducible exact Below.refl _ _ | (with_reducible assumption) | (with_reducible refine below_alloc ?_ _) | (with_reducible refine below_ext (w1 := ?_) ?_ ?_; rotate_left 2; (with_reducible assumption)) | (with_reducible refine Below.setCell ?_ ?_ _; rotate_left; ((try simp) <;> omega)) | (with_reducible refine Below.drew ?_) | (with_reducible refine below_drewN ?_ _) | fail))
      generalize (w6.alloc (.cells #[.slice A6 (ofR L sym).length cap6] 27)).alloc (.cells #[.int .i64 0] 3) = w7 at *
      refine (each_any (some ⟨xb, 0, none⟩) sym _).mono ?_
      rintro e w8 ⟨rfl, hQ8, hI8, hb8⟩
      obtain ⟨lb, hlb⟩ : ∃ q, q = w6.heap.size := ⟨_, rfl⟩
      rw [← hlb] at hL7 hN7 ⊢
      have hb68 := below_ext hb7 hb8
      have hbr8 := below_ext hb6 hb68
      have hB8 := below_ext hb hbr8
      have hz8 := hb8.size
      have hz68 := hb68.size
      have hll := hL7.lt
      have hnl := hN7.lt
      have hTl := hT.lt
      have hL8 := hL7.ext hb8
      have hN8 := hN7.ext hb8
      have hS8 := hS.ext hbr8
      have hT8 := hT.ext hbr8
      have hX8 := X0.ext hbr8
      have hR8 : Rd w8 3 A6 ((ofR L sym).map R3.cells) := hR6.keep (fun a e => hb68.block _ (by have := hfar6 a e; omega))
      have hxl := X0.lt
      have hM := Lib.hid (each_stops hX8 hsy w7.heap.size (w7.heap.size + 1) hQ8 hI8 [lb + 1, w.heap.size + 1] (by
        have h1 := hX8.hd
        have hne : ∀ q cs t, Blk w8 q t cs → t ≠ 49 → xb ≠ q := fun q cs t h ht e => by
          rw [← e] at h
          unfold Blk at h h1
          rw [h] at h1
          injection h1 with h1
          injection h1 with _ h1 _
          exact ht h1
        have h2 := hne _ _ _ hN8 (by decide)
        have h3 := hne _ _ _ hT8 (by decide)
        simp
        omega) (by
        intro q hq
        simp at hq
        omega))
      have hfar8 : ∀ a, A6 = some a → a.block < lb := fun a e => by have := (hfar6 a e).2; omega
      have hlow8 : ∀ a, A6 = some a → w.heap.size + 1 < a.block := fun a e => by have := (hfar6 a e).1; have := hT.lt; omega
      clear hQ8 hI8 hb7 hb8 hb6 hb68 hR6 hfar6 hL7 hN7 X0 qr hS hT hb
      generalize hMe : ofR L sym = M at *
      have HPL : Hid ((pairs L sym).length = M.length) := Lib.hid (by rw [← HP.out, List.length_map])
      clear hMe
      have HLB := Lib.hid hlb
      have HZ8 := Lib.hid (And.intro hz6 (And.intro hz8 hz68))
      have hlw : w.heap.size + 1 < lb := by omega
      have hl8 : lb + 1 < w8.heap.size := by omega
      clear hlb hz6 hz8 hz68 hll hnl
      go_wp2_with fail
      refine' wp_rangeFuncK (α := Int × Int) [lb + 1, w.heap.size + 1] (gf := 18) (by rfl) (enters_of Try.func18 (by kernel_rfl) rfl) hM.out (fun _ => rfl)
        (fun pre W => ButL [lb + 1, w.heap.size + 1] w8.heap.size w8 W ∧ Blk W (lb + 1) 3 #[.int .i64 pre.length] ∧ Blk W (w.heap.size + 1) 4 #[.bool false] ∧ ∀ m : Nat, 1 ≤ m → m ≤ pre.length → (m : Int) ≠ stop)
        (fun c pre W => ButL [lb + 1, w.heap.size + 1] w8.heap.size w8 W ∧ ((c = .ret ∧ ¬ pre <+: pairs L sym) ∨ (c = .exit 2 ∧ Blk W (lb + 1) 3 #[.int .i64 pre.length] ∧ Blk W (w.heap.size + 1) 4 #[.bool false] ∧ (pre.length : Int) = stop ∧ 1 ≤ pre.length)))
        ?I ?Ix ?h0 _ ?assign ?body ?done ?stop
      case I =>
        rintro pre W W' row ⟨h1, h2, h3, h4⟩ hg hr
        have hbl : Below w8.heap.size W W' := grown_below hg h1.size (fun g e => (hr g e).1)
        exact ⟨h1.trans (ButL.of_below hbl), (hbl.block _ (by omega)).trans h2, (hbl.block _ (by omega)).trans h3, h4⟩
      case Ix =>
        rintro c pre W W' row ⟨h1, h2⟩ hg hr
        have hbl : Below w8.heap.size W W' := grown_below hg h1.size (fun g e => (hr g e).1)
        refine ⟨h1.trans (ButL.of_below hbl), ?_⟩
        rcases h2 with h2 | ⟨h2, h3, h4, h5⟩
        · exact .inl h2
        · exact .inr ⟨h2, (hbl.block _ (by omega)).trans h3, (hbl.block _ (by omega)).trans h4, h5⟩
      case h0 => exact ⟨ButL.refl _ _ _, hN8, hT8, fun m h1 h2 => by simp at h2; omega⟩
      case assign =>
        intro l x W K hK
        simp only [encP]
        gi_wp2
        exact hK
      case body =>
        rintro l pre x W ⟨h1, h2, h3, h4⟩ hlt2
        have hpl := HPL.out
        rw [hpl] at hlt2
        have hLW := hL8.butL h1 (by simp; omega)
        have hSW := hS8.butL h1 (by simp; omega)
        have hRW : Rd W 3 A6 (M.map R3.cells) := hR8.keep (fun a e => by have h6 := hfar8 a e; have h7 := hlow8 a e; exact h1.block _ (by omega) (by simp; omega))
        obtain ⟨rb', ro, rfl, hrg⟩ := rd_rangeI hRW hlt2
        have cx1 : W.cell? ⟨rb', ro + pre.length * 3 + 1, none⟩ = some (.int .i64 M[pre.length].id) := hrg 1 _ rfl
        have cx2 : W.cell? ⟨rb', ro + pre.length * 3 + 2, none⟩ = some (.int .i64 M[pre.length].slot) := hrg 2 _ rfl
        have cn : W.cell? ⟨lb + 1, 0, none⟩ = some (.int .i64 pre.length) := h2.cell 0
        have nf : W.frozen? ⟨lb + 1, 0, none⟩ = false := h2.frozen 0
        have cw : W.cell? ⟨lb, 0, none⟩ = some (.slice (some ⟨rb', ro, none⟩) M.length cap6) := hLW.cell 0
        have cs : W.cell? ⟨w.heap.size, 0, none⟩ = some (.int .i64 stop) := hSW.cell 0
        have cr : W.cell? ⟨w.heap.size + 1, 0, none⟩ = some (.bool false) := h3.cell 0
        have rf : W.frozen? ⟨w.heap.size + 1, 0, none⟩ = false := h3.frozen 0
        have hl1 : (pre.length : Int) < (M.length : Int) := by omega
        have hl2 : (pre.length : Int) < 500 := by omega
        have hne1 : lb + 1 ≠ w.heap.size := by omega
        obtain ⟨p1, p2⟩ := x
        have HB : Hid ((p1, p2) ≠ (M[pre.length].id, M[pre.length].slot) → ¬ (pre ++ [(p1, p2)]) <+: pairs L sym) := Lib.hid (by
          rintro hne ⟨t, ht⟩
          rw [← HP.out] at ht
          apply hne
          have h5 : ((pre ++ [(p1, p2)] ++ t))[pre.length]? = (M.map fun r => (r.id, r.slot))[pre.length]? := by rw [ht]
          simpa [hlt2] using h5)
        clear hM HP HR hRW hrg
        generalize M[pre.length].id = id at *
        generalize M[pre.length].slot = sl at *
        by_cases hx : p1 = id ∧ p2 = sl
        · obtain ⟨rfl, rfl⟩ := hx
          have hle : (((pre ++ [(p1, p2)]).length : Nat) : Int) = (pre.length : Int) + 1 := by simp
          clear HB
          gi_wp2_with fail
          · rename_i hs
            have hs2 := eq_of_beq hs
            refine ⟨KeepsOthers.setCell _ _ _, h1.upd (by simp) (Upd.setCell _ _ _), .inr ⟨rfl, ?_, h3.upd (show w.heap.size + 1 ≠ lb + 1 by omega) (Upd.setCell W ⟨lb + 1, 0, none⟩ _), by rw [hle]; exact hs2, by simp⟩⟩
            rw [hle]
            exact h2.setCell 0 _
          · rename_i hs
            have hs2 : (pre.length : Int) + 1 ≠ stop := by simpa using hs
            refine ⟨KeepsOthers.setCell _ _ _, kc_set (by simp), h1.upd (by simp) (Upd.setCell _ _ _), ?_, h3.upd (show w.heap.size + 1 ≠ lb + 1 by omega) (Upd.setCell W ⟨lb + 1, 0, none⟩ _), ?_⟩
            · rw [hle]
              exact h2.setCell 0 _
            · intro m hm1 hm2
              by_cases hm3 : m ≤ pre.length
              · exact h4 m hm1 hm3
              · simp at hm2
                omega
        · have hx2 : (p1, p2) ≠ (id, sl) := fun h => hx (by cases h; exact ⟨rfl, rfl⟩)
          have hNP := Lib.hid (HB.out hx2)
          clear HB
          gi_wp2_with fail
          all_goals first
            | exact ⟨KeepsOthers.setCell _ _ _, h1.upd (by simp) (Upd.setCell _ _ _), .inl ⟨rfl, hNP.out⟩⟩
            | (exfalso; apply hx; simp_all)
      case done =>
        rintro D ys W hD rfl ⟨h1, h2, h3, h4⟩ hK
        have hpl := HPL.out
        have hLW := hL8.butL h1 (by simp; omega)
        have hSW := hS8.butL h1 (by simp; omega)
        have cn : W.cell? ⟨lb + 1, 0, none⟩ = some (.int .i64 (pairs L sym).length) := h2.cell 0
        rw [hpl] at cn h4
        have cw : W.cell? ⟨lb, 0, none⟩ = some (.slice A6 M.length cap6) := hLW.cell 0
        have cs : W.cell? ⟨w.heap.size, 0, none⟩ = some (.int .i64 stop) := hSW.cell 0
        by_cases hs : 0 < stop ∧ stop < M.length
        · exact absurd (show ((stop.toNat : Nat) : Int) = stop by omega) (h4 stop.toNat (by omega) (by omega))
        · go_wp2_with (first | ((with_reducible show wpList _ _ _ (⟨_, .store _ _ _, _, _, _, _⟩ :: _) _ _); refine wpList_store_fld (by rfl) _ _ _ (by rfl) _ _ (by rfl) _ (by rfl) _ _ h3 ?_ ?_ (by rfl) (by rfl) ?_; (next => first | omega | ((try simp) <;> omega)); (next => kernel_rfl); intro w9 hT9 hU9) | fail)
          all_goals (
            have hT10 : Blk w9 (w.heap.size + 1) 4 #[.bool true] := by
              simpa [go_sem] using hT9
            have hKl : D < W.heap.size := (Array.getElem?_eq_some_iff.1 hK).1
            have hzW := h1.size
            have hK9 : w9.heap[D]? = some (.deferred (some [])) := (hU9.block D (by omega)).trans hK
            have hbW : Below w.heap.size w W := hB8.trans (h1.below (by simp; omega) (by omega))
            have hb9 : Below w.heap.size w w9 := below_upd hbW (by omega) hU9
            have hcc : (w9.putObj D (.deferred none)).cell? ⟨w.heap.size + 1, 0, none⟩ = some (.bool true) := (cell_mark (by omega)).trans (hT10.cell 0)
            exact bodyPostM_ret (v := .bool true) rfl hK9 (by simp [results, Try.results3, go_sem, hcc]) ⟨rfl, below_mark hb9 (by omega) hK9⟩)
      case stop =>
        rintro D c pre W hD hp ⟨h1, h2⟩ hK
        rcases h2 with ⟨_, h2⟩ | ⟨rfl, h2, h3, h4, h5⟩
        · exact absurd hp h2
        have hpl := HPL.out
        have hLW := hL8.butL h1 (by simp; omega)
        have hSW := hS8.butL h1 (by simp; omega)
        have cn : W.cell? ⟨lb + 1, 0, none⟩ = some (.int .i64 pre.length) := h2.cell 0
        have cw : W.cell? ⟨lb, 0, none⟩ = some (.slice A6 M.length cap6) := hLW.cell 0
        have cs : W.cell? ⟨w.heap.size, 0, none⟩ = some (.int .i64 stop) := hSW.cell 0
        have hpl2 := hp.length_le
        rw [hpl] at hpl2
        subst h4
        obtain ⟨m, hm1, hm2⟩ : ∃ m : Nat, M.length = m ∧ (m = pre.length ∨ (pre.length : Int) < (m : Int)) := ⟨_, rfl, by omega⟩
        rw [hm1] at cw
        rcases hm2 with rfl | hlt4
        all_goals (
          go_wp2_with (first | ((with_reducible show wpList _ _ _ (⟨_, .store _ _ _, _, _, _, _⟩ :: _) _ _); refine wpList_store_fld (by rfl) _ _ _ (by rfl) _ _ (by rfl) _ (by rfl) _ _ h3 ?_ ?_ (by rfl) (by rfl) ?_; (next => first | omega | ((try simp) <;> omega)); (next => kernel_rfl); intro w9 hT9 hU9) | fail)
          all_goals (
            have hT10 : Blk w9 (w.heap.size + 1) 4 #[.bool true] := by
              simpa [go_sem] using hT9
            have hKl : D < W.heap.size := (Array.getElem?_eq_some_iff.1 hK).1
            have hzW := h1.size
            have hK9 : w9.heap[D]? = some (.deferred (some [])) := (hU9.block D (by omega)).trans hK
            have hbW : Below w.heap.size w W := hB8.trans (h1.below (by simp; omega) (by omega))
            have hb9 : Below w.heap.size w w9 := below_upd hbW (by omega) hU9
            have hcc : (w9.putObj D (.deferred none)).cell? ⟨w.heap.size + 1, 0, none⟩ = some (.bool true) := (cell_mark (by omega)).trans (hT10.cell 0)
            exact bodyPostM_ret (v := .bool true) rfl hK9 (by simp [results, Try.results3, go_sem, hcc]) ⟨rfl, below_mark hb9 (by omega) hK9⟩))
open Go.ChangeShapes Go.WideShapes Go.ChangeAt Go.Deep
theorem wfI {n : Int} (h : I64 n) : Wf n := WalkArith.wf_i64 h
theorem fitAct {vs : List Value} (h : fits (List.replicate 4 K) vs) : ∃ s : Act, vs = s.cells ∧ s.wf := by
  obtain ⟨a0, _, rfl, b0, h⟩ := fitInt h
  obtain ⟨a1, _, rfl, b1, h⟩ := fitInt h
  obtain ⟨a2, _, rfl, b2, h⟩ := fitInt h
  obtain ⟨a3, _, rfl, b3, h⟩ := fitInt h
  cases fitNil h
  exact ⟨⟨a0, a1, a2, a3⟩, rfl, wfI b1, wfI b2, wfI b3⟩
set_option maxRecDepth 100000 in
theorem argsIndexEach (H : Type) (enc : TypeId × Value → H) (W : World) (args : Array Value) (hargs : Args Try.checked H enc [22, 3, 3] W args) :
    Calls Try.prog 3 args W fun e W' => e = .returned (.bool true) ∧ Below W.heap.size W W' := by
  obtain ⟨base, ds, p, hval, hA⟩ := hargs
  obtain ⟨v0, vs0, d0, ds0, p0, q0, hargs, rfl, rfl, h0, r0⟩ := trodAll_cons hA
  obtain ⟨v1, vs1, d1, ds1, p1, q1, rfl, rfl, rfl, h1, r1⟩ := trodAll_cons r0
  obtain ⟨v2, vs2, d2, ds2, p2, q2, rfl, rfl, rfl, h2, r2⟩ := trodAll_cons r1
  obtain ⟨rfl, rfl, rfl⟩ := trodAll_nil r2
  obtain rfl : args = #[v0, v1, v2] := by cases args; simp_all
  obtain ⟨A, la, ca, rows, rfl, hla, hlc, hca, hfa, ha⟩ := open_rows (ks := List.replicate 4 K) 6 Try.underlying22 (by kernel_rfl) (by kernel_rfl) (by decide) (hval 0 _ v0 rfl rfl) h0
  obtain ⟨sym, rfl, hsy⟩ := open_int Try.underlying3 (hval 1 _ v1 rfl rfl) h1
  obtain ⟨stop, rfl, _⟩ := open_int Try.underlying3 (hval 2 _ v2 rfl rfl) h2
  obtain ⟨xs, rfl, hw⟩ := rowsOf (fun vs h => fitAct h) rows hfa
  rw [List.length_map] at hla
  subst hla
  exact ieach_any sym stop hsy.2.2 xs A ca W ha (by omega) hw
theorem ownIndexEach : ownKnob Try.prog.godebug = none := by kernel_rfl
theorem laidIndexEach : laidOutB Try.prog = true := by kernel_rfl
set_option maxRecDepth 100000 in
theorem liftedIndexEach (os : Os) (started : os.Started) (H : Type) (enc : TypeId × Value → H) :
    ReturnsInHanded {} Try.checked os 3 .any (Rows.indexEachSpec.pre6 enc Try.prog Try.f3 Rows.indexEachRow.domain false) (Rows.indexEachSpec.post enc Try.prog Try.f3 false true false false) :=
  law_lifted (C := Try.checked) (ts := [22, 3, 3]) (tb := 4) ownIndexEach laidIndexEach started (by kernel_rfl) Try.func3 (by kernel_rfl)
    (ChangeSpec.witness6 (enc := enc) (C := Try.checked) false ⟨#[], #[.slice none 0 0, .int .i64 0, .int .i64 0], []⟩ 8 (by kernel_rfl) (by kernel_rfl) (by kernel_rfl) (by kernel_rfl))
    rfl (by kernel_rfl) Try.underlying4 (by kernel_rfl)
    (fun ds h => by
      match ds, h with
      | [d0, d1, d2], _ => rfl)
    (fun W args h => argsIndexEach H enc W args h)
theorem provedIndexEach : Rows.IndexEachSaid :=
  OpenClaim.holds_of_wide 3 Try.f3 rfl rfl rfl rfl rfl rfl rfl ⟨rfl, rfl, rfl, rfl, rfl⟩ rfl rfl rfl rfl rfl (by kernel_rfl) Try.func3 (by kernel_rfl)
    (of_decide_eq_true (by kernel_rfl)) (by unfold Func.isWrapper; first | (rw [if_pos (by decide +kernel)]; kernel_rfl) | (rw [if_neg (by decide +kernel)]; exact ⟨rfl, rfl⟩))
    (fun os started H enc _ => liftedIndexEach os started H enc)
#print axioms provedIndexEach
end Idx
end Go.Proofs.Ytojkkmmiflbepaa
