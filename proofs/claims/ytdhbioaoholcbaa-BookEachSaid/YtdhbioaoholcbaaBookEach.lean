/- This text proves BookEach: whatever the input, the law returns true. It has no conditions. -/
import Derived.Test.YtdhbioaoholcbaaBkDo
import Derived.Test.YtdhbioaoholcbaaRangeH
namespace Go.Proofs.Ytdhbioaoholcbaa
set_option linter.unusedVariables false
open Go.RowKit
namespace Bk
set_option maxHeartbeats 4000000
set_option maxRecDepth 10000
attribute [local go_sem] Oper.semAt_some
open Rk (Rb)
open Idx (Wf)
open Are (ord0)
theorem light_any (A : Option Addr) (n cap : Nat) (hn : n ≤ maxLen) (w : World) : Calls Try.prog 15 #[.slice A n cap, .int .i64 0] w fun e w' => e = .returned (.bool (decide (n ≤ 100))) ∧ w = w' := by
  unfold maxLen at hn
  by_cases h : n ≤ 100
  · rw [decide_eq_true h]
    have h1 : (n : Int) ≤ 100 := by omega
    go_enter Try.func15, Try.ntmps15
    go_wp2_with fail
    go_ret
    exact ⟨rfl, rfl⟩
  · rw [decide_eq_false h]
    have h1 : ¬ (n : Int) ≤ 100 := by omega
    clear h
    go_enter Try.func15, Try.ntmps15
    go_wp2_with fail
    go_ret
    exact ⟨rfl, rfl⟩
/-- What holds of the world in the law's loop. -/
structure We (w wr : World) (c : Nat → Nat) (b rb N most k : Nat) (ss : List Sl) (A : Option Addr) (cap : Nat) (stop : Int) : Prop where
  two : Two wr c b rb N most k ss A cap
  nine : ∀ q, q < w.heap.size + 2 → c q = 9
  below : Below w.heap.size w wr
  S : Blk wr w.heap.size 3 #[.int .i64 stop]
  T : Blk wr (w.heap.size + 1) 4 #[.bool false]
  far : w.heap.size + 2 ≤ rb
theorem We.ext {w wr w' : World} {c : Nat → Nat} {b rb N most k : Nat} {ss : List Sl} {A : Option Addr} {cap : Nat} {stop : Int} (h : We w wr c b rb N most k ss A cap stop) (hb : Below wr.heap.size wr w') : We w w' c b rb N most k ss A cap stop :=
  ⟨h.two.ext hb, h.nine, below_ext h.below hb, h.S.ext hb, h.T.ext hb, h.far⟩
theorem We.step {w wr w' : World} {c c' : Nat → Nat} {b rb N most k k' : Nat} {ss ss' : List Sl} {A A' : Option Addr} {cap cap' : Nat} {stop : Int} (h : We w wr c b rb N most k ss A cap stop) (hs : Cr rb c c' wr w') (T : Two w' c' b rb N most k' ss' A' cap') : We w w' c' b rb N most k' ss' A' cap' stop := by
  have hf := h.far
  have h1 := h.T.lt
  exact ⟨T, fun q hq => (hs.old q (by omega)).trans (h.nine q hq), h.below.trans (hs.below h.below.size (fun q hq => h.nine q (by omega)) (by omega)), hs.blk h.S (h.nine _ (by omega)) (by omega), hs.blk h.T (h.nine _ (by omega)) (by omega), hf⟩
theorem Bs.out9 {w : World} {c : Nat → Nat} {b N most k : Nat} {ss : List Sl} (B : Bs w c b N most k ss) {r : Nat} (h : w.heap.size ≤ r) : c r = 9 := by
  obtain ⟨d, B, I⟩ := B
  exact B.out r h
theorem Bs.few {w : World} {c : Nat → Nat} {b N most k : Nat} {ss : List Sl} (B : Bs w c b N most k ss) : (osOf ss).length ≤ 500 := by
  obtain ⟨d, B, I⟩ := B
  have h1 := slots_le I.ai
  have h2 := I.lim
  unfold osOf
  rw [List.length_map]
  omega
theorem rd_rngE {α : Type} {c : α → List Value} {w : World} {k : Nat} {A : Option Addr} {xs : List α} (h : Rd w k A (xs.map c)) {i : Nat} (hi : i < xs.length) :
    ∃ b off, A = some ⟨b, off, none⟩ ∧ w.rangeAt b (off + i * k) (c xs[i]) := by
  obtain ⟨b, off, e, hc⟩ := h.at hi
  exact ⟨b, off, e, fun j v hv => by rw [Nat.add_assoc]; exact hc j v hv⟩
theorem srt_len2 (n : Int) (L : List Ord) : (srt n L).length ≤ L.length := Rk.srt_len n L
theorem pre_at {α : Type} {l : List α} {p : α → Prop} {pre : List {x : α // p x}} {x : {x : α // p x}} (h : (pre ++ [x]).map (·.1) <+: l) : l[pre.length]? = some x.1 := by
  obtain ⟨t, rfl⟩ := h
  simp
theorem kc_upd {nb : List Nat} {B g : Nat} {W W' : World} (hg : g ∈ nb) (u : Upd g W W') : Kc nb B W W' :=
  ⟨(ButL.refl _ _ _).upd hg u, fun k cs t fr hk hn => (u.block k (fun e => hn (by rw [e]; exact hg))).trans hk⟩
theorem eq_take {α : Type} {l : List α} {p : List α} (h : p <+: l) : p = l.take p.length := List.prefix_iff_eq_take.1 h
theorem law_any (slots levels side stop : Int) (xs : List Ac) (hwf : ∀ x ∈ xs, Wf x.o.id) (A : Option Addr) (cap : Nat) (w : World) (hr : Rd w 9 A (xs.map Ac.cells)) (hml : xs.length ≤ maxLen) :
    Calls Try.prog 4 #[.int .i64 slots, .int .i64 levels, .slice A xs.length cap, .int .i64 side, .int .i64 stop] w fun e w' => e = .returned (.bool true) ∧ Below w.heap.size w w' := by
  have HLt := Lib.hid (fun W => light_any A xs.length cap hml W)
  unfold maxLen at hml
  have HR := Lib.hid hr
  clear hr
  have hS0 : Blk (w.alloc (.cells #[.int .i64 stop] 3)) w.heap.size 3 #[.int .i64 stop] := Blk.new _ _ _ _ rfl
  have hS1 : Blk ((w.alloc (.cells #[.int .i64 stop] 3)).alloc (.cells #[.bool false] 4)) w.heap.size 3 #[.int .i64 stop] := hS0.alloc _
  have hT1 : Blk ((w.alloc (.cells #[.int .i64 stop] 3)).alloc (.cells #[.bool false] 4)) (w.heap.size + 1) 4 #[.bool false] := Blk.new _ _ _ _ (sz_alloc _ _)
  have hb1 : Below w.heap.size w ((w.alloc (.cells #[.int .i64 stop] 3)).alloc (.cells #[.bool false] 4)) := by (repeat (first | with_reducible exact Below.refl _ _ | (with_reducible assumption) | (with_reducible refine below_alloc ?_ _) | (with_reducible refine below_ext (w1 := ?_) ?_ ?_; rotate_left 2; (with_reducible assumption)) | (with_reducible refine Below.setCell ?_ ?_ _; rotate_left; ((try simp) <;> omega)) | (with_reducible refine Below.drew ?_) | (with_reducible refine below_drewN ?_ _) | fail))
  refine calls_of_wp_marks Try.func4 rfl ?_
  simp only [Try.ntmps4, List.size_toArray, List.length_cons, List.length_nil, Nat.reduceAdd, Nat.reduceSub, Array.replicate_succ, Array.replicate_zero, List.push_toArray, List.append_toArray, List.nil_append, List.cons_append]
  clear hS0
  generalize hw1 : (w.alloc (.cells #[.int .i64 stop] 3)).alloc (.cells #[.bool false] 4) = w1 at *
  have HW1 := Lib.hid hw1
  clear hw1
  go_wp2_with fail
  rw [HW1.out]
  refine (alive_any _).mono ?_
  rintro e w2 ⟨rfl, hb2⟩
  have hS2 := hS1.ext hb2
  have hT2 := hT1.ext hb2
  have hB2 := below_ext hb1 hb2
  clear hS1 hT1 hb1 hb2 HW1
  by_cases hok : 1 ≤ slots ∧ slots ≤ 500 ∧ 1 ≤ levels ∧ levels ≤ 200
  case neg =>
    have HRN := Lib.hid (fun W => Rk.rnew_bad slots levels (by omega) W)
    clear hok
    by_cases h100 : xs.length ≤ 100
    · rw [decide_eq_true h100] at HLt
      go_wp2_with (first | (go_at_call 14; refine (HRN.out _).mono ?_; rintro e w3 ⟨rfl, rfl⟩) | (go_at_call 15; refine (HLt.out _).mono ?_; rintro e w4 ⟨rfl, rfl⟩) | ((with_reducible show wpList _ _ _ (⟨_, .store _ _ _, _, _, _, _⟩ :: _) _ _); refine wpList_store_fld (by rfl) _ _ _ (by rfl) _ _ (by rfl) _ (by rfl) _ _ hT2 ?_ ?_ (by rfl) (by rfl) ?_; (next => first | omega | ((try simp) <;> omega)); (next => kernel_rfl); intro w4 hT4 hU4) | fail)
      have hcc : w4.cell? ⟨w.heap.size + 1, 0, none⟩ = some (.bool true) := hT4.cell 0
      exact bodyPostM_none (v := .bool true) rfl (by simp [results, Try.results4, go_sem, hcc]) ⟨rfl, below_upd hB2 (by omega) hU4⟩
    · rw [decide_eq_false h100] at HLt
      go_wp2_with (first | (go_at_call 14; refine (HRN.out _).mono ?_; rintro e w3 ⟨rfl, rfl⟩) | (go_at_call 15; refine (HLt.out _).mono ?_; rintro e w4 ⟨rfl, rfl⟩) | ((with_reducible show wpList _ _ _ (⟨_, .store _ _ _, _, _, _, _⟩ :: _) _ _); refine wpList_store_fld (by rfl) _ _ _ (by rfl) _ _ (by rfl) _ (by rfl) _ _ hT2 ?_ ?_ (by rfl) (by rfl) ?_; (next => first | omega | ((try simp) <;> omega)); (next => kernel_rfl); intro w4 hT4 hU4) | fail)
      have hcc : w4.cell? ⟨w.heap.size + 1, 0, none⟩ = some (.bool true) := hT4.cell 0
      exact bodyPostM_none (v := .bool true) rfl (by simp [results, Try.results4, go_sem, hcc]) ⟨rfl, below_upd hB2 (by omega) hU4⟩
  obtain ⟨N, rfl⟩ : ∃ m : Nat, slots = m := ⟨slots.toNat, by omega⟩
  obtain ⟨most, rfl⟩ : ∃ m : Nat, levels = m := ⟨levels.toNat, by omega⟩
  have HRN := Lib.hid (fun W => Rk.rnew_ok (N : Int) (most : Int) hok W)
  have HBN := Lib.hid (fun W => new_ok N most W (by omega) (by omega))
  clear hok
  by_cases h100 : xs.length ≤ 100
  case neg =>
    rw [decide_eq_false h100] at HLt
    go_wp2_with fail
    refine (HRN.out _).mono ?_
    rintro e w3 ⟨rfl, hR3, hb3⟩
    have hT3 := hT2.ext hb3
    have hB3 := below_ext hB2 hb3
    clear hT2 hS2 hB2 hb3 hR3
    go_wp2_with (first | (go_at_call 15; refine (HLt.out _).mono ?_; rintro e w4 ⟨rfl, rfl⟩) | ((with_reducible show wpList _ _ _ (⟨_, .store _ _ _, _, _, _, _⟩ :: _) _ _); refine wpList_store_fld (by rfl) _ _ _ (by rfl) _ _ (by rfl) _ (by rfl) _ _ hT3 ?_ ?_ (by rfl) (by rfl) ?_; (next => first | omega | ((try simp) <;> omega)); (next => kernel_rfl); intro w4 hT4 hU4) | fail)
    have hcc : w4.cell? ⟨w.heap.size + 1, 0, none⟩ = some (.bool true) := hT4.cell 0
    exact bodyPostM_none (v := .bool true) rfl (by simp [results, Try.results4, go_sem, hcc]) ⟨rfl, below_upd hB3 (by omega) hU4⟩
  rw [decide_eq_true h100] at HLt
  go_wp2_with fail
  refine (HRN.out _).mono ?_
  rintro e w3 ⟨rfl, hR3, hb3⟩
  have hT3 := hT2.ext hb3
  have hS3 := hS2.ext hb3
  have hB3 := below_ext hB2 hb3
  have hfar := hT2.lt
  have hrl := hR3.hd.lt
  obtain ⟨rb, hrb⟩ : ∃ rb, rb = w2.heap.size := ⟨_, rfl⟩
  rw [← hrb] at hR3 hfar hrl ⊢
  clear hT2 hS2 hB2 hb3 hrb
  go_wp2_with (first | (go_at_call 15; refine (HLt.out _).mono ?_; rintro e w4 ⟨rfl, rfl⟩) | fail)
  refine (HBN.out _).mono ?_
  rintro e w4 ⟨b, c, rfl, B4, hb4, h9⟩
  have W4 : Hid (We w w4 c b rb N most 0 [] none 0 stop) := Lib.hid ⟨⟨B4, hR3.ext hb4, h9 _ hrl, fun a e => by cases e⟩, fun q hq => h9 q (by omega), below_ext hB3 hb4, hS3.ext hb4, hT3.ext hb4, by omega⟩
  clear hR3 hT3 hS3 hB3 hfar hrl B4 hb4 h9 HRN HBN HLt
  go_wp2_with fail
  go_loopw [15] (fun iv wr => ∃ (k : Nat) (c : Nat → Nat) (ss : List Sl) (A : Option Addr) (cap : Nat), iv = .int .i64 k ∧ k ≤ xs.length ∧ Hid (We w wr c b rb N most k ss A cap stop)) (fun iv _ => xs.length - (intOf iv).toNat)
  case atStart => exact ⟨0, _, _, _, _, rfl, Nat.zero_le _, W4⟩
  case round =>
    obtain ⟨k, c, ss, A', cap', rfl, hk, HW⟩ := hrel
    clear W4
    by_cases hlt : k < xs.length
    · obtain ⟨ab, ao, rfl, hmid⟩ := rd_rngE (HR.out.below HW.out.below) hlt
      have hmem := xs.getElem_mem hlt
      have hss : (osOf ss).length < 1000 := by have := HW.out.two.bs.few; omega
      have HD := Lib.hid (do_any HW.out.two xs[k] (hwf _ hmem) (by omega) hss)
      obtain ⟨x, hx⟩ : ∃ x, x = xs[k] := ⟨_, rfl⟩
      rw [← hx] at hmid HD
      clear hx hmem hss
      go_wp2_with (first | (refine wpList_load_mid (by rfl) _ _ (by rfl) _ _ (by rfl) _ _ hmid Try.underlying46 rfl (by kernel_rfl) ?_) | (go_at_call 16; refine HD.out.mono ?_; rintro e w5 ⟨rfl, c', ss', A5, cap5, T5, hcr⟩) | fail)
      go_roundw
      case rel => exact ⟨k + 1, c', ss', A5, cap5, by go_num, by omega, Lib.hid (HW.out.step hcr T5)⟩
      case measure => (simp [intOf] <;> omega)
    · have hk' : k = xs.length := by omega
      subst hk'
      clear hlt hk
      have HOF := Lib.hid (Rk.rof_any HW.out.two.rf side)
      have hwz := HW.out.below.size
      have hTl := HW.out.T.lt
      have hWs := Rk.srt_len side (osOf ss)
      have hfew := HW.out.two.bs.few
      go_wp2_with (first | (go_at_call 17; refine HOF.out.mono ?_; rintro e w5 ⟨⟨v, rfl, hown⟩, hb5⟩; obtain ⟨A5, cap5, rfl, hrd5, hfit5, _, hfar5⟩ := Rk.owns_o7 hown; have hX0 : Blk (w5.alloc (.cells #[.slice none 0 0] 22)) w5.heap.size 22 #[.slice none 0 0] := Blk.new _ _ _ _ rfl; have hz5 := hb5.size; clear hown HOF) | (((with_reducible show wpList _ _ _ (⟨_, .store _ _ _, _, _, _, _⟩ :: _) _ _); refine wpList_store_fld (by rfl) _ _ _ (by rfl) _ _ (by rfl) _ (by rfl) _ _ hX0 ?_ ?_ (by rfl) (by rfl) ?_; (next => first | omega | ((try simp) <;> omega)); (next => kernel_rfl); intro w6 hX6 hU6); have hb56 : Below w5.heap.size w5 w6 := below_upd (by (repeat (first | with_reducible exact Below.refl _ _ | (with_reducible assumption) | (with_reducible refine below_alloc ?_ _) | (with_reducible refine below_ext (w1 := ?_) ?_ ?_; rotate_left 2; (with_reducible assumption)) | (with_reducible refine Below.setCell ?_ ?_ _; rotate_left; ((try simp) <;> omega)) | (with_reducible refine Below.drew ?_) | (with_reducible refine below_drewN ?_ _) | fail))) (Nat.le_refl _) hU6; have hN6 : Blk (w6.alloc (.cells #[.int .i64 0] 3)) w6.heap.size 3 #[.int .i64 0] := Blk.new _ _ _ _ rfl) | (((with_reducible show wpList _ _ _ (⟨_, .store _ _ _, _, _, _, _⟩ :: _) _ _); refine wpList_store_fld (by rfl) _ _ _ (by rfl) _ _ (by rfl) _ (by rfl) _ _ hN6 ?_ ?_ (by rfl) (by rfl) ?_; (next => first | omega | ((try simp) <;> omega)); (next => kernel_rfl); intro w7 hN7 hU7); have hb67 : Below w6.heap.size w6 w7 := below_upd (by (repeat (first | with_reducible exact Below.refl _ _ | (with_reducible assumption) | (with_reducible refine below_alloc ?_ _) | (with_reducible refine below_ext (w1 := ?_) ?_ ?_; rotate_left 2; (with_reducible assumption)) | (with_reducible refine Below.setCell ?_ ?_ _; rotate_left; ((try simp) <;> omega)) | (with_reducible refine Below.drew ?_) | (with_reducible refine below_drewN ?_ _) | fail))) (Nat.le_refl _) hU7) | fail)
      have hX7 := hX6.ext hb67
      have hrd7 := (hrd5.below hb56).below hb67
      have hz6 := hb56.size
      have hxl := hX6.lt
      have hzl := hN7.lt
      have hrl := HW.out.two.rf.hd.lt
      refine (each_any (some ⟨b, 0, none⟩) side _).mono ?_
      rintro e w8 ⟨rfl, hQ8, hI8, hb8⟩
      go_wp2_with fail
      have hwr8 := below_ext (below_ext (below_ext hb5 hb56) hb67) hb8
      have W8 : Hid (We w w8 c b rb N most xs.length ss A' cap' stop) := Lib.hid (HW.out.ext hwr8)
      have hX8 : Blk w8 w5.heap.size 22 #[.slice A5 (srt side (osOf ss)).length cap5] := hX7.ext hb8
      have hN8 : Blk w8 w6.heap.size 3 #[.int .i64 0] := hN7.ext hb8
      have hrd8 := hrd7.below hb8
      have hz7 := hb67.size
      have hz8 := hb8.size
      have h9z : c w6.heap.size = 9 := HW.out.two.bs.out9 (by omega)
      obtain ⟨xb, hxb⟩ : ∃ n, n = w5.heap.size := ⟨_, rfl⟩
      obtain ⟨zb, hzb⟩ : ∃ n, n = w6.heap.size := ⟨_, rfl⟩
      rw [← hxb] at hX8 hxl hz5 hz6 ⊢
      rw [← hzb] at hN8 hzl hz6 hz7 h9z hxl ⊢
      have hseq := Lib.hid (beach_all W8.out.two.bs side _ _ hQ8 hI8 [zb] (fun q hq => by rw [List.mem_singleton.1 hq]; exact ⟨h9z, by omega⟩))
      have hfar : w.heap.size + 2 ≤ xb ∧ xb < zb ∧ zb < w8.heap.size := by omega
      have hfA : ∀ a, A5 = some a → a.block < xb := fun a e => by rw [hxb]; exact (hfar5 a e).2
      clear hQ8 hI8 hX7 hN7 hX6 hN6 hX0 hrd7 hrd5 hU6 hU7 hb5 hb56 hb67 hb8 hwr8 hxb hzb hz5 hz6 hz7 hz8 hxl hzl hrl h9z HW hfar5 hwz hTl
      refine' wp_rangeFuncOF [zb] (gf := 49) (by rfl) (enters_of Try.func49 (by kernel_rfl) rfl) hseq.out (fun _ => rfl)
        (fun pre W => Kc [zb] w8.heap.size w8 W ∧ Blk W zb 3 #[.int .i64 pre.length] ∧ ∀ m : Nat, 1 ≤ m → m ≤ pre.length → (m : Int) ≠ stop)
        (fun cd pre W => (cd = .ret ∧ ¬ pre.map (·.1) <+: srt side (osOf ss)) ∨ (cd = .exit 2 ∧ Kc [zb] w8.heap.size w8 W ∧ Blk W zb 3 #[.int .i64 pre.length] ∧ (pre.length : Int) = stop ∧ 1 ≤ pre.length))
        ?I ?Ix ?h0 _ (fun x bx W => w8.heap.size ≤ bx ∧ Blk W bx 30 x.1.arr) ?hBx ?assign ?body ?done ?stop
      case I =>
        rintro pre W W' row ⟨h1, h2, h4⟩ hg hr
        exact ⟨kc_own w8 (Nat.le_refl _) (Nat.le_refl _) () W W' row h1 hg hr, h2.own hg hr, h4⟩
      case Ix =>
        rintro cd pre W W' row h2 hg hr
        rcases h2 with h2 | ⟨h2, h1, h3, h5⟩
        · exact .inl h2
        · exact .inr ⟨h2, kc_own w8 (Nat.le_refl _) (Nat.le_refl _) () W W' row h1 hg hr, h3.own hg hr, h5⟩
      case h0 => exact ⟨Kc.refl _ _ _, hN8, fun m h1 h2 => by simp at h2; omega⟩
      case hBx =>
        rintro x bx _ W W' row ⟨h2, h3⟩ hg hr
        exact ⟨h2, h3.own hg hr⟩
      case assign =>
        intro l pre x W K hI hK
        obtain ⟨h1, h2, h4⟩ := hI
        have hsz := h1.low.size
        have hX0 : Blk (W.alloc (.cells ord0.arr 30)) W.heap.size 30 ord0.arr := Blk.new _ _ _ _ rfl
        unfold encO
        refine round_region_lit (by kernel_rfl) (fun ⟨_, _, h⟩ => h) ?_
        go_wp2_with (first | ((with_reducible show wpList _ _ _ (⟨_, .store 30 _ _, _, _, _, _⟩ :: _) _ _); refine wpList_store_blk (by rfl) 30 _ _ (by rfl) _ _ (by rfl) (by rfl) _ _ hX0 (by kernel_rfl) (by rfl) ?_ ?_; (next => first | (simp [Value.oneCell']; done) | (simp [Value.oneCell', Edt.cells]; done) | exact Are.ordArr_one _); intro W5 hX5 hU5) | fail)
        have hW5 : Below W.heap.size W W5 := below_upd (by (repeat (first | with_reducible exact Below.refl _ _ | (with_reducible assumption) | (with_reducible refine below_alloc ?_ _) | (with_reducible refine below_ext (w1 := ?_) ?_ ?_; rotate_left 2; (with_reducible assumption)) | (with_reducible refine Below.setCell ?_ ?_ _; rotate_left; ((try simp) <;> omega)) | (with_reducible refine Below.drew ?_) | (with_reducible refine below_drewN ?_ _) | fail))) (Nat.le_refl _) hU5
        try simp only [Act.put]
        obtain ⟨bx, hbe⟩ : ∃ b, b = W.heap.size := ⟨_, rfl⟩
        rw [← hbe] at hX5 ⊢
        have hk5 : Kc [zb] w8.heap.size W W5 := Kc.of_below hW5 hsz
        exact hK bx W5 (keepsFrom_below hW5) hk5 ⟨h1.trans hk5, h2.ext hW5, h4⟩ ⟨by omega, hX5⟩
      case body =>
        rintro l pre x bx W ⟨h1, h2, h4⟩ ⟨hbx, hX⟩ hlt2
        have hzn : ∀ q, q < xb ∨ q = xb → q ∉ [zb] := fun q hq => by simp; omega
        have cX : W.cell? ⟨xb, 0, none⟩ = some (.slice A5 (srt side (osOf ss)).length cap5) := h1.cell (hX8.cell 0) (hzn _ (.inr rfl))
        have cN : W.cell? ⟨zb, 0, none⟩ = some (.int .i64 pre.length) := h2.cell 0
        have cS : W.cell? ⟨w.heap.size, 0, none⟩ = some (.int .i64 stop) := h1.cell (W8.out.S.cell 0) (hzn _ (.inl (by show w.heap.size < xb; omega)))
        have hTW : Blk W (w.heap.size + 1) 4 #[.bool false] := h1.blk W8.out.T (hzn _ (.inl (by omega)))
        have hrW : Rd W 7 A5 ((srt side (osOf ss)).map Ord.cells) := hrd8.keep (fun a e => h1.low.block _ (by have := hfA a e; omega) (hzn _ (.inl (hfA a e))))
        have lN := h2.lt
        have lX := hX.lt
        have lW := h1.low.size
        have lXb : xb < W.heap.size := by omega
        have lSb : w.heap.size < W.heap.size := by omega
        have lTb : w.heap.size + 1 < W.heap.size := by omega
        have HP : Hid ((pre ++ [x]).map (·.1) <+: srt side (osOf ss) → (srt side (osOf ss))[pre.length]? = some x.1) := Lib.hid (pre_at)
        have HX : Hid (Bk.encO side (osOf ss) x = #[.agg x.1.arr]) := Lib.hid rfl
        clear hseq HR
        by_cases hlt3 : pre.length < (srt side (osOf ss)).length
        case neg =>
          have hge : ((srt side (osOf ss)).length : Int) ≤ (pre.length : Int) := by omega
          have hno : Hid (¬ (pre ++ [x]).map (·.1) <+: srt side (osOf ss)) := Lib.hid (fun h => by
            have h6 := HP.out h
            rw [List.getElem?_eq_none (by omega)] at h6
            cases h6)
          have hge2 : (srt side (osOf ss)).length ≤ pre.length := by omega
          have hge3 : decide ((srt side (osOf ss)).length ≤ pre.length) = true := decide_eq_true hge2
          have hge4 : decide (((srt side (osOf ss)).length : Int) ≤ (pre.length : Int)) = true := decide_eq_true hge
          clear HP hlt3 HX hrW
          gi_wp2_with fail
          refine round_region_below_lit (by kernel_rfl) (by kernel_rfl) (fun ⟨_, _, h⟩ => h) (by kernel_rfl) ?_
          repeat (first | go_big_quiet_skip | (go_big_quiet_want; go_big_quiet_op; go_big_quiet_on) | (refine q_load_mid (by rfl) _ _ (by rfl) (fun _ h => h) _ _ (by rfl) _ _ hmid Try.underlying30 rfl (by kernel_rfl) ?_; (try simp only [Act.put, List.setIfInBounds_toArray, List.set_cons_zero, List.set_cons_succ])) | (refine q_load_blk (by rfl) 30 _ (by rfl) ?_ (.pointer (some ⟨_, 0, none⟩)) (by rfl) ?_ _ (fun _ h => h) Try.underlying30 rfl ?_ ?_; rotate_left; (next => (repeat (first | (with_reducible refine BlkAt.new _ _ _ _ ?_; ((try simp) <;> omega)) | (with_reducible assumption) | (with_reducible refine Blk.at (t := ?_) ?_; rotate_left; with_reducible assumption) | with_reducible refine BlkAt.alloc ?_ _ | with_reducible refine BlkAt.drew ?_ | (with_reducible refine BlkAt.setSame ?_ _ _) | (with_reducible refine BlkAt.setCell ?_ ?_ _; rotate_left; ((try simp) <;> omega)) | (with_reducible refine BlkAt.ext (w := ?_) ?_ ?_; rotate_left 2; (with_reducible assumption)) | fail))); (next => kernel_rfl); (try simp only [Act.put, List.setIfInBounds_toArray, List.set_cons_zero, List.set_cons_succ])) | (refine q_ne_ord (by rfl) _ _ _ (by rfl) _ _ (by rfl) (by rfl) ?_; (try simp only [Act.put, List.setIfInBounds_toArray, List.set_cons_zero, List.set_cons_succ])) | (refine q_load_fld (by rfl) _ _ (by rfl) (fun _ h => h) _ _ (by rfl) ?_ ?_ ?_ ?_ ?_ ?_; rotate_left; (next => (repeat (first | (with_reducible refine BlkAt.new _ _ _ _ ?_; ((try simp) <;> omega)) | (with_reducible assumption) | (with_reducible refine Blk.at (t := ?_) ?_; rotate_left; with_reducible assumption) | with_reducible refine BlkAt.alloc ?_ _ | with_reducible refine BlkAt.drew ?_ | (with_reducible refine BlkAt.setSame ?_ _ _) | (with_reducible refine BlkAt.setCell ?_ ?_ _; rotate_left; ((try simp) <;> omega)) | (with_reducible refine BlkAt.ext (w := ?_) ?_ ?_; rotate_left 2; (with_reducible assumption)) | fail))); rotate_left; (next => first | (simp only [go_sem]; rfl) | rfl); (next => kernel_rfl); (try simp only [Act.put, List.setIfInBounds_toArray, List.set_cons_zero, List.set_cons_succ])) | (refine q_rem (by rfl) _ _ _ _ (by rfl) _ _ (by rfl) (by rfl) (by kernel_rfl) (by kernel_rfl) ?_ ?_; (next => omega); (try simp only [Act.put, List.setIfInBounds_toArray, List.set_cons_zero, List.set_cons_succ])) | (refine q_step_ex (by rfl) ?_; apply Exists.intro; refine ⟨fun W hW => ?_, ?_⟩; (next => (have hWc := fun (b o : Nat) (h : b < _) => (Ext.out hW).cell (p := ⟨b, o, none⟩) h); (try have hLK := HLK.out W (Ext.out hW)); go_simp; first | rfl | fail | fail); (try simp only [Act.put, List.setIfInBounds_toArray, List.set_cons_zero, List.set_cons_succ])) | fail)
          refine wpQuiet_nil ?_
          intro w7 hb7
          have rT : w7.cell? ⟨w.heap.size + 1, 0, none⟩ = some (.bool false) := (hTW.ext hb7).cell 0
          have rF : w7.frozen? ⟨w.heap.size + 1, 0, none⟩ = false := (hTW.ext hb7).frozen 0
          gi_wp2_with fail
          exact ⟨(keepsFrom_below hb7).trans ((KeepsOthers.setCell _ _ _).from _), .inl ⟨rfl, hno.out⟩⟩
        case pos =>
          obtain ⟨ab, ao, rfl, hmid⟩ := rd_rngE hrW hlt3
          have hge2 : ¬ (srt side (osOf ss)).length ≤ pre.length := by omega
          have hge4 : decide (((srt side (osOf ss)).length : Int) ≤ (pre.length : Int)) = false := decide_eq_false (by omega)
          have hlt4 : (pre.length : Int) < ((srt side (osOf ss)).length : Int) := by omega
          have hpl : (0 : Int) ≤ (pre.length : Int) := by omega
          have hp5 : (pre.length : Int) < 500 := by omega
          have lA : ab < W.heap.size := by have := hfA _ rfl; simp at this; omega
          have HE : Hid ((pre ++ [x]).map (·.1) <+: srt side (osOf ss) → (srt side (osOf ss))[pre.length] = x.1) := Lib.hid (fun h => by
            have h6 := HP.out h
            rw [List.getElem?_eq_getElem hlt3] at h6
            exact Option.some.inj h6)
          obtain ⟨y, hy⟩ : ∃ y, y = (srt side (osOf ss))[pre.length] := ⟨_, rfl⟩
          rw [← hy] at hmid HE
          clear HP HX hrW hy hlt3
          by_cases hoe : y = x.1
          · obtain ⟨x, hxm⟩ := x
            simp only at hoe
            subst hoe
            have he := ordEq_refl y
            gi_wp2_with fail
            refine round_region_below_lit (by kernel_rfl) (by kernel_rfl) (fun ⟨_, _, h⟩ => h) (by kernel_rfl) ?_
            repeat (first | go_big_quiet_skip | (go_big_quiet_want; go_big_quiet_op; go_big_quiet_on) | (refine q_load_mid (by rfl) _ _ (by rfl) (fun _ h => h) _ _ (by rfl) _ _ hmid Try.underlying30 rfl (by kernel_rfl) ?_; (try simp only [Act.put, List.setIfInBounds_toArray, List.set_cons_zero, List.set_cons_succ])) | (refine q_load_blk (by rfl) 30 _ (by rfl) ?_ (.pointer (some ⟨_, 0, none⟩)) (by rfl) ?_ _ (fun _ h => h) Try.underlying30 rfl ?_ ?_; rotate_left; (next => (repeat (first | (with_reducible refine BlkAt.new _ _ _ _ ?_; ((try simp) <;> omega)) | (with_reducible assumption) | (with_reducible refine Blk.at (t := ?_) ?_; rotate_left; with_reducible assumption) | with_reducible refine BlkAt.alloc ?_ _ | with_reducible refine BlkAt.drew ?_ | (with_reducible refine BlkAt.setSame ?_ _ _) | (with_reducible refine BlkAt.setCell ?_ ?_ _; rotate_left; ((try simp) <;> omega)) | (with_reducible refine BlkAt.ext (w := ?_) ?_ ?_; rotate_left 2; (with_reducible assumption)) | fail))); (next => kernel_rfl); (try simp only [Act.put, List.setIfInBounds_toArray, List.set_cons_zero, List.set_cons_succ])) | (refine q_ne_ord (by rfl) _ _ _ (by rfl) _ _ (by rfl) (by rfl) ?_; (try simp only [Act.put, List.setIfInBounds_toArray, List.set_cons_zero, List.set_cons_succ])) | (refine q_load_fld (by rfl) _ _ (by rfl) (fun _ h => h) _ _ (by rfl) ?_ ?_ ?_ ?_ ?_ ?_; rotate_left; (next => (repeat (first | (with_reducible refine BlkAt.new _ _ _ _ ?_; ((try simp) <;> omega)) | (with_reducible assumption) | (with_reducible refine Blk.at (t := ?_) ?_; rotate_left; with_reducible assumption) | with_reducible refine BlkAt.alloc ?_ _ | with_reducible refine BlkAt.drew ?_ | (with_reducible refine BlkAt.setSame ?_ _ _) | (with_reducible refine BlkAt.setCell ?_ ?_ _; rotate_left; ((try simp) <;> omega)) | (with_reducible refine BlkAt.ext (w := ?_) ?_ ?_; rotate_left 2; (with_reducible assumption)) | fail))); rotate_left; (next => first | (simp only [go_sem]; rfl) | rfl); (next => kernel_rfl); (try simp only [Act.put, List.setIfInBounds_toArray, List.set_cons_zero, List.set_cons_succ])) | (refine q_rem (by rfl) _ _ _ _ (by rfl) _ _ (by rfl) (by rfl) (by kernel_rfl) (by kernel_rfl) ?_ ?_; (next => omega); (try simp only [Act.put, List.setIfInBounds_toArray, List.set_cons_zero, List.set_cons_succ])) | (refine q_step_ex (by rfl) ?_; apply Exists.intro; refine ⟨fun W hW => ?_, ?_⟩; (next => (have hWc := fun (b o : Nat) (h : b < _) => (Ext.out hW).cell (p := ⟨b, o, none⟩) h); (try have hLK := HLK.out W (Ext.out hW)); go_simp; first | rfl | fail | fail); (try simp only [Act.put, List.setIfInBounds_toArray, List.set_cons_zero, List.set_cons_succ])) | fail)
            refine wpQuiet_nil ?_
            intro w7 hb7
            have n7 := h2.ext hb7
            have n7c : w7.cell? ⟨zb, 0, none⟩ = some (.int .i64 pre.length) := n7.cell 0
            have n7f : w7.frozen? ⟨zb, 0, none⟩ = false := n7.frozen 0
            have s7c : w7.cell? ⟨w.heap.size, 0, none⟩ = some (.int .i64 stop) := (hb7.cell (p := ⟨w.heap.size, 0, none⟩) lSb).trans cS
            have ne1 : w.heap.size ≠ zb := by omega
            have hle3 : (((pre ++ [(⟨y, hxm⟩ : Oo side (osOf ss))]).length : Nat) : Int) = (pre.length : Int) + 1 := by simp
            have hkf : ∀ u, KeepsFrom w8.heap.size W (w7.setCell ⟨zb, 0, none⟩ u) := fun u => (keepsFrom_below hb7).trans ((KeepsOthers.setCell _ _ _).from _)
            have hk7 : Kc [zb] w8.heap.size W w7 := Kc.of_below hb7 lW
            have hks : ∀ u, Kc [zb] w8.heap.size W (w7.setCell ⟨zb, 0, none⟩ u) := fun u => hk7.trans (kc_upd (by simp) (Upd.setCell w7 ⟨zb, 0, none⟩ u))
            have hnb : ∀ u, Blk (w7.setCell ⟨zb, 0, none⟩ u) zb 3 #[u] := fun u => n7.setCell 0 u
            gi_wp2_with fail
            · rename_i hs
              have hs2 := eq_of_beq hs
              exact ⟨hkf _, .inr ⟨rfl, h1.trans (hks _), by rw [hle3]; exact hnb _, by rw [hle3]; exact hs2, by simp⟩⟩
            · rename_i hs
              have hs2 : (pre.length : Int) + 1 ≠ stop := by simpa using hs
              refine ⟨hkf _, hks _, h1.trans (hks _), by rw [hle3]; exact hnb _, ?_⟩
              intro m hm1 hm2
              by_cases hm3 : m ≤ pre.length
              · exact h4 m hm1 hm3
              · simp at hm2
                omega
          · have he : ordEq x.1 y = false := by
              cases e : ordEq x.1 y with
              | false => rfl
              | true => exact absurd ((ordEq_iff _ _).1 e).symm hoe
            gi_wp2_with fail
            refine round_region_below_lit (by kernel_rfl) (by kernel_rfl) (fun ⟨_, _, h⟩ => h) (by kernel_rfl) ?_
            repeat (first | go_big_quiet_skip | (go_big_quiet_want; go_big_quiet_op; go_big_quiet_on) | (refine q_load_mid (by rfl) _ _ (by rfl) (fun _ h => h) _ _ (by rfl) _ _ hmid Try.underlying30 rfl (by kernel_rfl) ?_; (try simp only [Act.put, List.setIfInBounds_toArray, List.set_cons_zero, List.set_cons_succ])) | (refine q_load_blk (by rfl) 30 _ (by rfl) ?_ (.pointer (some ⟨_, 0, none⟩)) (by rfl) ?_ _ (fun _ h => h) Try.underlying30 rfl ?_ ?_; rotate_left; (next => (repeat (first | (with_reducible refine BlkAt.new _ _ _ _ ?_; ((try simp) <;> omega)) | (with_reducible assumption) | (with_reducible refine Blk.at (t := ?_) ?_; rotate_left; with_reducible assumption) | with_reducible refine BlkAt.alloc ?_ _ | with_reducible refine BlkAt.drew ?_ | (with_reducible refine BlkAt.setSame ?_ _ _) | (with_reducible refine BlkAt.setCell ?_ ?_ _; rotate_left; ((try simp) <;> omega)) | (with_reducible refine BlkAt.ext (w := ?_) ?_ ?_; rotate_left 2; (with_reducible assumption)) | fail))); (next => kernel_rfl); (try simp only [Act.put, List.setIfInBounds_toArray, List.set_cons_zero, List.set_cons_succ])) | (refine q_ne_ord (by rfl) _ _ _ (by rfl) _ _ (by rfl) (by rfl) ?_; (try simp only [Act.put, List.setIfInBounds_toArray, List.set_cons_zero, List.set_cons_succ])) | (refine q_load_fld (by rfl) _ _ (by rfl) (fun _ h => h) _ _ (by rfl) ?_ ?_ ?_ ?_ ?_ ?_; rotate_left; (next => (repeat (first | (with_reducible refine BlkAt.new _ _ _ _ ?_; ((try simp) <;> omega)) | (with_reducible assumption) | (with_reducible refine Blk.at (t := ?_) ?_; rotate_left; with_reducible assumption) | with_reducible refine BlkAt.alloc ?_ _ | with_reducible refine BlkAt.drew ?_ | (with_reducible refine BlkAt.setSame ?_ _ _) | (with_reducible refine BlkAt.setCell ?_ ?_ _; rotate_left; ((try simp) <;> omega)) | (with_reducible refine BlkAt.ext (w := ?_) ?_ ?_; rotate_left 2; (with_reducible assumption)) | fail))); rotate_left; (next => first | (simp only [go_sem]; rfl) | rfl); (next => kernel_rfl); (try simp only [Act.put, List.setIfInBounds_toArray, List.set_cons_zero, List.set_cons_succ])) | (refine q_rem (by rfl) _ _ _ _ (by rfl) _ _ (by rfl) (by rfl) (by kernel_rfl) (by kernel_rfl) ?_ ?_; (next => omega); (try simp only [Act.put, List.setIfInBounds_toArray, List.set_cons_zero, List.set_cons_succ])) | (refine q_step_ex (by rfl) ?_; apply Exists.intro; refine ⟨fun W hW => ?_, ?_⟩; (next => (have hWc := fun (b o : Nat) (h : b < _) => (Ext.out hW).cell (p := ⟨b, o, none⟩) h); (try have hLK := HLK.out W (Ext.out hW)); go_simp; first | rfl | fail | fail); (try simp only [Act.put, List.setIfInBounds_toArray, List.set_cons_zero, List.set_cons_succ])) | fail)
            refine wpQuiet_nil ?_
            intro w7 hb7
            have rT : w7.cell? ⟨w.heap.size + 1, 0, none⟩ = some (.bool false) := (hTW.ext hb7).cell 0
            have rF : w7.frozen? ⟨w.heap.size + 1, 0, none⟩ = false := (hTW.ext hb7).frozen 0
            gi_wp2_with fail
            exact ⟨(keepsFrom_below hb7).trans ((KeepsOthers.setCell _ _ _).from _), .inl ⟨rfl, fun h => hoe (HE.out h)⟩⟩
      case done =>
        rintro D ys W hD hys ⟨h1, h2, h4⟩ hK
        have hl : ys.length = (srt side (osOf ss)).length := by rw [← hys, List.length_map]
        rw [hl] at h2 h4
        have cN : W.cell? ⟨zb, 0, none⟩ = some (.int .i64 (srt side (osOf ss)).length) := h2.cell 0
        have hzn : ∀ q, q < xb ∨ q = xb → q ∉ [zb] := fun q hq => by simp; omega
        have cX : W.cell? ⟨xb, 0, none⟩ = some (.slice A5 (srt side (osOf ss)).length cap5) := h1.cell (hX8.cell 0) (hzn _ (.inr rfl))
        have cS : W.cell? ⟨w.heap.size, 0, none⟩ = some (.int .i64 stop) := h1.cell (W8.out.S.cell 0) (hzn _ (.inl (by show w.heap.size < xb; omega)))
        have hTW : Blk W (w.heap.size + 1) 4 #[.bool false] := h1.blk W8.out.T (hzn _ (.inl (by omega)))
        have hlow := h1.low
        have hbW : Below w.heap.size w W := W8.out.below.trans ⟨hlow.os, hlow.tape, hlow.output, hlow.size, fun q hq => hlow.block q (by have := W8.out.below.size; omega) (hzn _ (.inl (by omega)))⟩
        have hKl : D < W.heap.size := (Array.getElem?_eq_some_iff.1 hK).1
        clear hseq HR h1 hlow hl hys
        generalize (srt side (osOf ss)).length = m at *
        by_cases hs : 0 < stop ∧ stop < m
        · exact absurd (show ((stop.toNat : Nat) : Int) = stop by omega) (h4 stop.toNat (by omega) (by omega))
        · go_wp2_with (first | ((with_reducible show wpList _ _ _ (⟨_, .store _ _ _, _, _, _, _⟩ :: _) _ _); refine wpList_store_fld (by rfl) _ _ _ (by rfl) _ _ (by rfl) _ (by rfl) _ _ hTW ?_ ?_ (by rfl) (by rfl) ?_; (next => first | omega | ((try simp) <;> omega)); (next => kernel_rfl); intro w9 hT9 hU9) | fail)
          all_goals (
            have hT10 : Blk w9 (w.heap.size + 1) 4 #[.bool true] := by
              simpa [go_sem] using hT9
            have hK9 : w9.heap[D]? = some (.deferred (some [])) := (hU9.block D (by omega)).trans hK
            have hb9 : Below w.heap.size w w9 := below_upd hbW (by omega) hU9
            have hcc : (w9.putObj D (.deferred none)).cell? ⟨w.heap.size + 1, 0, none⟩ = some (.bool true) := (cell_mark (by omega)).trans (hT10.cell 0)
            exact bodyPostM_ret (v := .bool true) rfl hK9 (by simp [results, Try.results4, go_sem, hcc]) ⟨rfl, below_mark hb9 (by omega) hK9⟩)
      case stop =>
        rintro D cd pre W hD hp h2 hK
        rcases h2 with ⟨_, h2⟩ | ⟨rfl, h1, h2, h4, h5⟩
        · exact absurd hp h2
        have cN : W.cell? ⟨zb, 0, none⟩ = some (.int .i64 pre.length) := h2.cell 0
        have hpl := hp.length_le
        rw [List.length_map] at hpl
        have hzn : ∀ q, q < xb ∨ q = xb → q ∉ [zb] := fun q hq => by simp; omega
        have cX : W.cell? ⟨xb, 0, none⟩ = some (.slice A5 (srt side (osOf ss)).length cap5) := h1.cell (hX8.cell 0) (hzn _ (.inr rfl))
        have cS : W.cell? ⟨w.heap.size, 0, none⟩ = some (.int .i64 stop) := h1.cell (W8.out.S.cell 0) (hzn _ (.inl (by show w.heap.size < xb; omega)))
        have hTW : Blk W (w.heap.size + 1) 4 #[.bool false] := h1.blk W8.out.T (hzn _ (.inl (by omega)))
        have hlow := h1.low
        have hbW : Below w.heap.size w W := W8.out.below.trans ⟨hlow.os, hlow.tape, hlow.output, hlow.size, fun q hq => hlow.block q (by have := W8.out.below.size; omega) (hzn _ (.inl (by omega)))⟩
        have hKl : D < W.heap.size := (Array.getElem?_eq_some_iff.1 hK).1
        subst h4
        clear hseq HR h1 hlow
        obtain ⟨m, hm1, hm2⟩ : ∃ m : Nat, (srt side (osOf ss)).length = m ∧ (m = pre.length ∨ (pre.length : Int) < (m : Int)) := ⟨_, rfl, by omega⟩
        rw [hm1] at cX hWs
        clear hm1
        rcases hm2 with rfl | hlt4
        all_goals (
          go_wp2_with (first | ((with_reducible show wpList _ _ _ (⟨_, .store _ _ _, _, _, _, _⟩ :: _) _ _); refine wpList_store_fld (by rfl) _ _ _ (by rfl) _ _ (by rfl) _ (by rfl) _ _ hTW ?_ ?_ (by rfl) (by rfl) ?_; (next => first | omega | ((try simp) <;> omega)); (next => kernel_rfl); intro w9 hT9 hU9) | fail)
          all_goals (
            have hT10 : Blk w9 (w.heap.size + 1) 4 #[.bool true] := by
              simpa [go_sem] using hT9
            have hK9 : w9.heap[D]? = some (.deferred (some [])) := (hU9.block D (by omega)).trans hK
            have hb9 : Below w.heap.size w w9 := below_upd hbW (by omega) hU9
            have hcc : (w9.putObj D (.deferred none)).cell? ⟨w.heap.size + 1, 0, none⟩ = some (.bool true) := (cell_mark (by omega)).trans (hT10.cell 0)
            exact bodyPostM_ret (v := .bool true) rfl hK9 (by simp [results, Try.results4, go_sem, hcc]) ⟨rfl, below_mark hb9 (by omega) hK9⟩))
theorem fitAc {vs : List Value} (h : fits (List.replicate 9 K) vs) : ∃ s : Ac, vs = s.cells ∧ Wf s.o.id := by
  obtain ⟨a0, _, rfl, b0, h⟩ := fitInt h
  obtain ⟨a1, _, rfl, b1, h⟩ := fitInt h
  obtain ⟨a2, _, rfl, b2, h⟩ := fitInt h
  obtain ⟨a3, _, rfl, b3, h⟩ := fitInt h
  obtain ⟨a4, _, rfl, b4, h⟩ := fitInt h
  obtain ⟨a5, _, rfl, b5, h⟩ := fitInt h
  obtain ⟨a6, _, rfl, b6, h⟩ := fitInt h
  obtain ⟨a7, _, rfl, b7, h⟩ := fitInt h
  obtain ⟨a8, _, rfl, b8, h⟩ := fitInt h
  obtain rfl := fitNil h
  exact ⟨⟨a0, ⟨a1, a2, a3, a4, a5, a6, a7⟩, a8⟩, rfl, WalkArith.wf_i64 b1⟩
open Go.ChangeShapes Go.WideShapes Go.ChangeAt Go.Deep
set_option maxRecDepth 100000 in
theorem argsBookEach (H : Type) (enc : TypeId × Value → H) (W : World) (args : Array Value) (hargs : Args Try.checked H enc [3, 3, 39, 3, 3] W args) :
    Calls Try.prog 4 args W fun e W' => e = .returned (.bool true) ∧ Below W.heap.size W W' := by
  obtain ⟨base, ds, p, hval, hA⟩ := hargs
  obtain ⟨v0, vs0, d0, ds0, p0, q0, hargs, rfl, rfl, h0, r0⟩ := trodAll_cons hA
  obtain ⟨v1, vs1, d1, ds1, p1, q1, rfl, rfl, rfl, h1, r1⟩ := trodAll_cons r0
  obtain ⟨v2, vs2, d2, ds2, p2, q2, rfl, rfl, rfl, h2, r2⟩ := trodAll_cons r1
  obtain ⟨v3, vs3, d3, ds3, p3, q3, rfl, rfl, rfl, h3, r3⟩ := trodAll_cons r2
  obtain ⟨v4, vs4, d4, ds4, p4, q4, rfl, rfl, rfl, h4, r4⟩ := trodAll_cons r3
  obtain ⟨rfl, rfl, rfl⟩ := trodAll_nil r4
  obtain rfl : args = #[v0, v1, v2, v3, v4] := by cases args; simp_all
  obtain ⟨slots, rfl, _⟩ := open_int Try.underlying3 (hval 0 _ v0 rfl rfl) h0
  obtain ⟨levels, rfl, _⟩ := open_int Try.underlying3 (hval 1 _ v1 rfl rfl) h1
  obtain ⟨A, la, ca, rows, rfl, hla, hlc, hca, hfa, ha⟩ := open_rows (ks := List.replicate 9 K) 6 Try.underlying39 (by kernel_rfl) (by kernel_rfl) (by decide) (hval 2 _ v2 rfl rfl) h2
  obtain ⟨xs, rfl, hwf⟩ := rowsOf (fun vs h => fitAc h) rows hfa
  obtain ⟨side, rfl, _⟩ := open_int Try.underlying3 (hval 3 _ v3 rfl rfl) h3
  obtain ⟨stop, rfl, _⟩ := open_int Try.underlying3 (hval 4 _ v4 rfl rfl) h4
  rw [List.length_map] at hla
  subst hla
  exact law_any slots levels side stop xs hwf A ca W ha (by omega)
theorem ownBookEach : ownKnob Try.prog.godebug = none := by kernel_rfl
theorem laidBookEach : laidOutB Try.prog = true := by kernel_rfl
set_option maxRecDepth 100000 in
theorem liftedBookEach (os : Os) (started : os.Started) (H : Type) (enc : TypeId × Value → H) :
    ReturnsInHanded {} Try.checked os 4 .any (Rows.bookEachSpec.pre6 enc Try.prog Try.f4 Rows.bookEachRow.domain false) (Rows.bookEachSpec.post enc Try.prog Try.f4 false true false false) :=
  law_lifted (C := Try.checked) (ts := [3, 3, 39, 3, 3]) (tb := 4) ownBookEach laidBookEach started (by kernel_rfl) Try.func4 (by kernel_rfl)
    (ChangeSpec.witness6 (enc := enc) (C := Try.checked) false ⟨#[], #[.int .i64 0, .int .i64 0, .slice none 0 0, .int .i64 0, .int .i64 0], []⟩ 8 (by kernel_rfl) (by kernel_rfl) (by kernel_rfl) (by kernel_rfl))
    rfl (by kernel_rfl) Try.underlying4 (by kernel_rfl)
    (fun ds h => by
      match ds, h with
      | [d0, d1, d2, d3, d4], _ => rfl)
    (fun W args h => argsBookEach H enc W args h)
theorem provedBookEach : Rows.BookEachSaid :=
  OpenClaim.holds_of_wide 4 Try.f4 rfl rfl rfl rfl rfl rfl rfl ⟨rfl, rfl, rfl, rfl, rfl⟩ rfl rfl rfl rfl rfl (by kernel_rfl) Try.func4 (by kernel_rfl)
    (of_decide_eq_true (by kernel_rfl)) (by unfold Func.isWrapper; first | (rw [if_pos (by decide +kernel)]; kernel_rfl) | (rw [if_neg (by decide +kernel)]; exact ⟨rfl, rfl⟩))
    (fun os started H enc _ => liftedBookEach os started H enc)
#print axioms provedBookEach
end Bk
end Go.Proofs.Ytdhbioaoholcbaa
