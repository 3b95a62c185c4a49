/- This text proves the contract of index.Each's iterator: a symbol's IDs, rising, each with its slot. It has no conditions but those that it states. -/
import Derived.Test.YtojkkmmiflbepaaIdxIds
import Derived.Test.YtojkkmmiflbepaaMidIn
import Derived.Test.YtojkkmmiflbepaaRangeB
import Derived.OwnWalkIn
import Derived.TacticsInMore
import Derived.LoopNIn
import Derived.LoopIn
namespace Go.Proofs.Ytojkkmmiflbepaa
set_option linter.unusedVariables false
open Go.RowKit Go.Maps
namespace Idx
set_option maxHeartbeats 1000000
set_option maxRecDepth 10000
attribute [local go_sem] Oper.semAt_some
/-- What a round of a body leaves: all blocks of cells but those that are named, and all that lay below B. -/
structure Kc (nb : List Nat) (B : Nat) (W W' : World) : Prop where
  low : ButL nb B W W'
  cells : ∀ k cs t fr, W.heap[k]? = some (.cells cs t fr) → k ∉ nb → W'.heap[k]? = some (.cells cs t fr)
theorem Kc.refl (nb : List Nat) (B : Nat) (W : World) : Kc nb B W W := ⟨ButL.refl _ _ _, fun _ _ _ _ h _ => h⟩
theorem Kc.trans {nb : List Nat} {B : Nat} {U V W : World} (h : Kc nb B U V) (k : Kc nb B V W) : Kc nb B U W := ⟨h.low.trans k.low, fun i cs t fr hi hn => k.cells i cs t fr (h.cells i cs t fr hi hn) hn⟩
theorem Kc.of_below {nb : List Nat} {B : Nat} {W W' : World} (h : Below W.heap.size W W') (hB : B ≤ W.heap.size) : Kc nb B W W' := ⟨ButL.of_below (h.mono hB), fun k cs t fr hk _ => (h.block k (Array.getElem?_eq_some_iff.1 hk).1).trans hk⟩
theorem Kc.blk {nb : List Nat} {B : Nat} {W W' : World} {z : Nat} {t : TypeId} {cs : Array Value} (h : Kc nb B W W') (hb : Blk W z t cs) (hz : z ∉ nb) : Blk W' z t cs := h.cells z cs t _ hb hz
theorem Kc.row {nb : List Nat} {B B' : Nat} {W W' : World} {e : TypeId} {size n : Nat} {v : Value} {xs : List Value} (h : Kc nb B W W') (hr : W.ownsRow B' e size v n xs) (hz : ∀ q ∈ nb, q < B') : W'.ownsRow B' e size v n xs := by
  refine ⟨hr.1, ?_⟩
  rcases hr.2 with h0 | ⟨g, cap, cur, rfl, hb, hg, h1⟩
  · exact .inl h0
  · exact .inr ⟨g, cap, cur, rfl, hb, h.cells g _ _ _ hg (fun hm => by have := hz g hm; omega), h1⟩
theorem Kc.xq {nb : List Nat} {B : Nat} {W W' : World} {xb bs bm n : Nat} {L : List R3} (h : Kc nb B W W') (x : Xq W xb bs bm n L) (hlt : xb < B ∧ bs < B ∧ bm < B) (hn : xb ∉ nb ∧ bs ∉ nb ∧ bm ∉ nb) : Xq W' xb bs bm n L := by
  obtain ⟨p1, ⟨D, ⟨es, clock, hb', F, hs, hD⟩, hS⟩, ⟨E, ⟨es2, clock2, hb2, F2, hs2, hD2⟩, hS2⟩, p4, p5, p6, p7⟩ := x
  exact ⟨(h.low.block xb hlt.1 hn.1).trans p1, ⟨D, ⟨es, clock, (h.low.block bs hlt.2.1 hn.2.1).trans hb', F, hs, hD⟩, hS⟩, ⟨E, ⟨es2, clock2, (h.low.block bm hlt.2.2 hn.2.2).trans hb2, F2, hs2, hD2⟩, hS2⟩, p4, p5, p6, p7⟩
theorem kc_b {nb : List Nat} {w : World} (W : World) (l : Nat) (o o' : Obj) (hl : w.heap.size ≤ l) (h : W.heap[l]? = some o) (hc : o.isCells = false) (hw : o.isWalk = false) : Kc nb w.heap.size W (W.putObj l o') :=
  ⟨ButL.of_below (belowK_b (Nat.le_refl _) W l o o' hl h hc hw), fun k cs t fr hk _ => by
    rw [World.putObj_heap_other]
    · exact hk
    · rintro rfl
      rw [h] at hk
      cases hk
      cases hc⟩
def slotR (L : List R3) (s i : Int) : Int := (look L s i).elim 0 R3.slot
def pairs (L : List R3) (s : Int) : List (Int × Int) := (idsOf L s).map fun i => (i, slotR L s i)
def encP (x : Int × Int) : Array Value := #[.int .i64 x.1, .int .i64 x.2]
theorem row_cell {w : World} {B : Nat} {e : TypeId} {v : Value} {zs : List Int} (h : w.ownsRow B e 1 v zs.length (zs.map (Value.int .i64))) {k : Nat} (hk : k < zs.length) : ∃ g cap, v = .slice (some ⟨g, 0, none⟩) zs.length cap ∧ w.cell? ⟨g, k, none⟩ = some (.int .i64 zs[k]) := by
  rcases h.2 with ⟨_, h0⟩ | ⟨g, cap, cur, rfl, hb, hg, h1, h2, h3, h4⟩
  · omega
  · refine ⟨g, cap, rfl, ?_⟩
    rw [cell_of_row w g k cur e _ hg]
    have h5 : (cur.toList.take (zs.length * 1))[k]? = (zs.map (Value.int .i64))[k]? := by rw [h4]
    rw [List.getElem?_take_of_lt (by omega), Array.getElem?_toList] at h5
    rw [h5]
    simp [hk]
theorem look_slot {w : World} {xb bs bm n : Nat} {L : List R3} (x : Xq w xb bs bm n L) {s i : Int} (hs : Wf s) (hi : Wf i) : (Instr.lookup 46 (.map (some bs)) (key s i) false).run Try.prog w = .ok (.int .i64 (slotR L s i)) w := by
  obtain ⟨D, h, hD⟩ := x.os
  obtain ⟨c, hr, hc, _⟩ := h.lookup_int lawK Try.underlying46 Try.underlying3 (zeroI w) (keyK hs hi)
  have h3 : D.atKey (kl s i) zd = num c := hc
  rw [(hD s i hs hi).2] at h3
  unfold num at h3
  cases h3
  exact hr
theorem ids_wf {w : World} {xb bs bm n : Nat} {L : List R3} (x : Xq w xb bs bm n L) {s i : Int} (hi : i ∈ idsOf L s) : Wf i := by
  have h1 : i ∈ idsR L s := (List.mergeSort_perm _ _).mem_iff.1 hi
  obtain ⟨r, hr, rfl⟩ := List.mem_map.1 h1
  exact (x.wf r (List.mem_filter.1 hr).1).2.1
theorem ids_len {w : World} {xb bs bm n : Nat} {L : List R3} (x : Xq w xb bs bm n L) (s : Int) : (idsOf L s).length ≤ 1000 := by
  have h1 : (idsOf L s).length = (idsR L s).length := List.length_mergeSort _
  have h2 : (idsR L s).length ≤ L.length := by unfold idsR; rw [List.length_map]; exact List.length_filter_le _ _
  have := x.len
  omega
theorem pairs_at (L : List R3) (s : Int) (k : Nat) (hk : k < (idsOf L s).length) : (pairs L s).take (k + 1) = (pairs L s).take k ++ [((idsOf L s)[k], slotR L s (idsOf L s)[k])] := by
  rw [List.take_add_one]
  congr 1
  unfold pairs
  simp [hk]
theorem each_in (l : Nat) {w : World} {xb bs bm n : Nat} {L : List R3} (x : Xq w xb bs bm n L) {sym : Int} (hsy : Wf sym) (bq bi : Nat) (hq : Blk w bq 24 #[.pointer (some ⟨xb, 0, none⟩)]) (hbi : Blk w bi 3 #[.int .i64 sym]) (nb : List Nat) (hnb : xb ∉ nb ∧ bs ∉ nb ∧ bm ∉ nb ∧ bq ∉ nb ∧ bi ∉ nb) (hnl : ∀ q ∈ nb, q < w.heap.size)
    (J Jx : List (Int × Int) → World → Prop) (W : World) (hW : Below w.heap.size w W) (hA : AbidesFrom W.heap.size J)
    (hY : ∀ pre x W, J pre W → pre.length < (pairs L sym).length → YieldAt Fence.wide 7 Try.prog l (encP x) W fun e W' =>
      (e = .returned (.bool true) ∧ J (pre ++ [x]) W' ∧ Kc nb w.heap.size W W') ∨ (e = .returned (.bool false) ∧ Jx (pre ++ [x]) W'))
    (h0 : J [] W) :
    CallsIn Fence.wide 8 Try.prog 18 #[.func (.yield l) #[] #[], .pointer (some ⟨bq, 0, none⟩), .pointer (some ⟨bi, 0, none⟩)] W fun e W' => (∃ v, e = .returned v) ∧
      ((∃ ys, ys = pairs L sym ∧ J ys W') ∨ (∃ pre, pre <+: pairs L sym ∧ Jx pre W')) := by
  have hpl : (pairs L sym).length = (idsOf L sym).length := List.length_map _
  have hln := ids_len x sym
  have hxl := x.lt
  have hql := hq.lt
  have hil := hbi.lt
  refine callsIn_of_wp Try.func18 rfl trivial ?_ rfl
  simp only [Try.ntmps18, List.size_toArray, List.length_cons, List.length_nil, Nat.reduceAdd, Nat.reduceSub, Array.replicate_succ, Array.replicate_zero, List.push_toArray, List.append_toArray, List.nil_append, List.cons_append]
  have cq : W.cell? ⟨bq, 0, none⟩ = some (.pointer (some ⟨xb, 0, none⟩)) := (hq.ext hW).cell 0
  have ci : W.cell? ⟨bi, 0, none⟩ = some (.int .i64 sym) := (hbi.ext hW).cell 0
  gi_wp2_with fail
  refine ⟨trivial, ?_⟩
  refine (callsIn_wide.2 (ids_any (x.ext hW) hsy)).mono ?_
  rintro e w1 ⟨⟨v, rfl, hown⟩, hb1⟩
  have hJ1 : J [] w1 := hA [] W w1 none h0 (grown_to hb1) (fun r e => by cases e)
  have hzW := hW.size
  have hz1 := hb1.size
  have hK1 : Kc nb w.heap.size w w1 := Kc.of_below (below_ext hW hb1) (Nat.le_refl _)
  have hvs : ∃ A cap, v = .slice A (idsOf L sym).length cap := by
    rcases hown.2 with ⟨rfl, h0⟩ | ⟨g, cap, cur, rfl, _⟩
    · exact ⟨none, 0, by rw [h0]⟩
    · exact ⟨_, _, rfl⟩
  obtain ⟨A, cap, rfl⟩ := hvs
  clear cq ci
  gi_wp2_with fail
  gi_loopw [10] (fun p wr => ∃ k : Nat, p = .int .i64 k ∧ k ≤ (idsOf L sym).length ∧ J ((pairs L sym).take k) wr ∧ Kc nb w.heap.size w wr ∧ W.heap.size ≤ wr.heap.size ∧ wr.ownsRow W.heap.size 2 1 (.slice A (idsOf L sym).length cap) (idsOf L sym).length ((idsOf L sym).map (Value.int .i64))) (fun p wr => (idsOf L sym).length - (intOf p).toNat)
  case atStart => exact ⟨0, rfl, Nat.zero_le _, by simpa using hJ1, hK1, hz1, hown⟩
  case round =>
    obtain ⟨k, rfl, hk, hJ, hK, hzr, hrow⟩ := hrel
    clear hJ1 hK1 hown
    by_cases hlt : k < (idsOf L sym).length
    · have e1 : (k : Int) < ((idsOf L sym).length : Int) := by omega
      obtain ⟨g, cap', hA', hcx⟩ := row_cell hrow hlt
      simp only [Value.slice.injEq] at hA'
      obtain ⟨rfl, _, rfl⟩ := hA'
      have hX := hK.xq x hxl ⟨hnb.1, hnb.2.1, hnb.2.2.1⟩
      have hiw := ids_wf x (List.getElem_mem hlt)
      have HT := Lib.hid (pairs_at L sym k hlt)
      have cq : wr.cell? ⟨bq, 0, none⟩ = some (.pointer (some ⟨xb, 0, none⟩)) := (hK.blk hq hnb.2.2.2.1).cell 0
      have ci : wr.cell? ⟨bi, 0, none⟩ = some (.int .i64 sym) := (hK.blk hbi hnb.2.2.2.2).cell 0
      have cx : wr.cell? ⟨xb, 0, none⟩ = some (.map (some bs)) := hX.hd.cell 0
      have hxr := hX.lt.1
      have hqr := cell_lt cq
      have hir := cell_lt ci
      generalize (idsOf L sym)[k] = id at *
      have HLK : Hid (∀ V, Below wr.heap.size wr V → (Instr.lookup 46 (.map (some bs)) (key sym id) false).run Try.prog V = .ok (.int .i64 (slotR L sym id)) V) := Lib.hid (fun V hV => look_slot (hX.ext hV) hsy hiw)
      unfold key at HLK
      obtain ⟨sl, hsl⟩ : ∃ s, s = slotR L sym id := ⟨_, rfl⟩
      rw [← hsl] at HLK HT
      clear hsl
      gi_wp2_with fail
      refine wpIn_region_below_tail 10 (by kernel_rfl) (by kernel_rfl) (by rintro ⟨_, _, h⟩; have h : (∃ v, Ending.outgrown = Ending.returned v) ∧ _ := h; obtain ⟨⟨_, hv⟩, _⟩ := h; cases hv) (by kernel_rfl) ?_
      simp only [List.take_succ_cons, List.take_zero, List.drop_succ_cons, List.drop_zero]
      repeat (first | go_big_quiet_skip | (go_big_quiet_want; go_big_quiet_op; go_big_quiet_on) | (refine q_load_fld (by rfl) _ _ (by rfl) (fun _ h => h) _ _ (by rfl) ?_ ?_ ?_ ?_ ?_ ?_; rotate_left; (next => (repeat (first | (with_reducible refine BlkAt.new _ _ _ _ ?_; ((try simp) <;> omega)) | (with_reducible assumption) | (with_reducible refine Blk.at (t := ?_) ?_; rotate_left; with_reducible assumption) | with_reducible refine BlkAt.alloc ?_ _ | with_reducible refine BlkAt.drew ?_ | (with_reducible refine BlkAt.setSame ?_ _ _) | (with_reducible refine BlkAt.setCell ?_ ?_ _; rotate_left; ((try simp) <;> omega)) | (with_reducible refine BlkAt.ext (w := ?_) ?_ ?_; rotate_left 2; (with_reducible assumption)) | fail))); rotate_left; (next => first | (simp only [go_sem]; rfl) | rfl); (next => kernel_rfl); (try simp only [Act.put, List.setIfInBounds_toArray, List.set_cons_zero, List.set_cons_succ])) | (refine q_rem (by rfl) _ _ _ _ (by rfl) _ _ (by rfl) (by rfl) (by kernel_rfl) (by kernel_rfl) ?_ ?_; (next => omega); (try simp only [Act.put, List.setIfInBounds_toArray, List.set_cons_zero, List.set_cons_succ])) | (refine q_step_ex (by rfl) ?_; apply Exists.intro; refine ⟨fun W hW => ?_, ?_⟩; (next => (have hWc := fun (b o : Nat) (h : b < _) => (Ext.out hW).cell (p := ⟨b, o, none⟩) h); (try have hLK := HLK.out W (Ext.out hW)); go_simp; first | rfl | fail | fail); (try simp only [Act.put, List.setIfInBounds_toArray, List.set_cons_zero, List.set_cons_succ])) | fail)
      refine wpQuiet_nil ?_
      intro wq hbq
      have hJq : J ((pairs L sym).take k) wq := hA _ wr wq none hJ (grown_to hbq) (fun r e => by cases e)
      have hzq := hbq.size
      have hKq : Kc nb w.heap.size w wq := hK.trans (Kc.of_below hbq (by omega))
      have hrowq := owns_ext hrow hbq
      obtain ⟨fn, tmps, assign, body, hy, hR⟩ := hY ((pairs L sym).take k) (id, sl) wq hJq (by rw [List.length_take]; omega)
      have hy2 : (Instr.yield l #[.int .i64 id, .int .i64 sl]).run Try.prog wq = _ := hy
      clear hy HLK cq ci cx hcx hrow hJ hK hX
      gi_wp2_with fail
      refine hR.mono ?_
      rintro e W3 (⟨rfl, hJ3, hk3⟩ | ⟨rfl, hJx3⟩)
      · have hz3 := hk3.low.size
        gi_wp2_with fail
        go_roundw
        case rel => exact ⟨k + 1, by go_num, by omega, by rw [HT.out]; exact hJ3, hKq.trans hk3, by omega, hk3.row hrowq (fun q hq => by have := hnl q hq; omega)⟩
        case measure => simp [intOf]; omega
      · gi_wp2_with fail
        refine bodyPost_ret (results_none rfl _ _ _) rfl ?_
        refine ⟨⟨_, rfl⟩, .inr ⟨_, ?_, hJx3⟩⟩
        rw [← HT.out]
        exact List.take_prefix _ _
    · obtain rfl : k = (idsOf L sym).length := by omega
      gi_wp2_with fail
      go_end0
      exact ⟨⟨_, rfl⟩, .inl ⟨_, by rw [List.take_of_length_le (by omega)], hJ⟩⟩
theorem each_any (p : Option Addr) (i : Int) (w : World) : Calls Try.prog 8 #[.pointer p, .int .i64 i] w fun e w' => e = .returned (.func (.func 18) #[] #[.pointer (some ⟨w.heap.size, 0, none⟩), .pointer (some ⟨w.heap.size + 1, 0, none⟩)]) ∧ Blk w' w.heap.size 24 #[.pointer p] ∧ Blk w' (w.heap.size + 1) 3 #[.int .i64 i] ∧ Below w.heap.size w w' := by
  go_enter Try.func8, Try.ntmps8
  go_wp2_with fail
  go_ret
  exact ⟨rfl, (Blk.new w _ _ _ rfl).alloc _, Blk.new _ _ _ _ (sz_alloc _ _), by (repeat (first | with_reducible exact Below.refl _ _ | (with_reducible assumption) | (with_reducible refine below_alloc ?_ _) | (with_reducible refine below_ext (w1 := ?_) ?_ ?_; rotate_left 2; (with_reducible assumption)) | (with_reducible refine Below.setCell ?_ ?_ _; rotate_left; ((try simp) <;> omega)) | (with_reducible refine Below.drew ?_) | (with_reducible refine below_drewN ?_ _) | fail))⟩
theorem each_stops {w : World} {xb bs bm n : Nat} {L : List R3} (x : Xq w xb bs bm n L) {sym : Int} (hsy : Wf sym) (bq bi : Nat) (hq : Blk w bq 24 #[.pointer (some ⟨xb, 0, none⟩)]) (hbi : Blk w bi 3 #[.int .i64 sym]) (nb : List Nat) (hnb : xb ∉ nb ∧ bs ∉ nb ∧ bm ∉ nb ∧ bq ∉ nb ∧ bi ∉ nb) (hnl : ∀ q ∈ nb, q < w.heap.size) :
    SeqStopsK Fence.wide 8 Try.prog 18 #[.pointer (some ⟨bq, 0, none⟩), .pointer (some ⟨bi, 0, none⟩)] encP (Kc nb w.heap.size) (fun ys => ys = pairs L sym) (fun pre => pre <+: pairs L sym) (pairs L sym).length w := fun l J Jx W hW hA _ hY h0 =>
  each_in l x hsy bq bi hq hbi nb hnb hnl J Jx W hW hA hY h0
theorem wp_rangeFuncK {α : Type} {P : Program} {g : Operand} {ps : Array Tmp} {assign body : Code} {Q : Exit → Go.Act → World → Prop} {a : Go.Act} {w : World} {gf : Nat} {lb : Array Value} (nb : List Nat) (hg : a.eval g = .func (.func gf) #[] lb) (eg : ∀ args w, (callFunc gf args).run P w = .ok (.enter gf args) w)
    {encs : α → Array Value} {S Sp : List α → Prop} {N : Nat} (hseq : SeqStopsK Fence.wide 8 P gf lb encs (Kc nb w.heap.size) S Sp N w) (hps : ∀ x, (encs x).size = ps.size)
    (I : List α → World → Prop) (Ix : Code → List α → World → Prop) (hI : OwnFrom w.heap.size I) (hIx : ∀ c, OwnFrom w.heap.size (Ix c)) (h0 : I [] w) (a₁ : α → Go.Act)
    (hassign : ∀ (l : Nat) (x : α) (W : World) (K : Go.Act → World → Prop), K (a₁ x) W →
      assign.wpIn (Fence.wide.inRound l) 7 P (Exit.then K (fun _ _ _ => False)) { tmps := (ps.zip (encs x)).foldl (fun t (p, v) => t.setIfInBounds p v) a.tmps, defers := [] } W)
    (hbody : ∀ (l : Nat) (pre : List α) (x : α) (W : World), I pre W → pre.length < N → body.wpIn (Fence.wide.inRound l) 7 P (ownPostK (Kc nb w.heap.size) I Ix (pre ++ [x]) W) (a₁ x) W)
    (hdone : ∀ (D : Nat) (xs : List α) (W : World), w.heap.size ≤ D → S xs → I xs W → W.heap[D]? = some (.deferred (some [])) → Q .normal { a with defers := { target := .collected D, args := #[] } :: a.defers } W)
    (hstop : ∀ (D : Nat) (c : Code) (pre : List α) (W : World), w.heap.size ≤ D → Sp pre → Ix c pre W → W.heap[D]? = some (.deferred (some [])) → c.wp P Q { a with defers := { target := .collected D, args := #[] } :: a.defers } W) :
    (Code.rangeFunc g ps assign body).wp P Q a w :=
  (wpIn_wide (n := 9)).1 (wpIn_rangeFunc_ownF (F := Fence.wide) (n := 9) rfl (by decide) hg trivial eg hseq (fun h k => h.trans k) (fun W l o o' h1 h2 h3 h4 => kc_b W l o o' h1 h2 h3 h4) (Below.refl _ _) hps I Ix hI hIx h0 a₁ hassign hbody hdone
    (fun D c pre W h1 h2 h3 h4 => wpIn_wide.2 (hstop D c pre W h1 h2 h3 h4)))
end Idx
end Go.Proofs.Ytojkkmmiflbepaa
