/- This text proves the contract of damperref13.Remove. It has no conditions but those that it states. This text proves the contract of damperref13.Reduce. It has no conditions but those that it states. This text proves the contract of damperref13.Of: a side's orders, in their order. It has no conditions but those that it states. -/
import Derived.Test.YtgaialcbpglhaaaRkA
import Derived.Test.YtgaialcbpglhaaaBkRm
import Derived.Test.YtgaialcbpglhaaaBkRd
namespace Go.Proofs.Ytgaialcbpglhaaa
set_option linter.unusedVariables false
open Go.RowKit
namespace Rk
set_option maxHeartbeats 4000000
set_option maxRecDepth 10000
open Are (ord0)
open Bk (fndI rmI rm_none)
theorem cut_head (A : Option Addr) (len cap k : Nat) (hk : k ≤ cap) (hn : A = none → cap = 0) : ∃ (A' : Option Addr), (A' = none → cap = 0) ∧ (∀ (W : World) (l m : List Ord), Rd W 7 A ((l ++ m).map Ord.cells) → Rd W 7 A' (l.map Ord.cells)) ∧ ∀ W, (Instr.sliceAt 22 (.slice A len cap) none (some (.int .i64 k)) none).run Try.prog W = .ok (.slice A' k cap) W := by
  have ht : Try.prog.underlying 22 = some (.slice (Try.prog.elem 22)) := by kernel_rfl
  have he : Try.prog.elem 22 = 43 := by kernel_rfl
  obtain ⟨i, hi, hz, hs, hby⟩ := info_parts (P := Try.prog) (e := 43) (z := .agg #[.int .i64 0, .int .i64 0, .int .i64 0, .int .i64 0, .int .i64 0, .int .i64 0, .int .i64 0]) (size := 7) (bytes := 56) (by kernel_rfl)
  refine ⟨A, hn, fun W l m h hne => ?_, fun W => ?_⟩
  · obtain ⟨b1, o1, e1, hc⟩ := h (by intro h0; apply hne; simp at h0; simp [h0.1])
    refine ⟨b1, o1, e1, fun i j u hu => hc i j u ?_⟩
    by_cases hi : i < l.length
    · rw [List.map_append, List.getD_eq_getElem?_getD, List.getElem?_append_left (by simpa using hi), ← List.getD_eq_getElem?_getD]
      exact hu
    · rw [List.getD_eq_getElem?_getD, List.getElem?_eq_none (l := l.map Ord.cells) (i := i) (by simpa using hi)] at hu
      simp at hu
  · rw [run_sliceAt_slice (h := ht), run_slice_h (ht := ht) (kh := .i64) (h := (k : Int)) (cap := cap) (h0 := by omega) (h2 := by omega), he]
    simp only [sizeOf, typeInfo, Sem.run_bind]
    simp [hi, sliced]
    intro _
    cases A with
    | none => rfl
    | some a =>
      obtain ⟨b, o, x⟩ := a
      simp [Addr.add]
theorem cut_tail (A : Option Addr) (len cap k : Nat) (hk : k ≤ len) (hf : len ≤ cap) (hn : A = none → cap = 0) : ∃ (A' : Option Addr), (A' = none → cap - k = 0) ∧ (∀ (W : World) (l m : List Ord), l.length = k → (l ++ m).length = len → Rd W 7 A ((l ++ m).map Ord.cells) → Rd W 7 A' (m.map Ord.cells)) ∧ ∀ W, (Instr.sliceAt 22 (.slice A len cap) (some (.int .i64 k)) none none).run Try.prog W = .ok (.slice A' (len - k) (cap - k)) W := by
  have ht : Try.prog.underlying 22 = some (.slice (Try.prog.elem 22)) := by kernel_rfl
  have he : Try.prog.elem 22 = 43 := by kernel_rfl
  obtain ⟨i, hi, hz, hs, hby⟩ := info_parts (P := Try.prog) (e := 43) (z := .agg #[.int .i64 0, .int .i64 0, .int .i64 0, .int .i64 0, .int .i64 0, .int .i64 0, .int .i64 0]) (size := 7) (bytes := 56) (by kernel_rfl)
  refine ⟨if cap = k then A else A.map (·.add (k * 7)), ?_, fun W l m hl hlm h hne => ?_, fun W => ?_⟩
  · intro h
    by_cases e : cap = k
    · omega
    · rw [if_neg e] at h
      have := hn (by simpa using h)
      omega
  · by_cases e : cap = k
    · have h0 : m = [] := by
        apply List.eq_nil_of_length_eq_zero
        simp at hlm
        omega
      subst h0
      exact absurd rfl hne
    · rw [if_neg e]
      obtain ⟨b1, o1, rfl, hc⟩ := h (by intro h0; apply hne; simp at h0; simp [h0.2])
      refine ⟨b1, o1 + k * 7, by simp [Addr.add], fun i j u hu => ?_⟩
      have h1 := hc (k + i) j u (by
        rw [List.map_append, List.getD_eq_getElem?_getD, List.getElem?_append_right (by simp; omega)]
        rw [List.getD_eq_getElem?_getD] at hu
        simpa [hl] using hu)
      rw [← h1]
      congr 2
      omega
  · rw [run_sliceAt_slice (h := ht), run_slice_l (ht := ht) (kl := .i64) (l := (k : Int)) (len := len) (h0 := by omega) (h1 := by omega), he]
    simp only [sizeOf, typeInfo, Sem.run_bind]
    simp [hi, sliced, hs]
def SR (rb : Nat) (A : Option Addr) (len cap : Nat) (W : World) : Prop := W.cell? ⟨rb, 2, none⟩ = some (.slice A len cap) ∧ True
theorem rm_idx {id : Int} : ∀ {L : List Ord}, (L.map (·.id)).Nodup → idxI id L < L.length → rmI id L = L.take (idxI id L) ++ L.drop (idxI id L + 1)
  | [], _, h => by simp at h
  | x :: L, hn, h => by
    rw [List.map_cons, List.nodup_cons] at hn
    have ih := rm_idx (id := id) hn.2
    unfold rmI idxI at *
    rw [List.findIdx_cons] at *
    rw [List.filter_cons]
    cases hx : decide (x.id = id) with
    | true =>
      have hxe := of_decide_eq_true hx
      have : L.filter (fun o => !decide (o.id = id)) = L := by
        rw [List.filter_eq_self]
        intro y hy
        have : y.id ≠ id := fun e => hn.1 (by rw [hxe, ← e]; exact List.mem_map_of_mem hy)
        simp [this]
      simp [this]
    | false =>
      rw [hx] at h
      simp only [List.length_cons] at h
      have h2 : L.findIdx (fun o => decide (o.id = id)) < L.length := by simpa using h
      simp [ih h2]
section
variable {w : World} {rb N most : Nat} {L : List Ord} {A : Option Addr} {cap : Nat}
end
end Rk
end Go.Proofs.Ytgaialcbpglhaaa
namespace Go.Proofs.Ytgaialcbpglhaaa
set_option linter.unusedVariables false
open Go.RowKit
namespace Rk
set_option maxHeartbeats 4000000
set_option maxRecDepth 10000
open Are (ord0)
open Bk (fndI rmI rm_none rdI redF redO less)
theorem rd_at {id z : Int} {L : List Ord} (hn : (L.map (·.id)).Nodup) {k : Nat} (hk : k < L.length) (he : L[k].id = id) : rdI id z L = L.set k (less L[k] z) := by
  unfold rdI
  refine List.ext_getElem (by simp) (fun j h1 h2 => ?_)
  have hj : j < L.length := by simpa using h1
  rw [List.getElem_map, List.getElem_set]
  by_cases e : k = j
  · subst e
    simp [he]
  · have hne : L[j].id ≠ id := fun h => by
      have h3 : (L.map (·.id))[j]'(by simpa using hj) = (L.map (·.id))[k]'(by simpa using hk) := by simp [h, he]
      exact e ((List.getElem_inj hn).1 h3).symm
    simp [e, hne]
theorem idx_id {id : Int} {L : List Ord} (h : idxI id L < L.length) : L[idxI id L].id = id := by
  have h2 := List.findIdx_getElem (w := h)
  exact of_decide_eq_true h2
section
variable {w : World} {rb N most : Nat} {L : List Ord} {A : Option Addr} {cap : Nat}
theorem rd_put {w w' : World} {g : Nat} {cur : Array Value} {L : List Ord} {k : Nat} {y : Ord} (hk : k < L.length) (hG : Blk w g 43 cur) (hR : Rd w 7 (some ⟨g, 0, none⟩) (L.map Ord.cells)) (hs : L.length * 7 ≤ cur.size) (hG' : Blk w' g 43 (putC cur (k * 7) y.cells)) : Rd w' 7 (some ⟨g, 0, none⟩) ((L.set k y).map Ord.cells) := by
  obtain ⟨b, o, e, hc⟩ := hR (by
    intro h
    rw [List.map_eq_nil_iff] at h
    rw [h] at hk
    cases hk)
  cases e
  refine fun _ => ⟨g, 0, rfl, fun i j u hu => ?_⟩
  have hy : y.cells.length = 7 := rfl
  rw [hG'.cell]
  by_cases hik : i = k
  · subst hik
    have hu2 : y.cells[j]? = some u := by
      rw [List.getD_eq_getElem?_getD, List.getElem?_map, List.getElem?_set_self hk] at hu
      exact hu
    have hj : j < 7 := by
      rcases Nat.lt_or_ge j 7 with h | h
      · exact h
      · rw [List.getElem?_eq_none (by omega)] at hu2
        cases hu2
    have h1 := put_in y.cells cur (i * 7) j (by omega) (by omega)
    rw [Nat.zero_add, h1]
    exact hu2
  · have hu2 : ((L.map Ord.cells).getD i [])[j]? = some u := by
      rw [List.getD_eq_getElem?_getD, List.getElem?_map, List.getElem?_set_ne (fun h => hik h.symm)] at hu
      rw [List.getD_eq_getElem?_getD, List.getElem?_map]
      exact hu
    have hj : j < 7 := by
      rcases Nat.lt_or_ge j 7 with h | h
      · exact h
      · rw [List.getD_eq_getElem?_getD, List.getElem?_map] at hu2
        cases hl : L[i]? with
        | none => rw [hl] at hu2; simp at hu2
        | some z =>
          rw [hl] at hu2
          have : z.cells[j]? = none := List.getElem?_eq_none (by have : z.cells.length = 7 := rfl; omega)
          simp [this] at hu2
    have h1 := hc i j u hu2
    rw [hG.cell] at h1
    rw [put_out y.cells cur (k * 7) (0 + (i * 7 + j)) (by omega)]
    exact h1
end
end Rk
end Go.Proofs.Ytgaialcbpglhaaa
namespace Go.Proofs.Ytgaialcbpglhaaa
set_option linter.unusedVariables false
open Go.RowKit
namespace Rk
set_option maxHeartbeats 4000000
set_option maxRecDepth 10000
open Bk (bet insO srt sdO srt_snoc ins_perm)
/-- Where an order is put. -/
theorem cutB (n : Int) (o : Ord) : ∀ l : List Ord, ∃ t, t ≤ l.length ∧ (∀ j (h : j < l.length), j < t → bet n o.price l[j].price = false) ∧ (∀ h : t < l.length, bet n o.price l[t].price = true) ∧ insO n o l = l.take t ++ o :: l.drop t
  | [] => ⟨0, Nat.le_refl _, fun j h => by simp at h, fun h => by simp at h, rfl⟩
  | x :: l => by
    cases e : bet n o.price x.price with
    | false =>
      obtain ⟨t, h1, h2, h3, h4⟩ := cutB n o l
      refine ⟨t + 1, by simpa using h1, fun j hj hjt => ?_, fun h => by simpa using h3 (by simpa using h), ?_⟩
      · cases j with
        | zero => simpa using e
        | succ j => simpa using h2 j (by simpa using hj) (by omega)
      · have h5 : insO n o (x :: l) = x :: insO n o l := by simp [insO, e]
        rw [h5, h4]
        simp
    | true => exact ⟨0, Nat.zero_le _, fun j h h0 => by omega, fun h => by simpa using e, by simp [insO, e]⟩
theorem srt_take {n : Int} {L : List Ord} {k : Nat} (hk : k < L.length) : srt n (L.take (k + 1)) = if L[k].side = n then insO n L[k] (srt n (L.take k)) else srt n (L.take k) := by
  rw [List.take_succ_eq_append_getElem hk, srt_snoc]
theorem srt_len (n : Int) (L : List Ord) : (srt n L).length ≤ L.length := by
  rw [(Bk.srt_perm n L).length_eq]
  unfold sdO
  exact List.length_filter_le _ _
theorem owns_mono {W : World} {B B' : Nat} {e : TypeId} {size n : Nat} {v : Value} {xs : List Value} (h : W.ownsRow B' e size v n xs) (hB : B ≤ B') : W.ownsRow B e size v n xs := by
  refine ⟨h.1, ?_⟩
  rcases h.2 with h0 | ⟨g, cap, cur, hv, hb, h1⟩
  · exact .inl h0
  · exact .inr ⟨g, cap, cur, hv, Nat.le_trans hB hb, h1⟩
section
variable {w : World} {rb N most : Nat} {L : List Ord} {A : Option Addr} {cap : Nat}
def SO (rb b o k n cap : Nat) (x : Ord) (W : World) : Prop := W.cell? ⟨rb, 2, none⟩ = some (.slice (some ⟨b, o, none⟩) n cap) ∧ (W.cell? ⟨b, o + k * 7, none⟩ = some (.int .i64 x.id) ∧ W.cell? ⟨b, o + k * 7 + 1, none⟩ = some (.int .i64 x.owner) ∧ W.cell? ⟨b, o + k * 7 + 2, none⟩ = some (.int .i64 x.side) ∧ W.cell? ⟨b, o + k * 7 + 3, none⟩ = some (.int .i64 x.price) ∧ W.cell? ⟨b, o + k * 7 + 4, none⟩ = some (.int .i64 x.qty) ∧ W.cell? ⟨b, o + k * 7 + 5, none⟩ = some (.int .i64 x.flags) ∧ W.cell? ⟨b, o + k * 7 + 6, none⟩ = some (.int .i64 x.seq))
theorem owned_ins {W : World} {B : Nat} {v : Value} {M1 M2 : List Ord} {x : Ord} {t N : Nat} (h : W.ownsRow B 43 7 v (0 + t + 1 + (N - t)) (([] ++ (M1.map Ord.cells).flatten) ++ [x.cells].flatten ++ (M2.map Ord.cells).flatten)) (h1 : M1.length = t) (h2 : M2.length = N - t) : W.ownsRow B 43 7 v (M1 ++ x :: M2).length (flatO (M1 ++ x :: M2)) := by
  have e1 : (M1 ++ x :: M2).length = 0 + t + 1 + (N - t) := by simp [h1, h2]; omega
  have e2 : flatO (M1 ++ x :: M2) = ([] ++ (M1.map Ord.cells).flatten) ++ [x.cells].flatten ++ (M2.map Ord.cells).flatten := by simp [flatO]
  rw [e1, e2]
  exact h
theorem rof_any (q : Rb w rb (N : Int) (most : Int) L A cap) (s : Int) : Calls Try.prog 92 #[.pointer (some ⟨rb, 0, none⟩), .int .i64 s] w fun e w' => (∃ v, e = .returned v ∧ w'.ownsRow w.heap.size 43 7 v (srt s L).length (flatO (srt s L))) ∧ Below w.heap.size w w' := by
  have hlen := q.len
  have hrl := q.hd.lt
  go_enter Try.func92, Try.ntmps92
  go_wp2_with fail
  go_loopw [5, 6] (fun v i wr => ∃ (k : Nat) (vv : Value), v = vv ∧ i = .int .i64 k ∧ k ≤ L.length ∧ wr.ownsRow w.heap.size 43 7 vv (srt s (L.take k)).length (flatO (srt s (L.take k))) ∧ Below w.heap.size w wr) (fun _ i _ => L.length - (intOf i).toNat)
  case atStart => exact ⟨0, _, rfl, rfl, Nat.zero_le _, World.ownsRow_nil _ _ _ _, Below.refl _ _⟩
  case round =>
    obtain ⟨k, vv, rfl, rfl, hk, hown, hb⟩ := hrel
    have qr := q.ext hb
    have c0 : wr.cell? ⟨rb, 2, none⟩ = some (.slice A L.length cap) := qr.hd.cell 2
    have hll : (srt s (L.take k)).length ≤ 1000 := Nat.le_trans (srt_len _ _) (by simp; omega)
    by_cases hlt : k < L.length
    · have e1 : (k : Int) < (L.length : Int) := by omega
      obtain ⟨b, o, rfl, hrg⟩ := qr.at hlt
      have h0 : wr.cell? ⟨b, o + k * 7 + 2, none⟩ = some (.int .i64 L[k].side) := hrg 2 _ rfl
      have h1 : wr.cell? ⟨b, o + k * 7 + 3, none⟩ = some (.int .i64 L[k].price) := hrg 3 _ rfl
      by_cases hs : L[k].side = s
      · have H1 := Lib.hid ((srt_take hlt).trans (if_pos hs))
        rw [hs] at h0
        obtain ⟨A0, cap1, rfl, hrd, hfit, hnil, hfar⟩ := owns_o7 hown
        obtain ⟨t, ht1, ht2, ht3, ht4⟩ := cutB s L[k] (srt s (L.take k))
        obtain ⟨b9, o9, e9, hrg9⟩ := q.at hlt
        cases e9
        have g0 : w.cell? ⟨b, o + k * 7, none⟩ = some (.int .i64 L[k].id) := hrg9 0 _ rfl
        have g1 : w.cell? ⟨b, o + k * 7 + 1, none⟩ = some (.int .i64 L[k].owner) := hrg9 1 _ rfl
        have g2 : w.cell? ⟨b, o + k * 7 + 2, none⟩ = some (.int .i64 L[k].side) := hrg9 2 _ rfl
        have g3 : w.cell? ⟨b, o + k * 7 + 3, none⟩ = some (.int .i64 L[k].price) := hrg9 3 _ rfl
        have g4 : w.cell? ⟨b, o + k * 7 + 4, none⟩ = some (.int .i64 L[k].qty) := hrg9 4 _ rfl
        have g5 : w.cell? ⟨b, o + k * 7 + 5, none⟩ = some (.int .i64 L[k].flags) := hrg9 5 _ rfl
        have g6 : w.cell? ⟨b, o + k * 7 + 6, none⟩ = some (.int .i64 L[k].seq) := hrg9 6 _ rfl
        have hbl := cell_lt g0
        have H4 := Lib.hid ht4
        have hz0 := hb.size
        clear ht4 hown
        generalize srt s (L.take k) = M at *
        have hx1 : L[k].side = s := hs
        generalize L[k] = x at *
        go_wp2_with fail
        obtain ⟨wo, hwo⟩ : ∃ W, W = wr := ⟨_, rfl⟩
        subst hwo
        go_loopw [7] (fun j wj => ∃ m : Nat, j = .int .i64 m ∧ m ≤ t ∧ Below wo.heap.size wo wj) (fun j _ => t + 1 - (intOf j).toNat)
        case atStart => exact ⟨0, rfl, Nat.zero_le _, Below.refl _ _⟩
        case round =>
          obtain ⟨m, rfl, hm, hbj⟩ := hrel
          have hzj := hbj.size
          have c0j : wr.cell? ⟨rb, 2, none⟩ = some (.slice (some ⟨b, o, none⟩) L.length cap) := ((q.ext hb).ext hbj).hd.cell 2
          have h1j : wr.cell? ⟨b, o + k * 7 + 3, none⟩ = some (.int .i64 x.price) := (hbj.cell (p := ⟨b, o + k * 7 + 3, none⟩) (cell_lt h1)).trans h1
          have lj1 : rb < wr.heap.size := by omega
          have lj2 : b < wr.heap.size := by omega
          by_cases hmt : m < t
          · have hmM : m < M.length := by omega
            obtain ⟨b1, o1, rfl, hc1⟩ := hrd.at hmM
            have hi0 : wo.cell? ⟨b1, o1 + m * 7 + 3, none⟩ = some (.int .i64 M[m].price) := by have := hc1 3 _ rfl; rwa [← Nat.add_assoc] at this
            have hi1 : wr.cell? ⟨b1, o1 + m * 7 + 3, none⟩ = some (.int .i64 M[m].price) := (hbj.cell (p := ⟨b1, o1 + m * 7 + 3, none⟩) (cell_lt hi0)).trans hi0
            have lj3 : b1 < wr.heap.size := cell_lt hi1
            have e2 : (m : Int) < (M.length : Int) := by omega
            have e3 := ht2 m hmM hmt
            have HBt := Lib.hid (fun W => by have h := Bk.rbetter_any s x.price M[m].price W; rw [e3] at h; exact h)
            have e5 : decide ((m : Int) < (M.length : Int)) = true := decide_eq_true e2
            clear hc1 hi0
            go_wp2_with fail
            refine wp_region_below_lit (by kernel_rfl) (by kernel_rfl) ?_
            repeat (first | go_big_quiet_skip | (go_big_quiet_want; go_big_quiet_op; go_big_quiet_on) | (refine q_load_fld (by rfl) _ _ (by rfl) (fun _ h => h) _ _ (by rfl) ?_ ?_ ?_ ?_ ?_ ?_; rotate_left; (next => (repeat (first | (with_reducible refine BlkAt.new _ _ _ _ ?_; ((try simp) <;> omega)) | (with_reducible assumption) | (with_reducible refine Blk.at (t := ?_) ?_; rotate_left; with_reducible assumption) | with_reducible refine BlkAt.alloc ?_ _ | with_reducible refine BlkAt.drew ?_ | (with_reducible refine BlkAt.setSame ?_ _ _) | (with_reducible refine BlkAt.setCell ?_ ?_ _; rotate_left; ((try simp) <;> omega)) | (with_reducible refine BlkAt.ext (w := ?_) ?_ ?_; rotate_left 2; (with_reducible assumption)) | fail))); rotate_left; (next => first | (simp only [go_sem]; rfl) | rfl); (next => kernel_rfl); (try simp only [Act.put, List.setIfInBounds_toArray, List.set_cons_zero, List.set_cons_succ])) | (refine q_rem (by rfl) _ _ _ _ (by rfl) _ _ (by rfl) (by rfl) (by kernel_rfl) (by kernel_rfl) ?_ ?_; (next => omega); (try simp only [Act.put, List.setIfInBounds_toArray, List.set_cons_zero, List.set_cons_succ])) | (refine q_step_ex (by rfl) ?_; apply Exists.intro; refine ⟨fun W hW => ?_, ?_⟩; (next => (have hWc := fun (b o : Nat) (h : b < _) => (Ext.out hW).cell (p := ⟨b, o, none⟩) h); (try have hLK := HLK.out W (Ext.out hW)); go_simp; first | rfl | (go_at_call 93; refine (HBt.out _).mono ?_; rintro e w'' ⟨rfl, rfl⟩; exact ⟨rfl, hW⟩) | fail); (try simp only [Act.put, List.setIfInBounds_toArray, List.set_cons_zero, List.set_cons_succ])) | fail)
            refine wpQuiet_nil ?_
            intro w8 hb8
            go_wp2_with fail
            go_roundw
            case rel => exact ⟨m + 1, by go_num, by omega, below_ext hbj hb8⟩
            case measure => simp [intOf]; omega
          · obtain rfl : m = t := by omega
            by_cases hmM : m < M.length
            · obtain ⟨b1, o1, rfl, hc1⟩ := hrd.at hmM
              have hi0 : wo.cell? ⟨b1, o1 + m * 7 + 3, none⟩ = some (.int .i64 M[m].price) := by have := hc1 3 _ rfl; rwa [← Nat.add_assoc] at this
              have hi1 : wr.cell? ⟨b1, o1 + m * 7 + 3, none⟩ = some (.int .i64 M[m].price) := (hbj.cell (p := ⟨b1, o1 + m * 7 + 3, none⟩) (cell_lt hi0)).trans hi0
              have lj3 : b1 < wr.heap.size := cell_lt hi1
              have e2 : (m : Int) < (M.length : Int) := by omega
              have e3 := ht3 hmM
              have HBt := Lib.hid (fun W => by have h := Bk.rbetter_any s x.price M[m].price W; rw [e3] at h; exact h)
              have e5 : decide ((m : Int) < (M.length : Int)) = true := decide_eq_true e2
              clear hc1 hi0
              go_wp2_with fail
              refine wp_region_below_lit (by kernel_rfl) (by kernel_rfl) ?_
              repeat (first | go_big_quiet_skip | (go_big_quiet_want; go_big_quiet_op; go_big_quiet_on) | (refine q_load_fld (by rfl) _ _ (by rfl) (fun _ h => h) _ _ (by rfl) ?_ ?_ ?_ ?_ ?_ ?_; rotate_left; (next => (repeat (first | (with_reducible refine BlkAt.new _ _ _ _ ?_; ((try simp) <;> omega)) | (with_reducible assumption) | (with_reducible refine Blk.at (t := ?_) ?_; rotate_left; with_reducible assumption) | with_reducible refine BlkAt.alloc ?_ _ | with_reducible refine BlkAt.drew ?_ | (with_reducible refine BlkAt.setSame ?_ _ _) | (with_reducible refine BlkAt.setCell ?_ ?_ _; rotate_left; ((try simp) <;> omega)) | (with_reducible refine BlkAt.ext (w := ?_) ?_ ?_; rotate_left 2; (with_reducible assumption)) | fail))); rotate_left; (next => first | (simp only [go_sem]; rfl) | rfl); (next => kernel_rfl); (try simp only [Act.put, List.setIfInBounds_toArray, List.set_cons_zero, List.set_cons_succ])) | (refine q_rem (by rfl) _ _ _ _ (by rfl) _ _ (by rfl) (by rfl) (by kernel_rfl) (by kernel_rfl) ?_ ?_; (next => omega); (try simp only [Act.put, List.setIfInBounds_toArray, List.set_cons_zero, List.set_cons_succ])) | (refine q_step_ex (by rfl) ?_; apply Exists.intro; refine ⟨fun W hW => ?_, ?_⟩; (next => (have hWc := fun (b o : Nat) (h : b < _) => (Ext.out hW).cell (p := ⟨b, o, none⟩) h); (try have hLK := HLK.out W (Ext.out hW)); go_simp; first | rfl | (go_at_call 93; refine (HBt.out _).mono ?_; rintro e w'' ⟨rfl, rfl⟩; exact ⟨rfl, hW⟩) | fail); (try simp only [Act.put, List.setIfInBounds_toArray, List.set_cons_zero, List.set_cons_succ])) | fail)
              refine wpQuiet_nil ?_
              intro w8 hb8
              go_wp2_with fail
              have hb08 := below_ext hbj hb8
              obtain ⟨A1, hn1, hr1, hs1'⟩ := cut_head (some ⟨b1, o1, none⟩) M.length cap1 m (by omega) hnil
              obtain ⟨A2, hn2, hr2, hs2'⟩ := cut_tail (some ⟨b1, o1, none⟩) M.length cap1 m (by omega) hfit hnil
              have hs1 := Lib.hid hs1'
              have hs2 := Lib.hid hs2'
              have hl1 : (M.take m).length = m := by simp; omega
              have hl2 : (M.drop m).length = M.length - m := by simp
              have HT : Hid (insO s x M = M.take m ++ x :: M.drop m) := H4
              have hbd : Below wo.heap.size wo w8.drew := hb08.drew
              have hzd : w8.drew.heap.size = w8.heap.size := rfl
              refine wp_region_T (S := SO rb b o k L.length cap x) 18 (by kernel_rfl) ?_
              generalize w8.drew = w1 at hbd hzd ⊢
              have hzo := hbd.size
              have hbw : Below w.heap.size w w1 := hb.trans (hbd.mono hz0)
              have hwz1 : w.heap.size ≤ w1.heap.size := hbw.size
              have HR1 : Hid (∀ W, Below w1.heap.size w1 W → Rd W 7 A1 ((M.take m).map Ord.cells)) := Lib.hid (fun W hW => hr1 W (M.take m) (M.drop m) (by rw [List.take_append_drop]; exact (hrd.below hbd).below hW))
              have HR2 : Hid (∀ W, Below w1.heap.size w1 W → Rd W 7 A2 ((M.drop m).map Ord.cells)) := Lib.hid (fun W hW => hr2 W (M.take m) (M.drop m) hl1 (by rw [List.take_append_drop]) (by rw [List.take_append_drop]; exact (hrd.below hbd).below hW))
              have HS : Hid (∀ W, Below w1.heap.size w1 W → SO rb b o k L.length cap x W) := Lib.hid (fun W hW => ⟨((q.ext hbw).ext hW).hd.cell 2, ((hbw.trans (hW.mono hwz1)).cell (p := ⟨b, o + k * 7, none⟩) (cell_lt g0)).trans g0, ((hbw.trans (hW.mono hwz1)).cell (p := ⟨b, o + k * 7 + 1, none⟩) (cell_lt g1)).trans g1, ((hbw.trans (hW.mono hwz1)).cell (p := ⟨b, o + k * 7 + 2, none⟩) (cell_lt g2)).trans g2, ((hbw.trans (hW.mono hwz1)).cell (p := ⟨b, o + k * 7 + 3, none⟩) (cell_lt g3)).trans g3, ((hbw.trans (hW.mono hwz1)).cell (p := ⟨b, o + k * 7 + 4, none⟩) (cell_lt g4)).trans g4, ((hbw.trans (hW.mono hwz1)).cell (p := ⟨b, o + k * 7 + 5, none⟩) (cell_lt g5)).trans g5, ((hbw.trans (hW.mono hwz1)).cell (p := ⟨b, o + k * 7 + 6, none⟩) (cell_lt g6)).trans g6⟩)
              have hbw1 : Below w1.heap.size w1 w1 := Below.refl _ _
              have hzw1 : w1.heap.size ≤ w1.heap.size := Nat.le_refl _
              generalize M.take m = M1 at *
              generalize M.drop m = M2 at *
              clear hs1' hs2' hr1 hr2 c0j h1j hrg hrg9 c0 h0 h1 qr hs hx1
              have hS := HS.out _ hbw1
              (refine T_take (i := 1) rfl (by kernel_rfl) (fun _ _ _ _ h => h) hS ?_; apply Exists.intro; refine ⟨.inl ⟨by rfl, fun W hW => ?_⟩, ?_⟩; (next => (obtain ⟨hs1, hs2⟩ := hW; go_simp; first | done | rfl)); simp only [Act.put, List.setIfInBounds_toArray, List.set_cons_zero, List.set_cons_succ])
              (refine T_take (i := 2) rfl (by kernel_rfl) (fun _ _ _ _ h => h) hS ?_; apply Exists.intro; refine ⟨.inl ⟨by rfl, fun W hW => ?_⟩, ?_⟩; (next => (obtain ⟨hs1, hs2⟩ := hW; go_simp; first | done | rfl)); simp only [Act.put, List.setIfInBounds_toArray, List.set_cons_zero, List.set_cons_succ])
              (refine T_take (i := 5) rfl (by kernel_rfl) (fun _ _ _ _ h => h) hS ?_; apply Exists.intro; refine ⟨.inl ⟨by rfl, fun W hW => ?_⟩, ?_⟩; (next => (obtain ⟨hs1, hs2⟩ := hW; go_simp; first | done | rfl)); simp only [Act.put, List.setIfInBounds_toArray, List.set_cons_zero, List.set_cons_succ])
              (refine T_take (i := 6) rfl (by kernel_rfl) (fun _ _ _ _ h => h) hS ?_; apply Exists.intro; refine ⟨.inl ⟨by rfl, fun W hW => ?_⟩, ?_⟩; (next => (obtain ⟨hs1, hs2⟩ := hW; go_simp; first | done | rfl)); simp only [Act.put, List.setIfInBounds_toArray, List.set_cons_zero, List.set_cons_succ])
              (refine T_take (i := 7) rfl (by kernel_rfl) (fun _ _ _ _ h => h) hS ?_; apply Exists.intro; refine ⟨.inl ⟨by rfl, fun W hW => ?_⟩, ?_⟩; (next => (obtain ⟨hs1, hs2⟩ := hW; go_simp; first | done | rfl)); simp only [Act.put, List.setIfInBounds_toArray, List.set_cons_zero, List.set_cons_succ])
              (refine T_take (i := 8) rfl (by kernel_rfl) (fun _ _ _ _ h => h) hS ?_; apply Exists.intro; refine ⟨.inl ⟨by rfl, fun W hW => ?_⟩, ?_⟩; (next => (obtain ⟨hs1, hs2⟩ := hW; go_simp; first | done | rfl)); simp only [Act.put, List.setIfInBounds_toArray, List.set_cons_zero, List.set_cons_succ])
              (refine T_take (i := 9) rfl (by kernel_rfl) (fun _ _ _ _ h => h) hS ?_; apply Exists.intro; refine ⟨.inl ⟨by rfl, fun W hW => ?_⟩, ?_⟩; (next => (obtain ⟨hs1, hs2⟩ := hW; go_simp; first | done | rfl)); simp only [Act.put, List.setIfInBounds_toArray, List.set_cons_zero, List.set_cons_succ])
              (refine T_take (i := 10) rfl (by kernel_rfl) (fun _ _ _ _ h => h) hS ?_; apply Exists.intro; refine ⟨.inl ⟨by rfl, fun W hW => ?_⟩, ?_⟩; (next => (obtain ⟨hs1, hs2⟩ := hW; go_simp; first | done | rfl)); simp only [Act.put, List.setIfInBounds_toArray, List.set_cons_zero, List.set_cons_succ])
              (refine T_take (i := 11) rfl (by kernel_rfl) (fun _ _ _ _ h => h) hS ?_; apply Exists.intro; refine ⟨.inl ⟨by rfl, fun W hW => ?_⟩, ?_⟩; (next => (obtain ⟨hs1, hs2⟩ := hW; go_simp; first | done | rfl)); simp only [Act.put, List.setIfInBounds_toArray, List.set_cons_zero, List.set_cons_succ])
              (refine T_take (i := 14) rfl (by kernel_rfl) (fun _ _ _ _ h => h) hS ?_; apply Exists.intro; refine ⟨.inl ⟨by rfl, fun W hW => ?_⟩, ?_⟩; (next => (obtain ⟨hs1, hs2⟩ := hW; go_simp; first | done | rfl)); simp only [Act.put, List.setIfInBounds_toArray, List.set_cons_zero, List.set_cons_succ])
              (refine T_take (i := 15) rfl (by kernel_rfl) (fun _ _ _ _ h => h) hS ?_; apply Exists.intro; refine ⟨.inl ⟨by rfl, fun W hW => ?_⟩, ?_⟩; (next => (obtain ⟨hs1, hs2⟩ := hW; go_simp; first | done | rfl)); simp only [Act.put, List.setIfInBounds_toArray, List.set_cons_zero, List.set_cons_succ])
              (refine T_take (i := 3) rfl (by kernel_rfl) (fun _ _ _ _ h => h) hS ?_; refine ⟨_, y_slice _ _ _ _ _ (by rfl) (by rfl) (fun W _ => hs1.out W), ?_⟩; simp only [Act.put, List.setIfInBounds_toArray, List.set_cons_zero, List.set_cons_succ])
              (refine T_take (i := 16) rfl (by kernel_rfl) (fun _ _ _ _ h => h) hS ?_; refine ⟨_, y_slice _ _ _ _ _ (by rfl) (by rfl) (fun W _ => hs2.out W), ?_⟩; simp only [Act.put, List.setIfInBounds_toArray, List.set_cons_zero, List.set_cons_succ])
              refine T_all [0, 12] (by kernel_rfl) (by decide) ?_
              intro j hj
              simp only [List.mem_cons, or_false, List.not_mem_nil] at hj
              rcases hj with rfl | rfl
              · refine T_op rfl (by rfl) ?_
                refine wp_build0 _ 43 (by rfl) 7 Try.underlying22 (by kernel_rfl) w1.heap.size hzw1 ?_
                intro wa hown0 hbswa hzswa
                have hbwa : Below w1.heap.size w1 wa := hbw1.trans (hbswa.mono hzw1)
                have hzwa : w1.heap.size ≤ wa.heap.size := hbwa.size
                refine ⟨.inr (HS.out _ hbwa), ?_⟩
                simp only [Act.put, List.setIfInBounds_toArray, List.set_cons_zero, List.set_cons_succ]
                refine T_all [4, 12] (by kernel_rfl) (by decide) ?_
                intro j hj
                simp only [List.mem_cons, or_false, List.not_mem_nil] at hj
                rcases hj with rfl | rfl
                · refine T_op rfl (by rfl) ?_
                  refine wp_append_rd _ _ _ (by rfl) w1.heap.size 43 (.agg #[.int .i64 0, .int .i64 0, .int .i64 0, .int .i64 0, .int .i64 0, .int .i64 0, .int .i64 0]) 7 56 Try.underlying22 (by kernel_rfl) ⟨rfl, by decide⟩ _ 0 [] (by rfl) hown0 A1 m cap1 (M1.map Ord.cells) (by rfl) (HR1.out _ hbwa) ⟨by rw [List.length_map, hl1], ord_ok _⟩ hn1 ⟨by unfold maxLen; omega, by omega⟩ hzwa ?_
                  intro v1 wb hown1 hbswb hzswb hkwb
                  have hbwb : Below w1.heap.size w1 wb := hbwa.trans hbswb
                  have hzwb : w1.heap.size ≤ wb.heap.size := hbwb.size
                  refine ⟨.inr (HS.out _ hbwb), ?_⟩
                  simp only [Act.put, List.setIfInBounds_toArray, List.set_cons_zero, List.set_cons_succ]
                  refine T_all [12] (by kernel_rfl) (by decide) ?_
                  intro j hj
                  simp only [List.mem_cons, or_false, List.not_mem_nil] at hj
                  subst hj
                  refine T_op rfl (by rfl) ?_
                  refine wp_build1 _ 43 _ (by rfl) (.agg #[.int .i64 0, .int .i64 0, .int .i64 0, .int .i64 0, .int .i64 0, .int .i64 0, .int .i64 0]) 7 Try.underlying22 (by kernel_rfl) ⟨by decide, by decide⟩ (.agg x.arr) (by rfl) x.arr (by kernel_rfl) ?_
                  intro wc hX hbswc hzswc
                  have hbwc : Below w1.heap.size w1 wc := hbwb.trans (hbswc.mono hzwb)
                  have hzwc : w1.heap.size ≤ wc.heap.size := hbwc.size
                  refine ⟨.inr (HS.out _ hbwc), ?_⟩
                  simp only [Act.put, List.setIfInBounds_toArray, List.set_cons_zero, List.set_cons_succ]
                  have hown1c := owns_ext hown1 hbswc
                  refine T_all [13] (by kernel_rfl) (by decide) ?_
                  intro j hj
                  simp only [List.mem_cons, or_false, List.not_mem_nil] at hj
                  subst hj
                  refine T_op rfl (by rfl) ?_
                  refine wp_append_rd _ _ _ (by rfl) w1.heap.size 43 (.agg #[.int .i64 0, .int .i64 0, .int .i64 0, .int .i64 0, .int .i64 0, .int .i64 0, .int .i64 0]) 7 56 Try.underlying22 (by kernel_rfl) ⟨rfl, by decide⟩ v1 (0 + m) _ (by rfl) hown1c (some ⟨wb.heap.size, 0, none⟩) 1 1 [x.cells] (by rfl) (rd_own hX (by simp [Ord.cells]) (n := 1) (by simp [Ord.cells, Ord.arr])) ⟨rfl, by simp [Ord.cells, Value.oneCell']⟩ (fun e => by cases e) ⟨by unfold maxLen; omega, by omega⟩ hzwc ?_
                  intro v2 wy hown2 hbsy hzsy hky
                  have hby : Below w1.heap.size w1 wy := hbwc.trans hbsy
                  have hzy : w1.heap.size ≤ wy.heap.size := hby.size
                  refine ⟨.inr (HS.out _ hby), ?_⟩
                  simp only [Act.put, List.setIfInBounds_toArray, List.set_cons_zero, List.set_cons_succ]
                  refine T_all [17] (by kernel_rfl) (by decide) ?_
                  intro j hj
                  simp only [List.mem_cons, or_false, List.not_mem_nil] at hj
                  subst hj
                  refine T_op rfl (by rfl) ?_
                  refine wp_append_rd _ _ _ (by rfl) w1.heap.size 43 (.agg #[.int .i64 0, .int .i64 0, .int .i64 0, .int .i64 0, .int .i64 0, .int .i64 0, .int .i64 0]) 7 56 Try.underlying22 (by kernel_rfl) ⟨rfl, by decide⟩ v2 (0 + m + 1) _ (by rfl) hown2 A2 (M.length - m) (cap1 - m) (M2.map Ord.cells) (by rfl) (HR2.out _ hby) ⟨by rw [List.length_map, hl2], ord_ok _⟩ hn2 ⟨by unfold maxLen; omega, by omega⟩ hzy ?_
                  intro v3 wz hown3 hbsz hzsz hkz
                  have hbz : Below w1.heap.size w1 wz := hby.trans hbsz
                  have hzz : w1.heap.size ≤ wz.heap.size := hbz.size
                  refine ⟨.inr (HS.out _ hbz), ?_⟩
                  simp only [Act.put, List.setIfInBounds_toArray, List.set_cons_zero, List.set_cons_succ]
                  refine T_all [18] (by kernel_rfl) (by decide) ?_
                  intro j hj
                  simp only [List.mem_cons, or_false, List.not_mem_nil] at hj
                  subst hj
                  refine T_op rfl (by rfl) (wp_calm (v := v3) (by go_simp; first | done | rfl) ⟨.inl rfl, ?_⟩)
                  simp only [Act.put, List.setIfInBounds_toArray, List.set_cons_zero, List.set_cons_succ]
                  refine T_done (by kernel_rfl) ?_
                  go_wp2_with fail
                  go_roundw
                  case rel => exact ⟨k + 1, _, rfl, by go_num, by omega, by rw [H1.out, HT.out]; exact owns_mono (owned_ins hown3 hl1 hl2) hwz1, hbw.trans (hbz.mono hwz1)⟩
                  case measure => simp [intOf]; omega
                · refine T_op rfl (by rfl) ?_
                  refine wp_build1 _ 43 _ (by rfl) (.agg #[.int .i64 0, .int .i64 0, .int .i64 0, .int .i64 0, .int .i64 0, .int .i64 0, .int .i64 0]) 7 Try.underlying22 (by kernel_rfl) ⟨by decide, by decide⟩ (.agg x.arr) (by rfl) x.arr (by kernel_rfl) ?_
                  intro wb hX hbswb hzswb
                  have hbwb : Below w1.heap.size w1 wb := hbwa.trans (hbswb.mono hzwa)
                  have hzwb : w1.heap.size ≤ wb.heap.size := hbwb.size
                  refine ⟨.inr (HS.out _ hbwb), ?_⟩
                  simp only [Act.put, List.setIfInBounds_toArray, List.set_cons_zero, List.set_cons_succ]
                  have hown0b := owns_ext hown0 hbswb
                  refine T_all [4] (by kernel_rfl) (by decide) ?_
                  intro j hj
                  simp only [List.mem_cons, or_false, List.not_mem_nil] at hj
                  subst hj
                  refine T_op rfl (by rfl) ?_
                  refine wp_append_rd _ _ _ (by rfl) w1.heap.size 43 (.agg #[.int .i64 0, .int .i64 0, .int .i64 0, .int .i64 0, .int .i64 0, .int .i64 0, .int .i64 0]) 7 56 Try.underlying22 (by kernel_rfl) ⟨rfl, by decide⟩ _ 0 [] (by rfl) hown0b A1 m cap1 (M1.map Ord.cells) (by rfl) (HR1.out _ hbwb) ⟨by rw [List.length_map, hl1], ord_ok _⟩ hn1 ⟨by unfold maxLen; omega, by omega⟩ hzwb ?_
                  intro v1 wc hown1 hbswc hzswc hkwc
                  have hbwc : Below w1.heap.size w1 wc := hbwb.trans hbswc
                  have hzwc : w1.heap.size ≤ wc.heap.size := hbwc.size
                  refine ⟨.inr (HS.out _ hbwc), ?_⟩
                  simp only [Act.put, List.setIfInBounds_toArray, List.set_cons_zero, List.set_cons_succ]
                  have hXc : Blk wc wa.heap.size 43 _ := (hkwc _ (by have := hX.lt; omega) (fun e => by simp [Value.ownBlock] at e; omega)).trans hX
                  refine T_all [13] (by kernel_rfl) (by decide) ?_
                  intro j hj
                  simp only [List.mem_cons, or_false, List.not_mem_nil] at hj
                  subst hj
                  refine T_op rfl (by rfl) ?_
                  refine wp_append_rd _ _ _ (by rfl) w1.heap.size 43 (.agg #[.int .i64 0, .int .i64 0, .int .i64 0, .int .i64 0, .int .i64 0, .int .i64 0, .int .i64 0]) 7 56 Try.underlying22 (by kernel_rfl) ⟨rfl, by decide⟩ v1 (0 + m) _ (by rfl) hown1 (some ⟨wa.heap.size, 0, none⟩) 1 1 [x.cells] (by rfl) (rd_own hXc (by simp [Ord.cells]) (n := 1) (by simp [Ord.cells, Ord.arr])) ⟨rfl, by simp [Ord.cells, Value.oneCell']⟩ (fun e => by cases e) ⟨by unfold maxLen; omega, by omega⟩ hzwc ?_
                  intro v2 wy hown2 hbsy hzsy hky
                  have hby : Below w1.heap.size w1 wy := hbwc.trans hbsy
                  have hzy : w1.heap.size ≤ wy.heap.size := hby.size
                  refine ⟨.inr (HS.out _ hby), ?_⟩
                  simp only [Act.put, List.setIfInBounds_toArray, List.set_cons_zero, List.set_cons_succ]
                  refine T_all [17] (by kernel_rfl) (by decide) ?_
                  intro j hj
                  simp only [List.mem_cons, or_false, List.not_mem_nil] at hj
                  subst hj
                  refine T_op rfl (by rfl) ?_
                  refine wp_append_rd _ _ _ (by rfl) w1.heap.size 43 (.agg #[.int .i64 0, .int .i64 0, .int .i64 0, .int .i64 0, .int .i64 0, .int .i64 0, .int .i64 0]) 7 56 Try.underlying22 (by kernel_rfl) ⟨rfl, by decide⟩ v2 (0 + m + 1) _ (by rfl) hown2 A2 (M.length - m) (cap1 - m) (M2.map Ord.cells) (by rfl) (HR2.out _ hby) ⟨by rw [List.length_map, hl2], ord_ok _⟩ hn2 ⟨by unfold maxLen; omega, by omega⟩ hzy ?_
                  intro v3 wz hown3 hbsz hzsz hkz
                  have hbz : Below w1.heap.size w1 wz := hby.trans hbsz
                  have hzz : w1.heap.size ≤ wz.heap.size := hbz.size
                  refine ⟨.inr (HS.out _ hbz), ?_⟩
                  simp only [Act.put, List.setIfInBounds_toArray, List.set_cons_zero, List.set_cons_succ]
                  refine T_all [18] (by kernel_rfl) (by decide) ?_
                  intro j hj
                  simp only [List.mem_cons, or_false, List.not_mem_nil] at hj
                  subst hj
                  refine T_op rfl (by rfl) (wp_calm (v := v3) (by go_simp; first | done | rfl) ⟨.inl rfl, ?_⟩)
                  simp only [Act.put, List.setIfInBounds_toArray, List.set_cons_zero, List.set_cons_succ]
                  refine T_done (by kernel_rfl) ?_
                  go_wp2_with fail
                  go_roundw
                  case rel => exact ⟨k + 1, _, rfl, by go_num, by omega, by rw [H1.out, HT.out]; exact owns_mono (owned_ins hown3 hl1 hl2) hwz1, hbw.trans (hbz.mono hwz1)⟩
                  case measure => simp [intOf]; omega
              · refine T_op rfl (by rfl) ?_
                refine wp_build1 _ 43 _ (by rfl) (.agg #[.int .i64 0, .int .i64 0, .int .i64 0, .int .i64 0, .int .i64 0, .int .i64 0, .int .i64 0]) 7 Try.underlying22 (by kernel_rfl) ⟨by decide, by decide⟩ (.agg x.arr) (by rfl) x.arr (by kernel_rfl) ?_
                intro wa hX hbswa hzswa
                have hbwa : Below w1.heap.size w1 wa := hbw1.trans (hbswa.mono hzw1)
                have hzwa : w1.heap.size ≤ wa.heap.size := hbwa.size
                refine ⟨.inr (HS.out _ hbwa), ?_⟩
                simp only [Act.put, List.setIfInBounds_toArray, List.set_cons_zero, List.set_cons_succ]
                refine T_all [0] (by kernel_rfl) (by decide) ?_
                intro j hj
                simp only [List.mem_cons, or_false, List.not_mem_nil] at hj
                subst hj
                refine T_op rfl (by rfl) ?_
                refine wp_build0 _ 43 (by rfl) 7 Try.underlying22 (by kernel_rfl) w1.heap.size hzwa ?_
                intro wb hown0 hbswb hzswb
                have hbwb : Below w1.heap.size w1 wb := hbwa.trans (hbswb.mono hzwa)
                have hzwb : w1.heap.size ≤ wb.heap.size := hbwb.size
                refine ⟨.inr (HS.out _ hbwb), ?_⟩
                simp only [Act.put, List.setIfInBounds_toArray, List.set_cons_zero, List.set_cons_succ]
                have hXb := hX.ext hbswb
                refine T_all [4] (by kernel_rfl) (by decide) ?_
                intro j hj
                simp only [List.mem_cons, or_false, List.not_mem_nil] at hj
                subst hj
                refine T_op rfl (by rfl) ?_
                refine wp_append_rd _ _ _ (by rfl) w1.heap.size 43 (.agg #[.int .i64 0, .int .i64 0, .int .i64 0, .int .i64 0, .int .i64 0, .int .i64 0, .int .i64 0]) 7 56 Try.underlying22 (by kernel_rfl) ⟨rfl, by decide⟩ _ 0 [] (by rfl) hown0 A1 m cap1 (M1.map Ord.cells) (by rfl) (HR1.out _ hbwb) ⟨by rw [List.length_map, hl1], ord_ok _⟩ hn1 ⟨by unfold maxLen; omega, by omega⟩ hzwb ?_
                intro v1 wc hown1 hbswc hzswc hkwc
                have hbwc : Below w1.heap.size w1 wc := hbwb.trans hbswc
                have hzwc : w1.heap.size ≤ wc.heap.size := hbwc.size
                refine ⟨.inr (HS.out _ hbwc), ?_⟩
                simp only [Act.put, List.setIfInBounds_toArray, List.set_cons_zero, List.set_cons_succ]
                have hXc : Blk wc w1.heap.size 43 _ := (hkwc _ (by have := hXb.lt; omega) (fun e => by simp [Value.ownBlock] at e; omega)).trans hXb
                refine T_all [13] (by kernel_rfl) (by decide) ?_
                intro j hj
                simp only [List.mem_cons, or_false, List.not_mem_nil] at hj
                subst hj
                refine T_op rfl (by rfl) ?_
                refine wp_append_rd _ _ _ (by rfl) w1.heap.size 43 (.agg #[.int .i64 0, .int .i64 0, .int .i64 0, .int .i64 0, .int .i64 0, .int .i64 0, .int .i64 0]) 7 56 Try.underlying22 (by kernel_rfl) ⟨rfl, by decide⟩ v1 (0 + m) _ (by rfl) hown1 (some ⟨w1.heap.size, 0, none⟩) 1 1 [x.cells] (by rfl) (rd_own hXc (by simp [Ord.cells]) (n := 1) (by simp [Ord.cells, Ord.arr])) ⟨rfl, by simp [Ord.cells, Value.oneCell']⟩ (fun e => by cases e) ⟨by unfold maxLen; omega, by omega⟩ hzwc ?_
                intro v2 wy hown2 hbsy hzsy hky
                have hby : Below w1.heap.size w1 wy := hbwc.trans hbsy
                have hzy : w1.heap.size ≤ wy.heap.size := hby.size
                refine ⟨.inr (HS.out _ hby), ?_⟩
                simp only [Act.put, List.setIfInBounds_toArray, List.set_cons_zero, List.set_cons_succ]
                refine T_all [17] (by kernel_rfl) (by decide) ?_
                intro j hj
                simp only [List.mem_cons, or_false, List.not_mem_nil] at hj
                subst hj
                refine T_op rfl (by rfl) ?_
                refine wp_append_rd _ _ _ (by rfl) w1.heap.size 43 (.agg #[.int .i64 0, .int .i64 0, .int .i64 0, .int .i64 0, .int .i64 0, .int .i64 0, .int .i64 0]) 7 56 Try.underlying22 (by kernel_rfl) ⟨rfl, by decide⟩ v2 (0 + m + 1) _ (by rfl) hown2 A2 (M.length - m) (cap1 - m) (M2.map Ord.cells) (by rfl) (HR2.out _ hby) ⟨by rw [List.length_map, hl2], ord_ok _⟩ hn2 ⟨by unfold maxLen; omega, by omega⟩ hzy ?_
                intro v3 wz hown3 hbsz hzsz hkz
                have hbz : Below w1.heap.size w1 wz := hby.trans hbsz
                have hzz : w1.heap.size ≤ wz.heap.size := hbz.size
                refine ⟨.inr (HS.out _ hbz), ?_⟩
                simp only [Act.put, List.setIfInBounds_toArray, List.set_cons_zero, List.set_cons_succ]
                refine T_all [18] (by kernel_rfl) (by decide) ?_
                intro j hj
                simp only [List.mem_cons, or_false, List.not_mem_nil] at hj
                subst hj
                refine T_op rfl (by rfl) (wp_calm (v := v3) (by go_simp; first | done | rfl) ⟨.inl rfl, ?_⟩)
                simp only [Act.put, List.setIfInBounds_toArray, List.set_cons_zero, List.set_cons_succ]
                refine T_done (by kernel_rfl) ?_
                go_wp2_with fail
                go_roundw
                case rel => exact ⟨k + 1, _, rfl, by go_num, by omega, by rw [H1.out, HT.out]; exact owns_mono (owned_ins hown3 hl1 hl2) hwz1, hbw.trans (hbz.mono hwz1)⟩
                case measure => simp [intOf]; omega
            · have e2 : ¬ (m : Int) < (M.length : Int) := by omega
              have e5 : decide ((m : Int) < (M.length : Int)) = false := decide_eq_false e2
              go_wp2_with fail
              refine wp_region_below_lit (by kernel_rfl) (by kernel_rfl) ?_
              repeat (first | go_big_quiet_skip | (go_big_quiet_want; go_big_quiet_op; go_big_quiet_on) | (refine q_load_fld (by rfl) _ _ (by rfl) (fun _ h => h) _ _ (by rfl) ?_ ?_ ?_ ?_ ?_ ?_; rotate_left; (next => (repeat (first | (with_reducible refine BlkAt.new _ _ _ _ ?_; ((try simp) <;> omega)) | (with_reducible assumption) | (with_reducible refine Blk.at (t := ?_) ?_; rotate_left; with_reducible assumption) | with_reducible refine BlkAt.alloc ?_ _ | with_reducible refine BlkAt.drew ?_ | (with_reducible refine BlkAt.setSame ?_ _ _) | (with_reducible refine BlkAt.setCell ?_ ?_ _; rotate_left; ((try simp) <;> omega)) | (with_reducible refine BlkAt.ext (w := ?_) ?_ ?_; rotate_left 2; (with_reducible assumption)) | fail))); rotate_left; (next => first | (simp only [go_sem]; rfl) | rfl); (next => kernel_rfl); (try simp only [Act.put, List.setIfInBounds_toArray, List.set_cons_zero, List.set_cons_succ])) | (refine q_rem (by rfl) _ _ _ _ (by rfl) _ _ (by rfl) (by rfl) (by kernel_rfl) (by kernel_rfl) ?_ ?_; (next => omega); (try simp only [Act.put, List.setIfInBounds_toArray, List.set_cons_zero, List.set_cons_succ])) | (refine q_step_ex (by rfl) ?_; apply Exists.intro; refine ⟨fun W hW => ?_, ?_⟩; (next => (have hWc := fun (b o : Nat) (h : b < _) => (Ext.out hW).cell (p := ⟨b, o, none⟩) h); (try have hLK := HLK.out W (Ext.out hW)); go_simp; first | rfl | fail | fail); (try simp only [Act.put, List.setIfInBounds_toArray, List.set_cons_zero, List.set_cons_succ])) | fail)
              refine wpQuiet_nil ?_
              intro w8 hb8
              go_wp2_with fail
              have hb08 := below_ext hbj hb8
              obtain ⟨A1, hn1, hr1, hs1'⟩ := cut_head A0 M.length cap1 m (by omega) hnil
              obtain ⟨A2, hn2, hr2, hs2'⟩ := cut_tail A0 M.length cap1 m (by omega) hfit hnil
              have hs1 := Lib.hid hs1'
              have hs2 := Lib.hid hs2'
              have hl1 : (M.take m).length = m := by simp; omega
              have hl2 : (M.drop m).length = M.length - m := by simp
              have HT : Hid (insO s x M = M.take m ++ x :: M.drop m) := H4
              have hbd : Below wo.heap.size wo w8.drew := hb08.drew
              have hzd : w8.drew.heap.size = w8.heap.size := rfl
              refine wp_region_T (S := SO rb b o k L.length cap x) 18 (by kernel_rfl) ?_
              generalize w8.drew = w1 at hbd hzd ⊢
              have hzo := hbd.size
              have hbw : Below w.heap.size w w1 := hb.trans (hbd.mono hz0)
              have hwz1 : w.heap.size ≤ w1.heap.size := hbw.size
              have HR1 : Hid (∀ W, Below w1.heap.size w1 W → Rd W 7 A1 ((M.take m).map Ord.cells)) := Lib.hid (fun W hW => hr1 W (M.take m) (M.drop m) (by rw [List.take_append_drop]; exact (hrd.below hbd).below hW))
              have HR2 : Hid (∀ W, Below w1.heap.size w1 W → Rd W 7 A2 ((M.drop m).map Ord.cells)) := Lib.hid (fun W hW => hr2 W (M.take m) (M.drop m) hl1 (by rw [List.take_append_drop]) (by rw [List.take_append_drop]; exact (hrd.below hbd).below hW))
              have HS : Hid (∀ W, Below w1.heap.size w1 W → SO rb b o k L.length cap x W) := Lib.hid (fun W hW => ⟨((q.ext hbw).ext hW).hd.cell 2, ((hbw.trans (hW.mono hwz1)).cell (p := ⟨b, o + k * 7, none⟩) (cell_lt g0)).trans g0, ((hbw.trans (hW.mono hwz1)).cell (p := ⟨b, o + k * 7 + 1, none⟩) (cell_lt g1)).trans g1, ((hbw.trans (hW.mono hwz1)).cell (p := ⟨b, o + k * 7 + 2, none⟩) (cell_lt g2)).trans g2, ((hbw.trans (hW.mono hwz1)).cell (p := ⟨b, o + k * 7 + 3, none⟩) (cell_lt g3)).trans g3, ((hbw.trans (hW.mono hwz1)).cell (p := ⟨b, o + k * 7 + 4, none⟩) (cell_lt g4)).trans g4, ((hbw.trans (hW.mono hwz1)).cell (p := ⟨b, o + k * 7 + 5, none⟩) (cell_lt g5)).trans g5, ((hbw.trans (hW.mono hwz1)).cell (p := ⟨b, o + k * 7 + 6, none⟩) (cell_lt g6)).trans g6⟩)
              have hbw1 : Below w1.heap.size w1 w1 := Below.refl _ _
              have hzw1 : w1.heap.size ≤ w1.heap.size := Nat.le_refl _
              generalize M.take m = M1 at *
              generalize M.drop m = M2 at *
              clear hs1' hs2' hr1 hr2 c0j h1j hrg hrg9 c0 h0 h1 qr hs hx1
              have hS := HS.out _ hbw1
              (refine T_take (i := 1) rfl (by kernel_rfl) (fun _ _ _ _ h => h) hS ?_; apply Exists.intro; refine ⟨.inl ⟨by rfl, fun W hW => ?_⟩, ?_⟩; (next => (obtain ⟨hs1, hs2⟩ := hW; go_simp; first | done | rfl)); simp only [Act.put, List.setIfInBounds_toArray, List.set_cons_zero, List.set_cons_succ])
              (refine T_take (i := 2) rfl (by kernel_rfl) (fun _ _ _ _ h => h) hS ?_; apply Exists.intro; refine ⟨.inl ⟨by rfl, fun W hW => ?_⟩, ?_⟩; (next => (obtain ⟨hs1, hs2⟩ := hW; go_simp; first | done | rfl)); simp only [Act.put, List.setIfInBounds_toArray, List.set_cons_zero, List.set_cons_succ])
              (refine T_take (i := 5) rfl (by kernel_rfl) (fun _ _ _ _ h => h) hS ?_; apply Exists.intro; refine ⟨.inl ⟨by rfl, fun W hW => ?_⟩, ?_⟩; (next => (obtain ⟨hs1, hs2⟩ := hW; go_simp; first | done | rfl)); simp only [Act.put, List.setIfInBounds_toArray, List.set_cons_zero, List.set_cons_succ])
              (refine T_take (i := 6) rfl (by kernel_rfl) (fun _ _ _ _ h => h) hS ?_; apply Exists.intro; refine ⟨.inl ⟨by rfl, fun W hW => ?_⟩, ?_⟩; (next => (obtain ⟨hs1, hs2⟩ := hW; go_simp; first | done | rfl)); simp only [Act.put, List.setIfInBounds_toArray, List.set_cons_zero, List.set_cons_succ])
              (refine T_take (i := 7) rfl (by kernel_rfl) (fun _ _ _ _ h => h) hS ?_; apply Exists.intro; refine ⟨.inl ⟨by rfl, fun W hW => ?_⟩, ?_⟩; (next => (obtain ⟨hs1, hs2⟩ := hW; go_simp; first | done | rfl)); simp only [Act.put, List.setIfInBounds_toArray, List.set_cons_zero, List.set_cons_succ])
              (refine T_take (i := 8) rfl (by kernel_rfl) (fun _ _ _ _ h => h) hS ?_; apply Exists.intro; refine ⟨.inl ⟨by rfl, fun W hW => ?_⟩, ?_⟩; (next => (obtain ⟨hs1, hs2⟩ := hW; go_simp; first | done | rfl)); simp only [Act.put, List.setIfInBounds_toArray, List.set_cons_zero, List.set_cons_succ])
              (refine T_take (i := 9) rfl (by kernel_rfl) (fun _ _ _ _ h => h) hS ?_; apply Exists.intro; refine ⟨.inl ⟨by rfl, fun W hW => ?_⟩, ?_⟩; (next => (obtain ⟨hs1, hs2⟩ := hW; go_simp; first | done | rfl)); simp only [Act.put, List.setIfInBounds_toArray, List.set_cons_zero, List.set_cons_succ])
              (refine T_take (i := 10) rfl (by kernel_rfl) (fun _ _ _ _ h => h) hS ?_; apply Exists.intro; refine ⟨.inl ⟨by rfl, fun W hW => ?_⟩, ?_⟩; (next => (obtain ⟨hs1, hs2⟩ := hW; go_simp; first | done | rfl)); simp only [Act.put, List.setIfInBounds_toArray, List.set_cons_zero, List.set_cons_succ])
              (refine T_take (i := 11) rfl (by kernel_rfl) (fun _ _ _ _ h => h) hS ?_; apply Exists.intro; refine ⟨.inl ⟨by rfl, fun W hW => ?_⟩, ?_⟩; (next => (obtain ⟨hs1, hs2⟩ := hW; go_simp; first | done | rfl)); simp only [Act.put, List.setIfInBounds_toArray, List.set_cons_zero, List.set_cons_succ])
              (refine T_take (i := 14) rfl (by kernel_rfl) (fun _ _ _ _ h => h) hS ?_; apply Exists.intro; refine ⟨.inl ⟨by rfl, fun W hW => ?_⟩, ?_⟩; (next => (obtain ⟨hs1, hs2⟩ := hW; go_simp; first | done | rfl)); simp only [Act.put, List.setIfInBounds_toArray, List.set_cons_zero, List.set_cons_succ])
              (refine T_take (i := 15) rfl (by kernel_rfl) (fun _ _ _ _ h => h) hS ?_; apply Exists.intro; refine ⟨.inl ⟨by rfl, fun W hW => ?_⟩, ?_⟩; (next => (obtain ⟨hs1, hs2⟩ := hW; go_simp; first | done | rfl)); simp only [Act.put, List.setIfInBounds_toArray, List.set_cons_zero, List.set_cons_succ])
              (refine T_take (i := 3) rfl (by kernel_rfl) (fun _ _ _ _ h => h) hS ?_; refine ⟨_, y_slice _ _ _ _ _ (by rfl) (by rfl) (fun W _ => hs1.out W), ?_⟩; simp only [Act.put, List.setIfInBounds_toArray, List.set_cons_zero, List.set_cons_succ])
              (refine T_take (i := 16) rfl (by kernel_rfl) (fun _ _ _ _ h => h) hS ?_; refine ⟨_, y_slice _ _ _ _ _ (by rfl) (by rfl) (fun W _ => hs2.out W), ?_⟩; simp only [Act.put, List.setIfInBounds_toArray, List.set_cons_zero, List.set_cons_succ])
              refine T_all [0, 12] (by kernel_rfl) (by decide) ?_
              intro j hj
              simp only [List.mem_cons, or_false, List.not_mem_nil] at hj
              rcases hj with rfl | rfl
              · refine T_op rfl (by rfl) ?_
                refine wp_build0 _ 43 (by rfl) 7 Try.underlying22 (by kernel_rfl) w1.heap.size hzw1 ?_
                intro wa hown0 hbswa hzswa
                have hbwa : Below w1.heap.size w1 wa := hbw1.trans (hbswa.mono hzw1)
                have hzwa : w1.heap.size ≤ wa.heap.size := hbwa.size
                refine ⟨.inr (HS.out _ hbwa), ?_⟩
                simp only [Act.put, List.setIfInBounds_toArray, List.set_cons_zero, List.set_cons_succ]
                refine T_all [4, 12] (by kernel_rfl) (by decide) ?_
                intro j hj
                simp only [List.mem_cons, or_false, List.not_mem_nil] at hj
                rcases hj with rfl | rfl
                · refine T_op rfl (by rfl) ?_
                  refine wp_append_rd _ _ _ (by rfl) w1.heap.size 43 (.agg #[.int .i64 0, .int .i64 0, .int .i64 0, .int .i64 0, .int .i64 0, .int .i64 0, .int .i64 0]) 7 56 Try.underlying22 (by kernel_rfl) ⟨rfl, by decide⟩ _ 0 [] (by rfl) hown0 A1 m cap1 (M1.map Ord.cells) (by rfl) (HR1.out _ hbwa) ⟨by rw [List.length_map, hl1], ord_ok _⟩ hn1 ⟨by unfold maxLen; omega, by omega⟩ hzwa ?_
                  intro v1 wb hown1 hbswb hzswb hkwb
                  have hbwb : Below w1.heap.size w1 wb := hbwa.trans hbswb
                  have hzwb : w1.heap.size ≤ wb.heap.size := hbwb.size
                  refine ⟨.inr (HS.out _ hbwb), ?_⟩
                  simp only [Act.put, List.setIfInBounds_toArray, List.set_cons_zero, List.set_cons_succ]
                  refine T_all [12] (by kernel_rfl) (by decide) ?_
                  intro j hj
                  simp only [List.mem_cons, or_false, List.not_mem_nil] at hj
                  subst hj
                  refine T_op rfl (by rfl) ?_
                  refine wp_build1 _ 43 _ (by rfl) (.agg #[.int .i64 0, .int .i64 0, .int .i64 0, .int .i64 0, .int .i64 0, .int .i64 0, .int .i64 0]) 7 Try.underlying22 (by kernel_rfl) ⟨by decide, by decide⟩ (.agg x.arr) (by rfl) x.arr (by kernel_rfl) ?_
                  intro wc hX hbswc hzswc
                  have hbwc : Below w1.heap.size w1 wc := hbwb.trans (hbswc.mono hzwb)
                  have hzwc : w1.heap.size ≤ wc.heap.size := hbwc.size
                  refine ⟨.inr (HS.out _ hbwc), ?_⟩
                  simp only [Act.put, List.setIfInBounds_toArray, List.set_cons_zero, List.set_cons_succ]
                  have hown1c := owns_ext hown1 hbswc
                  refine T_all [13] (by kernel_rfl) (by decide) ?_
                  intro j hj
                  simp only [List.mem_cons, or_false, List.not_mem_nil] at hj
                  subst hj
                  refine T_op rfl (by rfl) ?_
                  refine wp_append_rd _ _ _ (by rfl) w1.heap.size 43 (.agg #[.int .i64 0, .int .i64 0, .int .i64 0, .int .i64 0, .int .i64 0, .int .i64 0, .int .i64 0]) 7 56 Try.underlying22 (by kernel_rfl) ⟨rfl, by decide⟩ v1 (0 + m) _ (by rfl) hown1c (some ⟨wb.heap.size, 0, none⟩) 1 1 [x.cells] (by rfl) (rd_own hX (by simp [Ord.cells]) (n := 1) (by simp [Ord.cells, Ord.arr])) ⟨rfl, by simp [Ord.cells, Value.oneCell']⟩ (fun e => by cases e) ⟨by unfold maxLen; omega, by omega⟩ hzwc ?_
                  intro v2 wy hown2 hbsy hzsy hky
                  have hby : Below w1.heap.size w1 wy := hbwc.trans hbsy
                  have hzy : w1.heap.size ≤ wy.heap.size := hby.size
                  refine ⟨.inr (HS.out _ hby), ?_⟩
                  simp only [Act.put, List.setIfInBounds_toArray, List.set_cons_zero, List.set_cons_succ]
                  refine T_all [17] (by kernel_rfl) (by decide) ?_
                  intro j hj
                  simp only [List.mem_cons, or_false, List.not_mem_nil] at hj
                  subst hj
                  refine T_op rfl (by rfl) ?_
                  refine wp_append_rd _ _ _ (by rfl) w1.heap.size 43 (.agg #[.int .i64 0, .int .i64 0, .int .i64 0, .int .i64 0, .int .i64 0, .int .i64 0, .int .i64 0]) 7 56 Try.underlying22 (by kernel_rfl) ⟨rfl, by decide⟩ v2 (0 + m + 1) _ (by rfl) hown2 A2 (M.length - m) (cap1 - m) (M2.map Ord.cells) (by rfl) (HR2.out _ hby) ⟨by rw [List.length_map, hl2], ord_ok _⟩ hn2 ⟨by unfold maxLen; omega, by omega⟩ hzy ?_
                  intro v3 wz hown3 hbsz hzsz hkz
                  have hbz : Below w1.heap.size w1 wz := hby.trans hbsz
                  have hzz : w1.heap.size ≤ wz.heap.size := hbz.size
                  refine ⟨.inr (HS.out _ hbz), ?_⟩
                  simp only [Act.put, List.setIfInBounds_toArray, List.set_cons_zero, List.set_cons_succ]
                  refine T_all [18] (by kernel_rfl) (by decide) ?_
                  intro j hj
                  simp only [List.mem_cons, or_false, List.not_mem_nil] at hj
                  subst hj
                  refine T_op rfl (by rfl) (wp_calm (v := v3) (by go_simp; first | done | rfl) ⟨.inl rfl, ?_⟩)
                  simp only [Act.put, List.setIfInBounds_toArray, List.set_cons_zero, List.set_cons_succ]
                  refine T_done (by kernel_rfl) ?_
                  go_wp2_with fail
                  go_roundw
                  case rel => exact ⟨k + 1, _, rfl, by go_num, by omega, by rw [H1.out, HT.out]; exact owns_mono (owned_ins hown3 hl1 hl2) hwz1, hbw.trans (hbz.mono hwz1)⟩
                  case measure => simp [intOf]; omega
                · refine T_op rfl (by rfl) ?_
                  refine wp_build1 _ 43 _ (by rfl) (.agg #[.int .i64 0, .int .i64 0, .int .i64 0, .int .i64 0, .int .i64 0, .int .i64 0, .int .i64 0]) 7 Try.underlying22 (by kernel_rfl) ⟨by decide, by decide⟩ (.agg x.arr) (by rfl) x.arr (by kernel_rfl) ?_
                  intro wb hX hbswb hzswb
                  have hbwb : Below w1.heap.size w1 wb := hbwa.trans (hbswb.mono hzwa)
                  have hzwb : w1.heap.size ≤ wb.heap.size := hbwb.size
                  refine ⟨.inr (HS.out _ hbwb), ?_⟩
                  simp only [Act.put, List.setIfInBounds_toArray, List.set_cons_zero, List.set_cons_succ]
                  have hown0b := owns_ext hown0 hbswb
                  refine T_all [4] (by kernel_rfl) (by decide) ?_
                  intro j hj
                  simp only [List.mem_cons, or_false, List.not_mem_nil] at hj
                  subst hj
                  refine T_op rfl (by rfl) ?_
                  refine wp_append_rd _ _ _ (by rfl) w1.heap.size 43 (.agg #[.int .i64 0, .int .i64 0, .int .i64 0, .int .i64 0, .int .i64 0, .int .i64 0, .int .i64 0]) 7 56 Try.underlying22 (by kernel_rfl) ⟨rfl, by decide⟩ _ 0 [] (by rfl) hown0b A1 m cap1 (M1.map Ord.cells) (by rfl) (HR1.out _ hbwb) ⟨by rw [List.length_map, hl1], ord_ok _⟩ hn1 ⟨by unfold maxLen; omega, by omega⟩ hzwb ?_
                  intro v1 wc hown1 hbswc hzswc hkwc
                  have hbwc : Below w1.heap.size w1 wc := hbwb.trans hbswc
                  have hzwc : w1.heap.size ≤ wc.heap.size := hbwc.size
                  refine ⟨.inr (HS.out _ hbwc), ?_⟩
                  simp only [Act.put, List.setIfInBounds_toArray, List.set_cons_zero, List.set_cons_succ]
                  have hXc : Blk wc wa.heap.size 43 _ := (hkwc _ (by have := hX.lt; omega) (fun e => by simp [Value.ownBlock] at e; omega)).trans hX
                  refine T_all [13] (by kernel_rfl) (by decide) ?_
                  intro j hj
                  simp only [List.mem_cons, or_false, List.not_mem_nil] at hj
                  subst hj
                  refine T_op rfl (by rfl) ?_
                  refine wp_append_rd _ _ _ (by rfl) w1.heap.size 43 (.agg #[.int .i64 0, .int .i64 0, .int .i64 0, .int .i64 0, .int .i64 0, .int .i64 0, .int .i64 0]) 7 56 Try.underlying22 (by kernel_rfl) ⟨rfl, by decide⟩ v1 (0 + m) _ (by rfl) hown1 (some ⟨wa.heap.size, 0, none⟩) 1 1 [x.cells] (by rfl) (rd_own hXc (by simp [Ord.cells]) (n := 1) (by simp [Ord.cells, Ord.arr])) ⟨rfl, by simp [Ord.cells, Value.oneCell']⟩ (fun e => by cases e) ⟨by unfold maxLen; omega, by omega⟩ hzwc ?_
                  intro v2 wy hown2 hbsy hzsy hky
                  have hby : Below w1.heap.size w1 wy := hbwc.trans hbsy
                  have hzy : w1.heap.size ≤ wy.heap.size := hby.size
                  refine ⟨.inr (HS.out _ hby), ?_⟩
                  simp only [Act.put, List.setIfInBounds_toArray, List.set_cons_zero, List.set_cons_succ]
                  refine T_all [17] (by kernel_rfl) (by decide) ?_
                  intro j hj
                  simp only [List.mem_cons, or_false, List.not_mem_nil] at hj
                  subst hj
                  refine T_op rfl (by rfl) ?_
                  refine wp_append_rd _ _ _ (by rfl) w1.heap.size 43 (.agg #[.int .i64 0, .int .i64 0, .int .i64 0, .int .i64 0, .int .i64 0, .int .i64 0, .int .i64 0]) 7 56 Try.underlying22 (by kernel_rfl) ⟨rfl, by decide⟩ v2 (0 + m + 1) _ (by rfl) hown2 A2 (M.length - m) (cap1 - m) (M2.map Ord.cells) (by rfl) (HR2.out _ hby) ⟨by rw [List.length_map, hl2], ord_ok _⟩ hn2 ⟨by unfold maxLen; omega, by omega⟩ hzy ?_
                  intro v3 wz hown3 hbsz hzsz hkz
                  have hbz : Below w1.heap.size w1 wz := hby.trans hbsz
                  have hzz : w1.heap.size ≤ wz.heap.size := hbz.size
                  refine ⟨.inr (HS.out _ hbz), ?_⟩
                  simp only [Act.put, List.setIfInBounds_toArray, List.set_cons_zero, List.set_cons_succ]
                  refine T_all [18] (by kernel_rfl) (by decide) ?_
                  intro j hj
                  simp only [List.mem_cons, or_false, List.not_mem_nil] at hj
                  subst hj
                  refine T_op rfl (by rfl) (wp_calm (v := v3) (by go_simp; first | done | rfl) ⟨.inl rfl, ?_⟩)
                  simp only [Act.put, List.setIfInBounds_toArray, List.set_cons_zero, List.set_cons_succ]
                  refine T_done (by kernel_rfl) ?_
                  go_wp2_with fail
                  go_roundw
                  case rel => exact ⟨k + 1, _, rfl, by go_num, by omega, by rw [H1.out, HT.out]; exact owns_mono (owned_ins hown3 hl1 hl2) hwz1, hbw.trans (hbz.mono hwz1)⟩
                  case measure => simp [intOf]; omega
              · refine T_op rfl (by rfl) ?_
                refine wp_build1 _ 43 _ (by rfl) (.agg #[.int .i64 0, .int .i64 0, .int .i64 0, .int .i64 0, .int .i64 0, .int .i64 0, .int .i64 0]) 7 Try.underlying22 (by kernel_rfl) ⟨by decide, by decide⟩ (.agg x.arr) (by rfl) x.arr (by kernel_rfl) ?_
                intro wa hX hbswa hzswa
                have hbwa : Below w1.heap.size w1 wa := hbw1.trans (hbswa.mono hzw1)
                have hzwa : w1.heap.size ≤ wa.heap.size := hbwa.size
                refine ⟨.inr (HS.out _ hbwa), ?_⟩
                simp only [Act.put, List.setIfInBounds_toArray, List.set_cons_zero, List.set_cons_succ]
                refine T_all [0] (by kernel_rfl) (by decide) ?_
                intro j hj
                simp only [List.mem_cons, or_false, List.not_mem_nil] at hj
                subst hj
                refine T_op rfl (by rfl) ?_
                refine wp_build0 _ 43 (by rfl) 7 Try.underlying22 (by kernel_rfl) w1.heap.size hzwa ?_
                intro wb hown0 hbswb hzswb
                have hbwb : Below w1.heap.size w1 wb := hbwa.trans (hbswb.mono hzwa)
                have hzwb : w1.heap.size ≤ wb.heap.size := hbwb.size
                refine ⟨.inr (HS.out _ hbwb), ?_⟩
                simp only [Act.put, List.setIfInBounds_toArray, List.set_cons_zero, List.set_cons_succ]
                have hXb := hX.ext hbswb
                refine T_all [4] (by kernel_rfl) (by decide) ?_
                intro j hj
                simp only [List.mem_cons, or_false, List.not_mem_nil] at hj
                subst hj
                refine T_op rfl (by rfl) ?_
                refine wp_append_rd _ _ _ (by rfl) w1.heap.size 43 (.agg #[.int .i64 0, .int .i64 0, .int .i64 0, .int .i64 0, .int .i64 0, .int .i64 0, .int .i64 0]) 7 56 Try.underlying22 (by kernel_rfl) ⟨rfl, by decide⟩ _ 0 [] (by rfl) hown0 A1 m cap1 (M1.map Ord.cells) (by rfl) (HR1.out _ hbwb) ⟨by rw [List.length_map, hl1], ord_ok _⟩ hn1 ⟨by unfold maxLen; omega, by omega⟩ hzwb ?_
                intro v1 wc hown1 hbswc hzswc hkwc
                have hbwc : Below w1.heap.size w1 wc := hbwb.trans hbswc
                have hzwc : w1.heap.size ≤ wc.heap.size := hbwc.size
                refine ⟨.inr (HS.out _ hbwc), ?_⟩
                simp only [Act.put, List.setIfInBounds_toArray, List.set_cons_zero, List.set_cons_succ]
                have hXc : Blk wc w1.heap.size 43 _ := (hkwc _ (by have := hXb.lt; omega) (fun e => by simp [Value.ownBlock] at e; omega)).trans hXb
                refine T_all [13] (by kernel_rfl) (by decide) ?_
                intro j hj
                simp only [List.mem_cons, or_false, List.not_mem_nil] at hj
                subst hj
                refine T_op rfl (by rfl) ?_
                refine wp_append_rd _ _ _ (by rfl) w1.heap.size 43 (.agg #[.int .i64 0, .int .i64 0, .int .i64 0, .int .i64 0, .int .i64 0, .int .i64 0, .int .i64 0]) 7 56 Try.underlying22 (by kernel_rfl) ⟨rfl, by decide⟩ v1 (0 + m) _ (by rfl) hown1 (some ⟨w1.heap.size, 0, none⟩) 1 1 [x.cells] (by rfl) (rd_own hXc (by simp [Ord.cells]) (n := 1) (by simp [Ord.cells, Ord.arr])) ⟨rfl, by simp [Ord.cells, Value.oneCell']⟩ (fun e => by cases e) ⟨by unfold maxLen; omega, by omega⟩ hzwc ?_
                intro v2 wy hown2 hbsy hzsy hky
                have hby : Below w1.heap.size w1 wy := hbwc.trans hbsy
                have hzy : w1.heap.size ≤ wy.heap.size := hby.size
                refine ⟨.inr (HS.out _ hby), ?_⟩
                simp only [Act.put, List.setIfInBounds_toArray, List.set_cons_zero, List.set_cons_succ]
                refine T_all [17] (by kernel_rfl) (by decide) ?_
                intro j hj
                simp only [List.mem_cons, or_false, List.not_mem_nil] at hj
                subst hj
                refine T_op rfl (by rfl) ?_
                refine wp_append_rd _ _ _ (by rfl) w1.heap.size 43 (.agg #[.int .i64 0, .int .i64 0, .int .i64 0, .int .i64 0, .int .i64 0, .int .i64 0, .int .i64 0]) 7 56 Try.underlying22 (by kernel_rfl) ⟨rfl, by decide⟩ v2 (0 + m + 1) _ (by rfl) hown2 A2 (M.length - m) (cap1 - m) (M2.map Ord.cells) (by rfl) (HR2.out _ hby) ⟨by rw [List.length_map, hl2], ord_ok _⟩ hn2 ⟨by unfold maxLen; omega, by omega⟩ hzy ?_
                intro v3 wz hown3 hbsz hzsz hkz
                have hbz : Below w1.heap.size w1 wz := hby.trans hbsz
                have hzz : w1.heap.size ≤ wz.heap.size := hbz.size
                refine ⟨.inr (HS.out _ hbz), ?_⟩
                simp only [Act.put, List.setIfInBounds_toArray, List.set_cons_zero, List.set_cons_succ]
                refine T_all [18] (by kernel_rfl) (by decide) ?_
                intro j hj
                simp only [List.mem_cons, or_false, List.not_mem_nil] at hj
                subst hj
                refine T_op rfl (by rfl) (wp_calm (v := v3) (by go_simp; first | done | rfl) ⟨.inl rfl, ?_⟩)
                simp only [Act.put, List.setIfInBounds_toArray, List.set_cons_zero, List.set_cons_succ]
                refine T_done (by kernel_rfl) ?_
                go_wp2_with fail
                go_roundw
                case rel => exact ⟨k + 1, _, rfl, by go_num, by omega, by rw [H1.out, HT.out]; exact owns_mono (owned_ins hown3 hl1 hl2) hwz1, hbw.trans (hbz.mono hwz1)⟩
                case measure => simp [intOf]; omega
      · have H1 := Lib.hid ((srt_take hlt).trans (if_neg hs))
        have hne : (L[k].side == s) = false := by simpa using hs
        go_wp2_with fail
        go_roundw
        case rel => exact ⟨k + 1, _, rfl, by go_num, by omega, by rw [H1.out]; exact hown, hb⟩
        case measure => simp [intOf]; omega
    · have ht : L.take k = L := List.take_of_length_le (by omega)
      rw [ht] at hown
      go_wp2_with fail
      go_ret
      exact ⟨⟨_, rfl, hown⟩, hb⟩
end
end Rk
end Go.Proofs.Ytgaialcbpglhaaa
