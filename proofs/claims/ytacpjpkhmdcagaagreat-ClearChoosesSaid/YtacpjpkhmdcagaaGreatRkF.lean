/- This text proves the contracts of damperref13.Fits and damperref13.Room: whether there is room for an order at a price. They have no conditions but those that they state. -/
import Derived.Test.YtacpjpkhmdcagaaGreatRk
import Derived.Test.YtacpjpkhmdcagaaGreatBkPl
namespace Go.Proofs.YtacpjpkhmdcagaaGreat
set_option linter.unusedVariables false
open Go.RowKit
namespace Rk
set_option maxHeartbeats 4000000
set_option maxRecDepth 10000
open Bk (fndI dst prices sdO dst_nodup)
theorem dst_snoc (l : List Int) (p : Int) : dst (l ++ [p]) = if p ∈ dst l then dst l else dst l ++ [p] := by
  unfold dst
  rw [List.foldl_append]
  rfl
theorem prices_snoc (n : Int) (L : List Ord) (o : Ord) : prices n (L ++ [o]) = if o.side = n then prices n L ++ [o.price] else prices n L := by
  unfold prices sdO
  rw [List.filter_append]
  by_cases h : o.side = n <;> simp [h]
/-- The prices of a side, of the first k orders. -/
def prs (n : Int) (L : List Ord) (k : Nat) : List Int := dst (prices n (L.take k))
theorem prs_step {n : Int} {L : List Ord} {k : Nat} (hk : k < L.length) : prs n L (k + 1) = if L[k].side = n ∧ ¬ L[k].price ∈ prs n L k then prs n L k ++ [L[k].price] else prs n L k := by
  unfold prs
  rw [List.take_succ_eq_append_getElem hk, prices_snoc]
  by_cases h : L[k].side = n
  · rw [if_pos h, dst_snoc]
    by_cases h2 : L[k].price ∈ dst (prices n (L.take k))
    · rw [if_pos h2, if_neg (fun h3 => h3.2 h2)]
    · rw [if_neg h2, if_pos ⟨h, h2⟩]
  · rw [if_neg h, if_neg (fun h3 => h h3.1)]
theorem dst_le : ∀ (l acc : List Int), (l.foldl (fun acc p => if p ∈ acc then acc else acc ++ [p]) acc).length ≤ acc.length + l.length
  | [], acc => by simp
  | p :: l, acc => by
    rw [List.foldl_cons]
    have h := dst_le l (if p ∈ acc then acc else acc ++ [p])
    by_cases hp : p ∈ acc
    · rw [if_pos hp] at h ⊢
      simp only [List.length_cons]
      omega
    · rw [if_neg hp] at h ⊢
      simp only [List.length_append, List.length_cons, List.length_nil] at h ⊢
      omega
theorem prs_len (n : Int) (L : List Ord) (k : Nat) : (prs n L k).length ≤ k := by
  have h := dst_le (prices n (L.take k)) []
  have h2 : (prices n (L.take k)).length ≤ (L.take k).length := by
    unfold prices sdO
    rw [List.length_map]
    exact List.length_filter_le _ _
  unfold prs dst
  rw [List.length_take] at h2
  simp only [List.length_nil] at h
  omega
theorem row_cell {w : World} {B : Nat} {e : TypeId} {v : Value} {zs : List Int} (h : w.ownsRow B e 1 v zs.length (zs.map (Value.int .i64))) : ∃ A cap, v = .slice A zs.length cap ∧ ∀ k (hk : k < zs.length), ∃ g, A = some ⟨g, 0, none⟩ ∧ w.cell? ⟨g, k, none⟩ = some (.int .i64 zs[k]) := by
  rcases h.2 with ⟨h1, h0⟩ | ⟨g, cap, cur, rfl, hb, hg, h1, h2, h3, h4⟩
  · exact ⟨none, 0, by rw [h1, h0], fun k hk => by omega⟩
  · refine ⟨some ⟨g, 0, none⟩, cap, rfl, fun k hk => ⟨g, rfl, ?_⟩⟩
    rw [cell_of_row w g k cur e _ hg]
    have h5 : (cur.toList.take (zs.length * 1))[k]? = (zs.map (Value.int .i64))[k]? := by rw [h4]
    rw [List.getElem?_take_of_lt (by omega), Array.getElem?_toList] at h5
    rw [h5]
    simp [hk]
section
variable {w : World} {rb : Nat} {N most : Int} {L : List Ord} {A : Option Addr} {cap : Nat}
def anyAt (n p : Int) (L : List Ord) : Bool := L.any fun o => decide (o.side = n ∧ o.price = p)
def fitsR (most n p : Int) (L : List Ord) : Bool := anyAt n p L || decide (((dst (prices n L)).length : Int) < most)
theorem rfits_any (q : Rb w rb N most L A cap) (side p : Int) : Calls Tryz.prog 78 #[.pointer (some ⟨rb, 0, none⟩), .int .i64 side, .int .i64 p] w fun e w' => e = .returned (.bool (fitsR most side p L)) ∧ Below w.heap.size w w' := by
  have hlen := q.len
  have hrl := q.hd.lt
  have k2 : w.cell? ⟨rb, 2, none⟩ = some (.slice A L.length cap) := q.hd.cell 2
  have k1 : w.cell? ⟨rb, 1, none⟩ = some (.int .i64 most) := q.hd.cell 1
  go_enter Tryz.func78, Tryz.ntmps78
  go_wp2_with fail
  go_loopw [7, 8] (fun v i wr => ∃ (n : Nat) (vv : Value), v = vv ∧ i = .int .i64 n ∧ n ≤ L.length ∧ wr.ownsRow w.heap.size 2 1 vv (prs side L n).length ((prs side L n).map (Value.int .i64)) ∧ Below w.heap.size w wr ∧ Hid (∀ j (h : j < L.length), j < n → ¬ (L[j].side = side ∧ L[j].price = p))) (fun _ i _ => L.length - (intOf i).toNat)
  case atStart => exact ⟨0, _, rfl, rfl, Nat.zero_le _, ⟨rfl, .inl ⟨rfl, rfl⟩⟩, Below.refl _ _, Lib.hid (fun j _ h => by omega)⟩
  case round =>
    obtain ⟨n, vv, rfl, rfl, hn, hown, hb, HF⟩ := hrel
    have c2 : wr.cell? ⟨rb, 2, none⟩ = some (.slice A L.length cap) := (hb.cell (p := ⟨rb, 2, none⟩) hrl).trans k2
    have c1 : wr.cell? ⟨rb, 1, none⟩ = some (.int .i64 most) := (hb.cell (p := ⟨rb, 1, none⟩) hrl).trans k1
    obtain ⟨Ap, cp, rfl, hcells⟩ := row_cell hown
    have hpl := prs_len side L n
    by_cases hlt : n < L.length
    · have e1 : (n : Int) < (L.length : Int) := by omega
      obtain ⟨ab, ao, rfl, hr⟩ := q.at hlt
      have h2w : w.cell? ⟨ab, ao + n * 7 + 2, none⟩ = some (.int .i64 L[n].side) := hr 2 _ rfl
      have h3w : w.cell? ⟨ab, ao + n * 7 + 3, none⟩ = some (.int .i64 L[n].price) := hr 3 _ rfl
      have HST := Lib.hid (prs_step (n := side) hlt)
      have HF2 : Hid (¬ (L[n].side = side ∧ L[n].price = p) → ∀ j (h : j < L.length), j < n + 1 → ¬ (L[j].side = side ∧ L[j].price = p)) := Lib.hid (fun h j hj hjn => by
        rcases Nat.lt_or_ge j n with h4 | h4
        · exact HF.out j hj h4
        · have : j = n := by omega
          subst this
          exact h)
      have HAN : Hid (L[n].side = side ∧ L[n].price = p → fitsR most side p L = true) := Lib.hid (fun h => by
        unfold fitsR anyAt
        rw [Bool.or_eq_true, List.any_eq_true]
        exact .inl ⟨L[n], List.getElem_mem hlt, by simpa using h⟩)
      obtain ⟨x, hx⟩ : ∃ x, x = L[n] := ⟨_, rfl⟩
      rw [← hx] at h2w h3w HST HF2 HAN
      clear hx hr
      obtain ⟨P, hP⟩ : ∃ P, P = prs side L n := ⟨_, rfl⟩
      rw [← hP] at HST hown hcells hpl ⊢
      clear hP HF
      go_wp2_with fail
      obtain ⟨wo, rfl⟩ : ∃ wo : World, wo = wr := ⟨_, rfl⟩
      go_loopw [9, 10] (fun is k wk => ∃ m : Nat, is = .bool ((P.take m).any fun z => z == x.price) ∧ k = .int .i64 m ∧ m ≤ P.length ∧ Below wo.heap.size wo wk) (fun _ k _ => P.length - (intOf k).toNat)
      case atStart => exact ⟨0, rfl, rfl, Nat.zero_le _, Below.refl _ _⟩
      case round =>
        obtain ⟨m, rfl, rfl, hm, hbk⟩ := hrel
        have hbw : Below w.heap.size w wr := below_ext hb hbk
        have h3 : wr.cell? ⟨ab, ao + n * 7 + 3, none⟩ = some (.int .i64 x.price) := (hbw.cell (p := ⟨ab, ao + n * 7 + 3, none⟩) (cell_lt h3w)).trans h3w
        have c2k : wr.cell? ⟨rb, 2, none⟩ = some (.slice (some ⟨ab, ao, none⟩) L.length cap) := (hbw.cell (p := ⟨rb, 2, none⟩) hrl).trans k2
        by_cases hm2 : m < P.length
        · obtain ⟨g, rfl, hc⟩ := hcells m hm2
          have hck : wr.cell? ⟨g, m, none⟩ = some (.int .i64 P[m]) := (hbk.cell (p := ⟨g, m, none⟩) (cell_lt hc)).trans hc
          have e2 : (m : Int) < (P.length : Int) := by omega
          have l1 := cell_lt h3
          have l2 := cell_lt c2k
          have l3 := cell_lt hck
          have HTK : Hid (((P.take (m + 1)).any fun z => z == x.price) = (((P.take m).any fun z => z == x.price) || (P[m] == x.price))) := Lib.hid (by
            rw [List.take_succ_eq_append_getElem hm2, List.any_append]
            simp)
          generalize P[m] = pm at *
          generalize ((P.take m).any fun z => z == x.price) = bm at *
          clear hc hown hcells
          cases bm with
          | true =>
            go_wp2_with fail
            refine wp_region_below_lit (by kernel_rfl) (by kernel_rfl) ?_
            repeat (first | go_big_quiet_skip | (go_big_quiet_want; go_big_quiet_op; go_big_quiet_on) | (refine q_load_fld (by rfl) _ _ (by rfl) (fun _ h => h) _ _ (by rfl) ?_ ?_ ?_ ?_ ?_ ?_; rotate_left; (next => (repeat (first | (with_reducible refine BlkAt.new _ _ _ _ ?_; ((try simp) <;> omega)) | (with_reducible assumption) | (with_reducible refine Blk.at (t := ?_) ?_; rotate_left; with_reducible assumption) | with_reducible refine BlkAt.alloc ?_ _ | with_reducible refine BlkAt.drew ?_ | (with_reducible refine BlkAt.setSame ?_ _ _) | (with_reducible refine BlkAt.setCell ?_ ?_ _; rotate_left; ((try simp) <;> omega)) | (with_reducible refine BlkAt.ext (w := ?_) ?_ ?_; rotate_left 2; (with_reducible assumption)) | fail))); rotate_left; (next => first | (simp only [go_sem]; rfl) | rfl); (next => kernel_rfl); (try simp only [Act.put, List.setIfInBounds_toArray, List.set_cons_zero, List.set_cons_succ])) | (refine q_rem (by rfl) _ _ _ _ (by rfl) _ _ (by rfl) (by rfl) (by kernel_rfl) (by kernel_rfl) ?_ ?_; (next => omega); (try simp only [Act.put, List.setIfInBounds_toArray, List.set_cons_zero, List.set_cons_succ])) | (refine q_step_ex (by rfl) ?_; apply Exists.intro; refine ⟨fun W hW => ?_, ?_⟩; (next => (have hWc := fun (b o : Nat) (h : b < _) => (Ext.out hW).cell (p := ⟨b, o, none⟩) h); (try have hLK := HLK.out W (Ext.out hW)); go_simp; first | rfl | fail | fail); (try simp only [Act.put, List.setIfInBounds_toArray, List.set_cons_zero, List.set_cons_succ])) | fail)
            refine wpQuiet_nil ?_
            intro wq hbq
            go_wp2_with fail
            go_roundw
            case rel => exact ⟨m + 1, by rw [HTK.out]; rfl, by go_num, by omega, below_ext hbk hbq⟩
            case measure => (simp [intOf] <;> omega)
          | false =>
            go_wp2_with fail
            refine wp_region_below_lit (by kernel_rfl) (by kernel_rfl) ?_
            repeat (first | go_big_quiet_skip | (go_big_quiet_want; go_big_quiet_op; go_big_quiet_on) | (refine q_load_fld (by rfl) _ _ (by rfl) (fun _ h => h) _ _ (by rfl) ?_ ?_ ?_ ?_ ?_ ?_; rotate_left; (next => (repeat (first | (with_reducible refine BlkAt.new _ _ _ _ ?_; ((try simp) <;> omega)) | (with_reducible assumption) | (with_reducible refine Blk.at (t := ?_) ?_; rotate_left; with_reducible assumption) | with_reducible refine BlkAt.alloc ?_ _ | with_reducible refine BlkAt.drew ?_ | (with_reducible refine BlkAt.setSame ?_ _ _) | (with_reducible refine BlkAt.setCell ?_ ?_ _; rotate_left; ((try simp) <;> omega)) | (with_reducible refine BlkAt.ext (w := ?_) ?_ ?_; rotate_left 2; (with_reducible assumption)) | fail))); rotate_left; (next => first | (simp only [go_sem]; rfl) | rfl); (next => kernel_rfl); (try simp only [Act.put, List.setIfInBounds_toArray, List.set_cons_zero, List.set_cons_succ])) | (refine q_rem (by rfl) _ _ _ _ (by rfl) _ _ (by rfl) (by rfl) (by kernel_rfl) (by kernel_rfl) ?_ ?_; (next => omega); (try simp only [Act.put, List.setIfInBounds_toArray, List.set_cons_zero, List.set_cons_succ])) | (refine q_step_ex (by rfl) ?_; apply Exists.intro; refine ⟨fun W hW => ?_, ?_⟩; (next => (have hWc := fun (b o : Nat) (h : b < _) => (Ext.out hW).cell (p := ⟨b, o, none⟩) h); (try have hLK := HLK.out W (Ext.out hW)); go_simp; first | rfl | fail | fail); (try simp only [Act.put, List.setIfInBounds_toArray, List.set_cons_zero, List.set_cons_succ])) | fail)
            refine wpQuiet_nil ?_
            intro wq hbq
            go_wp2_with fail
            go_roundw
            case rel => exact ⟨m + 1, by rw [HTK.out]; rfl, by go_num, by omega, below_ext hbk hbq⟩
            case measure => (simp [intOf] <;> omega)
        · have hmm : m = P.length := by omega
          subst hmm
          rw [List.take_length]
          have h2 : wr.cell? ⟨ab, ao + n * 7 + 2, none⟩ = some (.int .i64 x.side) := (hbw.cell (p := ⟨ab, ao + n * 7 + 2, none⟩) (cell_lt h2w)).trans h2w
          have hab := cell_lt h2w
          have hzw := hbw.size
          have hin : (P.any fun z => z == x.price) = true ↔ x.price ∈ P := by simp
          by_cases hs : x.side = side
          · have HPt : Hid ((P.any fun z => z == x.price) = true → prs side L (n + 1) = P) := Lib.hid (fun h => by rw [HST.out, if_neg (fun h2 => h2.2 (hin.1 h))])
            have HPf : Hid ((P.any fun z => z == x.price) = false → prs side L (n + 1) = P ++ [x.price]) := Lib.hid (fun h => by rw [HST.out, if_pos ⟨hs, fun h2 => by rw [hin.2 h2] at h; cases h⟩])
            have HF3 : Hid (¬ x.price = p → ∀ j (h : j < L.length), j < n + 1 → ¬ (L[j].side = side ∧ L[j].price = p)) := Lib.hid (fun h => HF2.out (fun h2 => h h2.2))
            have HAN3 : Hid (x.price = p → fitsR most side p L = true) := Lib.hid (fun h => HAN.out ⟨hs, h⟩)
            have hw2 := h2w
            rw [hs] at hw2 h2
            have HW2 := Lib.hid hw2
            have HW3 := Lib.hid h3w
            clear hs hin HF2 HAN HST hcells hw2
            generalize ((P.any fun z => z == x.price)) = bm at *
            cases bm with
            | true =>
              clear HPf
              by_cases hp : x.price = p
              · have HA := Lib.hid (HAN3.out hp)
                rw [hp] at h3
                clear hp h3w h2w HW2 HW3
                go_wp2_with fail
                go_ret
                exact ⟨by rw [HA.out]; rfl, hbw⟩
              · have HF4 := Lib.hid (HF3.out hp)
                have hs2 : (x.price == p) = false := by simpa using hp
                clear hp HF3 HAN3
                go_wp2_with fail
                go_roundw
                case rel => exact ⟨n + 1, _, rfl, by go_num, by omega, by rw [HPt.out rfl]; exact owns_ext hown hbk, hbw, HF4⟩
                case measure => (simp [intOf] <;> omega)
            | false =>
              clear HPt
              have hHP6 : Blk (wr.alloc (.cells #[.int .i64 x.price] 2)) wr.heap.size 2 #[.int .i64 x.price] := Blk.new _ _ _ _ rfl
              have HP6 := Lib.hid (And.intro hHP6 (owns_ext (owns_ext hown hbk) (show Below wr.heap.size wr (wr.alloc (.cells #[.int .i64 x.price] 2)) from below_alloc (Below.refl _ _) _)))
              clear hHP6
              by_cases hp : x.price = p
              · have HA := Lib.hid (HAN3.out hp)
                have HW4 : Hid (w.cell? ⟨ab, ao + n * 7 + 3, none⟩ = some (.int .i64 p)) := Lib.hid (by rw [← hp]; exact HW3.out)
                clear hp h3w h2w
                go_wp2_with (first | ((with_reducible show wpList _ _ _ (⟨_, .call ⟨.builtin .append, _, _⟩, _, _, _, _⟩ :: _) _ _); refine wpList_append_rd (by rfl) _ _ _ (by rfl) w.heap.size 2 (.int .i64 0) 1 8 Tryz.underlying48 (by kernel_rfl) ⟨rfl, by decide⟩ (.slice Ap P.length cp) P.length (P.map (Value.int .i64)) (by rfl) HP6.out.2 (some ⟨wr.heap.size, 0, none⟩) 1 1 [[.int .i64 x.price]] (by rfl) ?_ ⟨rfl, ?_⟩ (by simp) ⟨by unfold maxLen; omega, by omega⟩ ?_ ?_; (next => exact rd_own HP6.out.1 (fun r hr => by rw [List.mem_singleton.1 hr]; rfl) (n := 1) (by rfl)); (next => exact fun r hr => by rw [List.mem_singleton.1 hr]; exact ⟨rfl, by simp [Value.oneCell']⟩); (next => simp only [sz_alloc]; omega); intro v7 w7 hown7 hb7 hz7 hk7; have hb07 : Below w.heap.size w w7 := (below_ext hbw (below_alloc (Below.refl _ _) _)).trans hb7; have c27 : w7.cell? ⟨rb, 2, none⟩ = some (.slice (some ⟨ab, ao, none⟩) L.length cap) := (hb07.cell (p := ⟨rb, 2, none⟩) hrl).trans k2; have h27 : w7.cell? ⟨ab, ao + n * 7 + 2, none⟩ = some (.int .i64 side) := (hb07.cell (p := ⟨ab, ao + n * 7 + 2, none⟩) hab).trans HW2.out; have h37 : w7.cell? ⟨ab, ao + n * 7 + 3, none⟩ = some (.int .i64 p) := (hb07.cell (p := ⟨ab, ao + n * 7 + 3, none⟩) hab).trans HW4.out) | fail)
                go_ret
                exact ⟨by rw [HA.out]; rfl, hb07⟩
              · have HF4 := Lib.hid (HF3.out hp)
                have hs2 : (x.price == p) = false := by simpa using hp
                clear hp HF3 HAN3
                go_wp2_with (first | ((with_reducible show wpList _ _ _ (⟨_, .call ⟨.builtin .append, _, _⟩, _, _, _, _⟩ :: _) _ _); refine wpList_append_rd (by rfl) _ _ _ (by rfl) w.heap.size 2 (.int .i64 0) 1 8 Tryz.underlying48 (by kernel_rfl) ⟨rfl, by decide⟩ (.slice Ap P.length cp) P.length (P.map (Value.int .i64)) (by rfl) HP6.out.2 (some ⟨wr.heap.size, 0, none⟩) 1 1 [[.int .i64 x.price]] (by rfl) ?_ ⟨rfl, ?_⟩ (by simp) ⟨by unfold maxLen; omega, by omega⟩ ?_ ?_; (next => exact rd_own HP6.out.1 (fun r hr => by rw [List.mem_singleton.1 hr]; rfl) (n := 1) (by rfl)); (next => exact fun r hr => by rw [List.mem_singleton.1 hr]; exact ⟨rfl, by simp [Value.oneCell']⟩); (next => simp only [sz_alloc]; omega); intro v7 w7 hown7 hb7 hz7 hk7; have hb07 : Below w.heap.size w w7 := (below_ext hbw (below_alloc (Below.refl _ _) _)).trans hb7; have c27 : w7.cell? ⟨rb, 2, none⟩ = some (.slice (some ⟨ab, ao, none⟩) L.length cap) := (hb07.cell (p := ⟨rb, 2, none⟩) hrl).trans k2; have h27 : w7.cell? ⟨ab, ao + n * 7 + 2, none⟩ = some (.int .i64 side) := (hb07.cell (p := ⟨ab, ao + n * 7 + 2, none⟩) hab).trans HW2.out; have h37 : w7.cell? ⟨ab, ao + n * 7 + 3, none⟩ = some (.int .i64 x.price) := (hb07.cell (p := ⟨ab, ao + n * 7 + 3, none⟩) hab).trans HW3.out) | fail)
                go_roundw
                case rel => exact ⟨n + 1, _, rfl, by go_num, by omega, by rw [HPf.out rfl, List.length_append, List.map_append]; exact hown7, hb07, HF4⟩
                case measure => (simp [intOf] <;> omega)
          · have HPn : Hid (prs side L (n + 1) = P) := Lib.hid (by rw [HST.out, if_neg (fun h => hs h.1)])
            have HF4 := Lib.hid (HF2.out (fun h => hs h.1))
            have hs2 : (x.side == side) = false := by simpa using hs
            clear hs HF2 HAN HST hcells hin
            generalize ((P.any fun z => z == x.price)) = bm at *
            go_wp2_with fail
            go_roundw
            case rel => exact ⟨n + 1, _, rfl, by go_num, by omega, by rw [HPn.out]; exact owns_ext hown hbk, hbw, HF4⟩
            case measure => (simp [intOf] <;> omega)
    · have hnn : n = L.length := by omega
      subst hnn
      have hp : prs side L L.length = dst (prices side L) := by unfold prs; rw [List.take_length]
      have ha : anyAt side p L = false := by
        unfold anyAt
        rw [List.any_eq_false]
        intro o ho
        obtain ⟨j, hj, rfl⟩ := List.mem_iff_getElem.1 ho
        simpa using fun h1 h2 => HF.out j hj hj ⟨h1, h2⟩
      have HA : Hid (fitsR most side p L = decide (((prs side L L.length).length : Int) < most)) := Lib.hid (by unfold fitsR; rw [ha, hp]; rfl)
      clear hp ha HF hown hcells
      generalize (prs side L L.length).length = pl at *
      go_wp2_with fail
      go_ret
      exact ⟨by rw [HA.out]; rfl, hb⟩
def roomR (N most n p : Int) (L : List Ord) : Bool := decide ((L.length : Int) < N) && fitsR most n p L
theorem rroom_any (q : Rb w rb N most L A cap) (side p : Int) : Calls Tryz.prog 55 #[.pointer (some ⟨rb, 0, none⟩), .int .i64 side, .int .i64 p] w fun e w' => e = .returned (.bool (roomR N most side p L)) ∧ Below w.heap.size w w' := by
  have hlen := q.len
  have hrl := q.hd.lt
  have c2 : w.cell? ⟨rb, 2, none⟩ = some (.slice A L.length cap) := q.hd.cell 2
  have c0 : w.cell? ⟨rb, 0, none⟩ = some (.int .i64 N) := q.hd.cell 0
  have HF := Lib.hid (fun W (hW : Below w.heap.size w W) => rfits_any (q.ext hW) side p)
  generalize hf : fitsR most side p L = f at *
  by_cases h : (L.length : Int) < N
  · have HR : Hid (roomR N most side p L = f) := Lib.hid (by unfold roomR; rw [decide_eq_true h, hf]; rfl)
    have hp0 : decide ((L.length : Int) < N) = true := decide_eq_true h
    clear hf h
    go_enter Tryz.func55, Tryz.ntmps55
    go_wp2_with fail
    refine wp_region_below_lit (by kernel_rfl) (by kernel_rfl) ?_
    repeat (first | go_big_quiet_skip | ((with_reducible show wpQuiet _ _ _ _ (⟨_, .binOp .lss 3 _ _ _, _, _, _, _⟩ :: _) _); refine Bk.q_lti (by rfl) _ _ _ (by rfl) _ _ (by rfl) (by rfl) _ hp0 ?_; (try simp only [Act.put, List.setIfInBounds_toArray, List.set_cons_zero, List.set_cons_succ])) | (go_big_quiet_want; go_big_quiet_op; go_big_quiet_on) | (refine q_load_fld (by rfl) _ _ (by rfl) (fun _ h => h) _ _ (by rfl) ?_ ?_ ?_ ?_ ?_ ?_; rotate_left; (next => (repeat (first | (with_reducible refine BlkAt.new _ _ _ _ ?_; ((try simp) <;> omega)) | (with_reducible assumption) | (with_reducible refine Blk.at (t := ?_) ?_; rotate_left; with_reducible assumption) | with_reducible refine BlkAt.alloc ?_ _ | with_reducible refine BlkAt.drew ?_ | (with_reducible refine BlkAt.setSame ?_ _ _) | (with_reducible refine BlkAt.setCell ?_ ?_ _; rotate_left; ((try simp) <;> omega)) | (with_reducible refine BlkAt.ext (w := ?_) ?_ ?_; rotate_left 2; (with_reducible assumption)) | fail))); rotate_left; (next => first | (simp only [go_sem]; rfl) | rfl); (next => kernel_rfl); (try simp only [Act.put, List.setIfInBounds_toArray, List.set_cons_zero, List.set_cons_succ])) | (refine q_rem (by rfl) _ _ _ _ (by rfl) _ _ (by rfl) (by rfl) (by kernel_rfl) (by kernel_rfl) ?_ ?_; (next => omega); (try simp only [Act.put, List.setIfInBounds_toArray, List.set_cons_zero, List.set_cons_succ])) | (refine q_step_ex (by rfl) ?_; apply Exists.intro; refine ⟨fun W hW => ?_, ?_⟩; (next => (have hWc := fun (b o : Nat) (h : b < _) => (Ext.out hW).cell (p := ⟨b, o, none⟩) h); (try have hLK := HLK.out W (Ext.out hW)); go_simp; first | rfl | (go_at_call 78; refine (HF.out _ hW).mono ?_; rintro e w'' ⟨rfl, hb2⟩; exact ⟨rfl, below_ext hW hb2⟩) | fail); (try simp only [Act.put, List.setIfInBounds_toArray, List.set_cons_zero, List.set_cons_succ])) | fail)
    refine wpQuiet_nil ?_
    intro wq hbq
    go_wp2_with fail
    go_ret
    exact ⟨by rw [HR.out]; rfl, hbq⟩
  · have HR : Hid (roomR N most side p L = false) := Lib.hid (by unfold roomR; rw [decide_eq_false h]; rfl)
    have hp0 : decide ((L.length : Int) < N) = false := decide_eq_false h
    clear hf h
    go_enter Tryz.func55, Tryz.ntmps55
    go_wp2_with fail
    refine wp_region_below_lit (by kernel_rfl) (by kernel_rfl) ?_
    repeat (first | go_big_quiet_skip | ((with_reducible show wpQuiet _ _ _ _ (⟨_, .binOp .lss 3 _ _ _, _, _, _, _⟩ :: _) _); refine Bk.q_lti (by rfl) _ _ _ (by rfl) _ _ (by rfl) (by rfl) _ hp0 ?_; (try simp only [Act.put, List.setIfInBounds_toArray, List.set_cons_zero, List.set_cons_succ])) | (go_big_quiet_want; go_big_quiet_op; go_big_quiet_on) | (refine q_load_fld (by rfl) _ _ (by rfl) (fun _ h => h) _ _ (by rfl) ?_ ?_ ?_ ?_ ?_ ?_; rotate_left; (next => (repeat (first | (with_reducible refine BlkAt.new _ _ _ _ ?_; ((try simp) <;> omega)) | (with_reducible assumption) | (with_reducible refine Blk.at (t := ?_) ?_; rotate_left; with_reducible assumption) | with_reducible refine BlkAt.alloc ?_ _ | with_reducible refine BlkAt.drew ?_ | (with_reducible refine BlkAt.setSame ?_ _ _) | (with_reducible refine BlkAt.setCell ?_ ?_ _; rotate_left; ((try simp) <;> omega)) | (with_reducible refine BlkAt.ext (w := ?_) ?_ ?_; rotate_left 2; (with_reducible assumption)) | fail))); rotate_left; (next => first | (simp only [go_sem]; rfl) | rfl); (next => kernel_rfl); (try simp only [Act.put, List.setIfInBounds_toArray, List.set_cons_zero, List.set_cons_succ])) | (refine q_rem (by rfl) _ _ _ _ (by rfl) _ _ (by rfl) (by rfl) (by kernel_rfl) (by kernel_rfl) ?_ ?_; (next => omega); (try simp only [Act.put, List.setIfInBounds_toArray, List.set_cons_zero, List.set_cons_succ])) | (refine q_step_ex (by rfl) ?_; apply Exists.intro; refine ⟨fun W hW => ?_, ?_⟩; (next => (have hWc := fun (b o : Nat) (h : b < _) => (Ext.out hW).cell (p := ⟨b, o, none⟩) h); (try have hLK := HLK.out W (Ext.out hW)); go_simp; first | rfl | fail | fail); (try simp only [Act.put, List.setIfInBounds_toArray, List.set_cons_zero, List.set_cons_succ])) | fail)
    refine wpQuiet_nil ?_
    intro wq hbq
    go_wp2_with fail
    go_ret
    exact ⟨by rw [HR.out]; rfl, hbq⟩
end
end Rk
end Go.Proofs.YtacpjpkhmdcagaaGreat
