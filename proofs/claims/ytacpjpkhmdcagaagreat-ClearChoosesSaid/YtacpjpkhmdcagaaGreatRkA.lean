/- This text proves the contract of damperref13.Add. It has no conditions but those that it states. -/
import Derived.Test.YtacpjpkhmdcagaaGreatRkF
import Derived.Test.YtacpjpkhmdcagaaGreatBkAdd
namespace Go.Proofs.YtacpjpkhmdcagaaGreat
set_option linter.unusedVariables false
open Go.RowKit
namespace Rk
set_option maxHeartbeats 4000000
set_option maxRecDepth 10000
open Bk (fndI sided inRng addF addO roomO fitsO dst prices)
theorem rsided_any (i : Int) (w : World) : Calls Tryz.prog 53 #[.int .i64 i] w fun e w' => e = .returned (.bool (sided i)) ∧ w = w' := by
  unfold sided
  by_cases h0 : i = 0
  · subst h0
    go_enter Tryz.func53, Tryz.ntmps53
    go_wp2_with fail
    go_ret
    exact ⟨rfl, rfl⟩
  · by_cases h1 : i = 1
    · subst h1
      go_enter Tryz.func53, Tryz.ntmps53
      go_wp2_with fail
      go_ret
      exact ⟨rfl, rfl⟩
    · have HD : Hid (decide (i = 0 ∨ i = 1) = false) := Lib.hid (decide_eq_false (by omega))
      have e0 : (i == 0) = false := by simpa using h0
      have e1 : (i == 1) = false := by simpa using h1
      clear h0 h1
      go_enter Tryz.func53, Tryz.ntmps53
      go_wp2_with fail
      go_ret
      exact ⟨by rw [HD.out]; rfl, rfl⟩
section
variable {w : World} {rb N most : Nat} {L : List Ord} {A : Option Addr} {cap : Nat}
theorem room_eq {n p : Int} (h : sided n = true) : roomR (N : Int) (most : Int) n p L = roomO N most n p L := by
  unfold roomR fitsR anyAt roomO fitsO
  unfold sided at h
  rw [h, Bool.true_and, Bool.and_comm]
  congr 1
  · congr 1
    exact decide_eq_decide.2 (by omega)
  · exact decide_eq_decide.2 (by omega)
theorem plc_some {id : Int} : (0 ≤ plcI id L ↔ (fndI id L).isSome = true) := by
  unfold plcI
  by_cases h : idxI id L < L.length
  · rw [if_pos h, fnd_yes h]
    simp
  · rw [if_neg h, fnd_no h]
    simp
/-- What is refused changes nothing. -/
theorem radd_no (q : Rb w rb (N : Int) (most : Int) L A cap) (o : Ord) (h : addF N most L o ≠ 0) : Calls Tryz.prog 25 #[.pointer (some ⟨rb, 0, none⟩), .agg o.arr] w fun e w' => e = .returned (.int .i64 (addF N most L o)) ∧ Below w.heap.size w w' := by
  have hO : Blk (w.alloc (.cells o.arr 52)) w.heap.size 52 o.arr := Blk.new _ _ _ _ rfl
  have hb0 : Below w.heap.size w (w.alloc (.cells o.arr 52)) := by (repeat (first | with_reducible exact Below.refl _ _ | (with_reducible assumption) | (with_reducible refine below_alloc ?_ _) | (with_reducible refine below_ext (w1 := ?_) ?_ ?_; rotate_left 2; (with_reducible assumption)) | (with_reducible refine Below.setCell ?_ ?_ _; rotate_left; ((try simp) <;> omega)) | (with_reducible refine Below.drew ?_) | (with_reducible refine below_drewN ?_ _) | fail))
  have c0 : (w.alloc (.cells o.arr 52)).cell? ⟨w.heap.size, 0, none⟩ = some (.int .i64 o.id) := hO.cell 0
  have c2 : (w.alloc (.cells o.arr 52)).cell? ⟨w.heap.size, 2, none⟩ = some (.int .i64 o.side) := hO.cell 2
  have c3 : (w.alloc (.cells o.arr 52)).cell? ⟨w.heap.size, 3, none⟩ = some (.int .i64 o.price) := hO.cell 3
  have c4 : (w.alloc (.cells o.arr 52)).cell? ⟨w.heap.size, 4, none⟩ = some (.int .i64 o.qty) := hO.cell 4
  have HS := rsided_any o.side
  have HF := Lib.hid (rfind_any (q.ext hb0) o.id)
  have HR := Lib.hid (rroom_any (q.ext hb0) o.side o.price)
  clear hO
  unfold addF at h ⊢
  cases h1 : sided o.side with
  | false =>
    rw [h1] at HS
    have HS := Lib.hid HS
    rw [if_pos rfl]
    clear h h1 hb0
    go_enter Tryz.func25, Tryz.ntmps25
    go_wp2_with (first | (go_at_call 53; refine (HS.out _).mono ?_; rintro e w1 ⟨rfl, rfl⟩) | fail)
    go_ret
    exact ⟨rfl, by (repeat (first | with_reducible exact Below.refl _ _ | (with_reducible assumption) | (with_reducible refine below_alloc ?_ _) | (with_reducible refine below_ext (w1 := ?_) ?_ ?_; rotate_left 2; (with_reducible assumption)) | (with_reducible refine Below.setCell ?_ ?_ _; rotate_left; ((try simp) <;> omega)) | (with_reducible refine Below.drew ?_) | (with_reducible refine below_drewN ?_ _) | fail))⟩
  | true =>
    rw [h1] at HS
    have HS := Lib.hid HS
    rw [h1, if_neg (by decide)] at h
    rw [if_neg (by decide)]
    cases h2 : inRng o with
    | false =>
      rw [if_pos rfl]
      unfold inRng at h2
      rw [decide_eq_false_iff_not] at h2
      clear h h1 hb0
      by_cases p1 : o.price < 1
      · clear h2
        go_enter Tryz.func25, Tryz.ntmps25
        go_wp2_with (first | (go_at_call 53; refine (HS.out _).mono ?_; rintro e w1 ⟨rfl, rfl⟩) | fail)
        go_ret
        exact ⟨rfl, by (repeat (first | with_reducible exact Below.refl _ _ | (with_reducible assumption) | (with_reducible refine below_alloc ?_ _) | (with_reducible refine below_ext (w1 := ?_) ?_ ?_; rotate_left 2; (with_reducible assumption)) | (with_reducible refine Below.setCell ?_ ?_ _; rotate_left; ((try simp) <;> omega)) | (with_reducible refine Below.drew ?_) | (with_reducible refine below_drewN ?_ _) | fail))⟩
      by_cases p2 : 1099511627776 < o.price
      · clear h2
        go_enter Tryz.func25, Tryz.ntmps25
        go_wp2_with (first | (go_at_call 53; refine (HS.out _).mono ?_; rintro e w1 ⟨rfl, rfl⟩) | fail)
        go_ret
        exact ⟨rfl, by (repeat (first | with_reducible exact Below.refl _ _ | (with_reducible assumption) | (with_reducible refine below_alloc ?_ _) | (with_reducible refine below_ext (w1 := ?_) ?_ ?_; rotate_left 2; (with_reducible assumption)) | (with_reducible refine Below.setCell ?_ ?_ _; rotate_left; ((try simp) <;> omega)) | (with_reducible refine Below.drew ?_) | (with_reducible refine below_drewN ?_ _) | fail))⟩
      by_cases p3 : o.qty < 1
      · clear h2
        go_enter Tryz.func25, Tryz.ntmps25
        go_wp2_with (first | (go_at_call 53; refine (HS.out _).mono ?_; rintro e w1 ⟨rfl, rfl⟩) | fail)
        go_ret
        exact ⟨rfl, by (repeat (first | with_reducible exact Below.refl _ _ | (with_reducible assumption) | (with_reducible refine below_alloc ?_ _) | (with_reducible refine below_ext (w1 := ?_) ?_ ?_; rotate_left 2; (with_reducible assumption)) | (with_reducible refine Below.setCell ?_ ?_ _; rotate_left; ((try simp) <;> omega)) | (with_reducible refine Below.drew ?_) | (with_reducible refine below_drewN ?_ _) | fail))⟩
      · have p4 : 4294967296 < o.qty := by omega
        clear h2
        go_enter Tryz.func25, Tryz.ntmps25
        go_wp2_with (first | (go_at_call 53; refine (HS.out _).mono ?_; rintro e w1 ⟨rfl, rfl⟩) | fail)
        go_ret
        exact ⟨rfl, by (repeat (first | with_reducible exact Below.refl _ _ | (with_reducible assumption) | (with_reducible refine below_alloc ?_ _) | (with_reducible refine below_ext (w1 := ?_) ?_ ?_; rotate_left 2; (with_reducible assumption)) | (with_reducible refine Below.setCell ?_ ?_ _; rotate_left; ((try simp) <;> omega)) | (with_reducible refine Below.drew ?_) | (with_reducible refine below_drewN ?_ _) | fail))⟩
    | true =>
      rw [h2, if_neg (by decide)] at h
      rw [if_neg (by decide)]
      unfold inRng at h2
      rw [decide_eq_true_eq] at h2
      obtain ⟨⟨p1, p2⟩, p3, p4⟩ := h2
      cases h3 : (fndI o.id L).isSome with
      | true =>
        rw [if_pos rfl]
        have hp := plc_some.2 h3
        generalize plcI o.id L = pl at *
        clear h h1 h3 hb0
        go_enter Tryz.func25, Tryz.ntmps25
        go_wp2_with (first | (go_at_call 53; refine (HS.out _).mono ?_; rintro e w1 ⟨rfl, rfl⟩) | (go_at_call 54; refine HF.out.mono ?_; rintro e w1 ⟨rfl, rfl⟩) | fail)
        go_ret
        exact ⟨rfl, by (repeat (first | with_reducible exact Below.refl _ _ | (with_reducible assumption) | (with_reducible refine below_alloc ?_ _) | (with_reducible refine below_ext (w1 := ?_) ?_ ?_; rotate_left 2; (with_reducible assumption)) | (with_reducible refine Below.setCell ?_ ?_ _; rotate_left; ((try simp) <;> omega)) | (with_reducible refine Below.drew ?_) | (with_reducible refine below_drewN ?_ _) | fail))⟩
      | false =>
        rw [h3, if_neg (by decide)] at h
        rw [if_neg (by decide)]
        have hp : plcI o.id L < 0 := by
          have h4 := fun h5 => (plc_some (L := L) (id := o.id)).1 h5
          rw [h3] at h4
          have : ¬ 0 ≤ plcI o.id L := fun h5 => by cases h4 h5
          omega
        rw [room_eq h1] at HR
        cases h4 : roomO N most o.side o.price L with
        | true => rw [h4] at h; simp at h
        | false =>
          rw [h4] at HR
          rw [if_pos rfl]
          generalize plcI o.id L = pl at *
          clear h h1 h3 h4 hb0
          go_enter Tryz.func25, Tryz.ntmps25
          go_wp2_with (first | (go_at_call 53; refine (HS.out _).mono ?_; rintro e w1 ⟨rfl, rfl⟩) | (go_at_call 54; refine HF.out.mono ?_; rintro e w1 ⟨rfl, rfl⟩) | (go_at_call 55; refine HR.out.mono ?_; rintro e w1 ⟨rfl, hb1⟩) | fail)
          go_ret
          exact ⟨rfl, by (repeat (first | with_reducible exact Below.refl _ _ | (with_reducible assumption) | (with_reducible refine below_alloc ?_ _) | (with_reducible refine below_ext (w1 := ?_) ?_ ?_; rotate_left 2; (with_reducible assumption)) | (with_reducible refine Below.setCell ?_ ?_ _; rotate_left; ((try simp) <;> omega)) | (with_reducible refine Below.drew ?_) | (with_reducible refine below_drewN ?_ _) | fail))⟩
theorem owns_o7 {w : World} {B : Nat} {v : Value} {l : List Ord} (h : w.ownsRow B 52 7 v l.length (flatO l)) : ∃ A cap, v = .slice A l.length cap ∧ Rd w 7 A (l.map Ord.cells) ∧ l.length ≤ cap ∧ (A = none → cap = 0) ∧ ∀ a, A = some a → B ≤ a.block ∧ a.block < w.heap.size := by
  rcases h.2 with ⟨rfl, h0⟩ | ⟨g, cap, cur, rfl, hb, hg, hc, _, _, ht⟩
  · rw [h0]
    have : l = [] := List.eq_nil_of_length_eq_zero h0
    subst this
    exact ⟨none, 0, rfl, fun hne => absurd rfl hne, Nat.le_refl _, fun _ => rfl, fun a e => by cases e⟩
  · refine ⟨some ⟨g, 0, none⟩, cap, rfl, rd_own (show Blk w g 52 cur from hg) (n := l.length) (fun r hr => ?_) ht, hc, (fun e => by cases e), fun a e => ?_⟩
    · exact (ord_ok l r hr).1
    · cases e
      exact ⟨hb, heap_lt hg⟩
theorem owns_cellsO {W : World} {B : Nat} {e : TypeId} {size n : Nat} {v : Value} {xs : List Value} (h : W.ownsRow B e size v n xs) : v.cells = #[v] ∧ v.oneCell' = true := by
  rcases h.2 with ⟨rfl, _⟩ | ⟨g, cap, cur, rfl, _⟩ <;> exact ⟨rfl, rfl⟩
theorem wp_calm {P : Program} {o : Oper} {a : Act} {w : World} {K : Act → World → Prop} {Q : Exit → Act → World → Prop} {v : Value} (hx : (execOp a.eval o).run P w = .ok (.value v) w) (h : K (a.put o.dst v) w) : o.wp P a w K Q := by
  unfold Oper.wp
  rw [hx, Oper.upon_value]
  exact h
def SA (rb : Nat) (A : Option Addr) (n cap ob : Nat) (o : Ord) (W : World) : Prop := W.cell? ⟨rb, 2, none⟩ = some (.slice A n cap) ∧ (W.cell? ⟨ob, 0, none⟩ = some (.int .i64 o.id) ∧ W.cell? ⟨ob, 1, none⟩ = some (.int .i64 o.owner) ∧ W.cell? ⟨ob, 2, none⟩ = some (.int .i64 o.side) ∧ W.cell? ⟨ob, 3, none⟩ = some (.int .i64 o.price) ∧ W.cell? ⟨ob, 4, none⟩ = some (.int .i64 o.qty) ∧ W.cell? ⟨ob, 5, none⟩ = some (.int .i64 o.flags) ∧ W.cell? ⟨ob, 6, none⟩ = some (.int .i64 o.seq))
theorem radd_ok (q : Rb w rb (N : Int) (most : Int) L A cap) (o : Ord) (hl : L.length < 1000) (h : addF N most L o = 0) : Calls Tryz.prog 25 #[.pointer (some ⟨rb, 0, none⟩), .agg o.arr] w fun e w' => e = .returned (.int .i64 0) ∧ (∃ A' cap', Rb w' rb (N : Int) (most : Int) (L ++ [o]) A' cap' ∧ ∀ a, A' = some a → w.heap.size ≤ a.block) ∧ ButL [rb] w.heap.size w w' := by
  have hO : Blk (w.alloc (.cells o.arr 52)) w.heap.size 52 o.arr := Blk.new _ _ _ _ rfl
  have hb0 : Below w.heap.size w (w.alloc (.cells o.arr 52)) := by (repeat (first | with_reducible exact Below.refl _ _ | (with_reducible assumption) | (with_reducible refine below_alloc ?_ _) | (with_reducible refine below_ext (w1 := ?_) ?_ ?_; rotate_left 2; (with_reducible assumption)) | (with_reducible refine Below.setCell ?_ ?_ _; rotate_left; ((try simp) <;> omega)) | (with_reducible refine Below.drew ?_) | (with_reducible refine below_drewN ?_ _) | fail))
  have HS := rsided_any o.side
  have HF := Lib.hid (rfind_any (q.ext hb0) o.id)
  have HR := Lib.hid (rroom_any (q.ext hb0) o.side o.price)
  unfold addF at h
  have h1 : sided o.side = true := by
    cases h1 : sided o.side with
    | true => rfl
    | false => rw [h1, if_pos rfl] at h; cases h
  rw [h1] at HS
  rw [h1, if_neg (by decide)] at h
  have HS := Lib.hid HS
  have h2 : inRng o = true := by
    cases h2 : inRng o with
    | true => rfl
    | false => rw [h2, if_pos rfl] at h; cases h
  rw [h2, if_neg (by decide)] at h
  unfold inRng at h2
  rw [decide_eq_true_eq] at h2
  obtain ⟨⟨p1, p2⟩, p3, p4⟩ := h2
  have h3 : (fndI o.id L).isSome = false := by
    cases h3 : (fndI o.id L).isSome with
    | false => rfl
    | true => rw [h3, if_pos rfl] at h; cases h
  rw [h3, if_neg (by decide)] at h
  have h4 : roomO N most o.side o.price L = true := by
    cases h4 : roomO N most o.side o.price L with
    | true => rfl
    | false => rw [h4, if_pos rfl] at h; cases h
  rw [room_eq h1, h4] at HR
  have hp : plcI o.id L < 0 := by
    have h4 := fun h5 => (plc_some (L := L) (id := o.id)).1 h5
    rw [h3] at h4
    have : ¬ 0 ≤ plcI o.id L := fun h5 => by cases h4 h5
    omega
  generalize plcI o.id L = pl at *
  have c0 : (w.alloc (.cells o.arr 52)).cell? ⟨w.heap.size, 0, none⟩ = some (.int .i64 o.id) := hO.cell 0
  have c2 : (w.alloc (.cells o.arr 52)).cell? ⟨w.heap.size, 2, none⟩ = some (.int .i64 o.side) := hO.cell 2
  have c3 : (w.alloc (.cells o.arr 52)).cell? ⟨w.heap.size, 3, none⟩ = some (.int .i64 o.price) := hO.cell 3
  have c4 : (w.alloc (.cells o.arr 52)).cell? ⟨w.heap.size, 4, none⟩ = some (.int .i64 o.qty) := hO.cell 4
  clear h h1 h3 h4
  have HO := Lib.hid hO
  have HB0 := Lib.hid hb0
  clear hO hb0
  go_enter Tryz.func25, Tryz.ntmps25
  go_wp2_with (first | (go_at_call 53; refine (HS.out _).mono ?_; rintro e w1 ⟨rfl, rfl⟩) | (go_at_call 54; refine HF.out.mono ?_; rintro e w1 ⟨rfl, rfl⟩) | (go_at_call 55; refine HR.out.mono ?_; rintro e w4 ⟨rfl, hb4⟩) | fail)
  have hbw4 := below_ext HB0.out hb4
  have hO4 := HO.out.ext hb4
  have q4 := q.ext hbw4
  clear c0 c2 c3 c4 HO HB0 hb4 HS HF HR
  generalize hob : w.heap.size = ob at *
  refine wp_region_T (S := SA rb A L.length cap ob o) 12 (by kernel_rfl) ?_
  have hbd : Below w4.heap.size w4 w4.drew := (Below.refl _ _).drew
  have qd := q4.ext hbd
  have hOd := hO4.ext hbd
  have hbwd : Below w.heap.size w w4.drew := by rw [hob]; exact hbw4.trans (hbd.mono (by have := hbw4.size; omega))
  generalize w4.drew = w1 at qd hOd hbwd ⊢
  clear hbd hbw4 q4 hO4
  have HS : Hid (∀ W, Below w1.heap.size w1 W → SA rb A L.length cap ob o W) := Lib.hid (fun W hW => by
    have h1 := (qd.ext hW).hd
    have h2 := hOd.ext hW
    exact ⟨h1.cell 2, h2.cell 0, h2.cell 1, h2.cell 2, h2.cell 3, h2.cell 4, h2.cell 5, h2.cell 6⟩)
  have hrd := qd.rd
  have hnil := qd.nil
  have hd0 := qd.hd
  have hlt := q.hd.lt
  have hln : (L ++ [o]).length ≤ 1000 := by simp; omega
  have HFIN : Hid (∀ (v2 : Value) (W w6 : World), W.ownsRow w1.heap.size 52 7 v2 (0 + L.length + 1) (([] ++ (L.map Ord.cells).flatten) ++ [o.cells].flatten) → Below w1.heap.size w1 W → Blk w6 rb 76 (#[.int .i64 N, .int .i64 most, .slice A L.length cap].setIfInBounds 2 v2) → Upd rb W w6 → Ending.returned (.int .i64 0) = .returned (.int .i64 0) ∧ (∃ A' cap', Rb w6 rb (N : Int) (most : Int) (L ++ [o]) A' cap' ∧ ∀ a, A' = some a → ob ≤ a.block) ∧ ButL [rb] ob w w6) := Lib.hid (fun v2 W w6 hown hbW hst hus => by
    have e1 : (L ++ [o]).length = 0 + L.length + 1 := by simp
    have e2 : flatO (L ++ [o]) = ([] ++ (L.map Ord.cells).flatten) ++ [o.cells].flatten := by simp [flatO]
    rw [← e1, ← e2] at hown
    obtain ⟨A', cap', rfl, k1, k2, k3, k4⟩ := owns_o7 hown
    have hz1 := hbwd.size
    refine ⟨rfl, ⟨A', cap', ⟨hst, k1.keep (fun a e => hus.block _ (by have := (k4 a e).1; omega)), k2, k3, fun a e => by have := k4 a e; have := hus.size; omega, hln⟩, fun a e => by have := (k4 a e).1; omega⟩, ?_⟩
    rw [← hob]
    exact (ButL.of_below (hbwd.trans (hbW.mono hz1))).upd (by simp) hus)
  have hlen := q.len
  have hmap : (L.map Ord.cells).length = L.length := List.length_map _
  have hrl1 := hd0.lt
  have hol1 := hOd.lt
  have hbw1 : Below w1.heap.size w1 w1 := Below.refl _ _
  have hzw1 : w1.heap.size ≤ w1.heap.size := Nat.le_refl _
  clear qd hOd hbwd q hlt hln
  generalize L.length = n at *
  have hS := HS.out _ hbw1
  (refine T_take (i := 0) rfl (by kernel_rfl) (fun _ _ _ _ h => h) hS ?_; apply Exists.intro; refine ⟨.inl ⟨by rfl, fun W hW => ?_⟩, ?_⟩; (next => (obtain ⟨hs1, hs2⟩ := hW; go_simp; first | done | rfl)); simp only [Act.put, List.setIfInBounds_toArray, List.set_cons_zero, List.set_cons_succ])
  (refine T_take (i := 2) rfl (by kernel_rfl) (fun _ _ _ _ h => h) hS ?_; apply Exists.intro; refine ⟨.inl ⟨by rfl, fun W hW => ?_⟩, ?_⟩; (next => (obtain ⟨hs1, hs2⟩ := hW; go_simp; first | done | rfl)); simp only [Act.put, List.setIfInBounds_toArray, List.set_cons_zero, List.set_cons_succ])
  (refine T_take (i := 3) rfl (by kernel_rfl) (fun _ _ _ _ h => h) hS ?_; apply Exists.intro; refine ⟨.inl ⟨by rfl, fun W hW => ?_⟩, ?_⟩; (next => (obtain ⟨hs1, hs2⟩ := hW; go_simp; first | done | rfl)); simp only [Act.put, List.setIfInBounds_toArray, List.set_cons_zero, List.set_cons_succ])
  (refine T_take (i := 4) rfl (by kernel_rfl) (fun _ _ _ _ h => h) hS ?_; apply Exists.intro; refine ⟨.inl ⟨by rfl, fun W hW => ?_⟩, ?_⟩; (next => (obtain ⟨hs1, hs2⟩ := hW; go_simp; first | done | rfl)); simp only [Act.put, List.setIfInBounds_toArray, List.set_cons_zero, List.set_cons_succ])
  (refine T_take (i := 5) rfl (by kernel_rfl) (fun _ _ _ _ h => h) hS ?_; apply Exists.intro; refine ⟨.inl ⟨by rfl, fun W hW => ?_⟩, ?_⟩; (next => (obtain ⟨hs1, hs2⟩ := hW; go_simp; first | done | rfl)); simp only [Act.put, List.setIfInBounds_toArray, List.set_cons_zero, List.set_cons_succ])
  (refine T_take (i := 7) rfl (by kernel_rfl) (fun _ _ _ _ h => h) hS ?_; apply Exists.intro; refine ⟨.inl ⟨by rfl, fun W hW => ?_⟩, ?_⟩; (next => (obtain ⟨hs1, hs2⟩ := hW; go_simp; first | done | rfl)); simp only [Act.put, List.setIfInBounds_toArray, List.set_cons_zero, List.set_cons_succ])
  refine T_all [1, 8] (by kernel_rfl) (by decide) ?_
  intro j hj
  simp only [List.mem_cons, or_false, List.not_mem_nil] at hj
  rcases hj with rfl | rfl
  · refine T_op rfl (by rfl) ?_
    refine wp_build0 _ 52 (by rfl) 7 Tryz.underlying22 (by kernel_rfl) w1.heap.size hzw1 ?_
    intro wa hown0 hbswa hzswa
    have hbwa : Below w1.heap.size w1 wa := hbw1.trans (hbswa.mono hzw1)
    have hzwa : w1.heap.size ≤ wa.heap.size := hbwa.size
    refine ⟨.inr (HS.out _ hbwa), ?_⟩
    simp only [Act.put, List.setIfInBounds_toArray, List.set_cons_zero, List.set_cons_succ]
    refine T_all [6, 8] (by kernel_rfl) (by decide) ?_
    intro j hj
    simp only [List.mem_cons, or_false, List.not_mem_nil] at hj
    rcases hj with rfl | rfl
    · refine T_op rfl (by rfl) ?_
      refine wp_append_rd _ _ _ (by rfl) w1.heap.size 52 (.agg #[.int .i64 0, .int .i64 0, .int .i64 0, .int .i64 0, .int .i64 0, .int .i64 0, .int .i64 0]) 7 56 Tryz.underlying22 (by kernel_rfl) ⟨rfl, by decide⟩ (.slice (some ⟨w1.heap.size, 0, none⟩) 0 0) 0 [] (by rfl) hown0 A n cap (L.map Ord.cells) (by rfl) (hrd.below hbwa) ⟨hmap, ord_ok _⟩ hnil ⟨by unfold maxLen; omega, by omega⟩ hzwa ?_
      intro v1 wb hown1 hbswb hzswb hkswb
      have hbwb : Below w1.heap.size w1 wb := hbwa.trans hbswb
      have hzwb : w1.heap.size ≤ wb.heap.size := hbwb.size
      refine ⟨.inr (HS.out _ hbwb), ?_⟩
      simp only [Act.put, List.setIfInBounds_toArray, List.set_cons_zero, List.set_cons_succ]
      refine T_all [8] (by kernel_rfl) (by decide) ?_
      intro j hj
      simp only [List.mem_cons, or_false, List.not_mem_nil] at hj
      subst hj
      refine T_op rfl (by rfl) ?_
      refine wp_build1 _ 52 _ (by rfl) (.agg #[.int .i64 0, .int .i64 0, .int .i64 0, .int .i64 0, .int .i64 0, .int .i64 0, .int .i64 0]) 7 Tryz.underlying22 (by kernel_rfl) ⟨by decide, by decide⟩ (.agg o.arr) (by rfl) o.arr (by kernel_rfl) ?_
      intro wc hXwc hbswc hzswc
      have hbwc : Below w1.heap.size w1 wc := hbwb.trans (hbswc.mono hzwb)
      have hown1wc := owns_ext hown1 hbswc
      have hzwc : w1.heap.size ≤ wc.heap.size := hbwc.size
      refine ⟨.inr (HS.out _ hbwc), ?_⟩
      simp only [Act.put, List.setIfInBounds_toArray, List.set_cons_zero, List.set_cons_succ]
      refine T_all [9] (by kernel_rfl) (by decide) ?_
      intro j hj
      simp only [List.mem_cons, or_false, List.not_mem_nil] at hj
      subst hj
      refine T_op rfl (by rfl) ?_
      refine wp_append_rd _ _ _ (by rfl) w1.heap.size 52 (.agg #[.int .i64 0, .int .i64 0, .int .i64 0, .int .i64 0, .int .i64 0, .int .i64 0, .int .i64 0]) 7 56 Tryz.underlying22 (by kernel_rfl) ⟨rfl, by decide⟩ v1 (0 + n) _ (by rfl) hown1wc (some ⟨wb.heap.size, 0, none⟩) 1 1 [o.cells] (by rfl) (rd_own hXwc (by simp [Ord.cells]) (n := 1) (by simp [Ord.cells, Ord.arr])) ⟨rfl, by simp [Ord.cells, Value.oneCell']⟩ (fun e => by cases e) ⟨by unfold maxLen; omega, by omega⟩ hzwc ?_
      intro v2 wd hown2 hbswd hzswd hkswd
      have hbwd : Below w1.heap.size w1 wd := hbwc.trans hbswd
      have hzwd : w1.heap.size ≤ wd.heap.size := hbwd.size
      refine ⟨.inr (HS.out _ hbwd), ?_⟩
      simp only [Act.put, List.setIfInBounds_toArray, List.set_cons_zero, List.set_cons_succ]
      have hS := HS.out _ hbwd
      refine T_all [10] (by kernel_rfl) (by decide) ?_
      intro j hj
      simp only [List.mem_cons, or_false, List.not_mem_nil] at hj
      subst hj
      refine T_op rfl (by rfl) (wp_calm (v := .pointer (some ⟨rb, 0, none⟩)) (by go_simp; done) ⟨.inr hS, ?_⟩)
      simp only [Act.put, List.setIfInBounds_toArray, List.set_cons_zero, List.set_cons_succ]
      (refine T_take (i := 11) rfl (by kernel_rfl) (fun _ _ _ _ h => h) hS ?_; apply Exists.intro; refine ⟨.inl ⟨by rfl, fun W hW => ?_⟩, ?_⟩; (next => (obtain ⟨hs1, hs2⟩ := hW; go_simp; first | done | rfl)); simp only [Act.put, List.setIfInBounds_toArray, List.set_cons_zero, List.set_cons_succ])
      refine T_all [12] (by kernel_rfl) (by decide) ?_
      intro j hj
      simp only [List.mem_cons, or_false, List.not_mem_nil] at hj
      subst hj
      refine T_op rfl (by rfl) ?_
      have hd5 : Blk wd rb 76 #[.int .i64 N, .int .i64 most, .slice A n cap] := hd0.ext hbwd
      refine wp_store_fld _ _ _ (by rfl) rb 2 (by rfl) v2 (by rfl) _ _ hd5 (by simp) (by kernel_rfl) (owns_cellsO hown2).1 (owns_cellsO hown2).2 ?_
      intro w6 hst hus
      refine ⟨.inl rfl, ?_⟩
      simp only [Act.put]
      refine T_done (by kernel_rfl) ?_
      go_wp2_with fail
      go_ret
      obtain ⟨_, hf1, hf2⟩ := HFIN.out v2 wd w6 hown2 hbwd hst hus
      exact ⟨rfl, hf1.elim fun A' h => h.elim fun cap' h => ⟨A', ⟨cap', h.1⟩, h.2⟩, hf2⟩
    · refine T_op rfl (by rfl) ?_
      refine wp_build1 _ 52 _ (by rfl) (.agg #[.int .i64 0, .int .i64 0, .int .i64 0, .int .i64 0, .int .i64 0, .int .i64 0, .int .i64 0]) 7 Tryz.underlying22 (by kernel_rfl) ⟨by decide, by decide⟩ (.agg o.arr) (by rfl) o.arr (by kernel_rfl) ?_
      intro wb hXwb hbswb hzswb
      have hbwb : Below w1.heap.size w1 wb := hbwa.trans (hbswb.mono hzwa)
      have hown0wb := owns_ext hown0 hbswb
      have hzwb : w1.heap.size ≤ wb.heap.size := hbwb.size
      refine ⟨.inr (HS.out _ hbwb), ?_⟩
      simp only [Act.put, List.setIfInBounds_toArray, List.set_cons_zero, List.set_cons_succ]
      refine T_all [6] (by kernel_rfl) (by decide) ?_
      intro j hj
      simp only [List.mem_cons, or_false, List.not_mem_nil] at hj
      subst hj
      refine T_op rfl (by rfl) ?_
      refine wp_append_rd _ _ _ (by rfl) w1.heap.size 52 (.agg #[.int .i64 0, .int .i64 0, .int .i64 0, .int .i64 0, .int .i64 0, .int .i64 0, .int .i64 0]) 7 56 Tryz.underlying22 (by kernel_rfl) ⟨rfl, by decide⟩ (.slice (some ⟨w1.heap.size, 0, none⟩) 0 0) 0 [] (by rfl) hown0wb A n cap (L.map Ord.cells) (by rfl) (hrd.below hbwb) ⟨hmap, ord_ok _⟩ hnil ⟨by unfold maxLen; omega, by omega⟩ hzwb ?_
      intro v1 wc hown1 hbswc hzswc hkswc
      have hbwc : Below w1.heap.size w1 wc := hbwb.trans hbswc
      have hXwc : Blk wc wa.heap.size 52 o.arr := (hkswc _ hXwb.lt (by intro e; have e2 := Option.some.inj e; simp only at e2; have := hzswa; have := hbswa.size; omega)).trans hXwb
      have hzwc : w1.heap.size ≤ wc.heap.size := hbwc.size
      refine ⟨.inr (HS.out _ hbwc), ?_⟩
      simp only [Act.put, List.setIfInBounds_toArray, List.set_cons_zero, List.set_cons_succ]
      refine T_all [9] (by kernel_rfl) (by decide) ?_
      intro j hj
      simp only [List.mem_cons, or_false, List.not_mem_nil] at hj
      subst hj
      refine T_op rfl (by rfl) ?_
      refine wp_append_rd _ _ _ (by rfl) w1.heap.size 52 (.agg #[.int .i64 0, .int .i64 0, .int .i64 0, .int .i64 0, .int .i64 0, .int .i64 0, .int .i64 0]) 7 56 Tryz.underlying22 (by kernel_rfl) ⟨rfl, by decide⟩ v1 (0 + n) _ (by rfl) hown1 (some ⟨wa.heap.size, 0, none⟩) 1 1 [o.cells] (by rfl) (rd_own hXwc (by simp [Ord.cells]) (n := 1) (by simp [Ord.cells, Ord.arr])) ⟨rfl, by simp [Ord.cells, Value.oneCell']⟩ (fun e => by cases e) ⟨by unfold maxLen; omega, by omega⟩ hzwc ?_
      intro v2 wd hown2 hbswd hzswd hkswd
      have hbwd : Below w1.heap.size w1 wd := hbwc.trans hbswd
      have hzwd : w1.heap.size ≤ wd.heap.size := hbwd.size
      refine ⟨.inr (HS.out _ hbwd), ?_⟩
      simp only [Act.put, List.setIfInBounds_toArray, List.set_cons_zero, List.set_cons_succ]
      have hS := HS.out _ hbwd
      refine T_all [10] (by kernel_rfl) (by decide) ?_
      intro j hj
      simp only [List.mem_cons, or_false, List.not_mem_nil] at hj
      subst hj
      refine T_op rfl (by rfl) (wp_calm (v := .pointer (some ⟨rb, 0, none⟩)) (by go_simp; done) ⟨.inr hS, ?_⟩)
      simp only [Act.put, List.setIfInBounds_toArray, List.set_cons_zero, List.set_cons_succ]
      (refine T_take (i := 11) rfl (by kernel_rfl) (fun _ _ _ _ h => h) hS ?_; apply Exists.intro; refine ⟨.inl ⟨by rfl, fun W hW => ?_⟩, ?_⟩; (next => (obtain ⟨hs1, hs2⟩ := hW; go_simp; first | done | rfl)); simp only [Act.put, List.setIfInBounds_toArray, List.set_cons_zero, List.set_cons_succ])
      refine T_all [12] (by kernel_rfl) (by decide) ?_
      intro j hj
      simp only [List.mem_cons, or_false, List.not_mem_nil] at hj
      subst hj
      refine T_op rfl (by rfl) ?_
      have hd5 : Blk wd rb 76 #[.int .i64 N, .int .i64 most, .slice A n cap] := hd0.ext hbwd
      refine wp_store_fld _ _ _ (by rfl) rb 2 (by rfl) v2 (by rfl) _ _ hd5 (by simp) (by kernel_rfl) (owns_cellsO hown2).1 (owns_cellsO hown2).2 ?_
      intro w6 hst hus
      refine ⟨.inl rfl, ?_⟩
      simp only [Act.put]
      refine T_done (by kernel_rfl) ?_
      go_wp2_with fail
      go_ret
      obtain ⟨_, hf1, hf2⟩ := HFIN.out v2 wd w6 hown2 hbwd hst hus
      exact ⟨rfl, hf1.elim fun A' h => h.elim fun cap' h => ⟨A', ⟨cap', h.1⟩, h.2⟩, hf2⟩
  · refine T_op rfl (by rfl) ?_
    refine wp_build1 _ 52 _ (by rfl) (.agg #[.int .i64 0, .int .i64 0, .int .i64 0, .int .i64 0, .int .i64 0, .int .i64 0, .int .i64 0]) 7 Tryz.underlying22 (by kernel_rfl) ⟨by decide, by decide⟩ (.agg o.arr) (by rfl) o.arr (by kernel_rfl) ?_
    intro wa hXwa hbswa hzswa
    have hbwa : Below w1.heap.size w1 wa := hbw1.trans (hbswa.mono hzw1)
    have hzwa : w1.heap.size ≤ wa.heap.size := hbwa.size
    refine ⟨.inr (HS.out _ hbwa), ?_⟩
    simp only [Act.put, List.setIfInBounds_toArray, List.set_cons_zero, List.set_cons_succ]
    refine T_all [1] (by kernel_rfl) (by decide) ?_
    intro j hj
    simp only [List.mem_cons, or_false, List.not_mem_nil] at hj
    subst hj
    refine T_op rfl (by rfl) ?_
    refine wp_build0 _ 52 (by rfl) 7 Tryz.underlying22 (by kernel_rfl) w1.heap.size hzwa ?_
    intro wb hown0 hbswb hzswb
    have hbwb : Below w1.heap.size w1 wb := hbwa.trans (hbswb.mono hzwa)
    have hXwb : Blk wb w1.heap.size 52 o.arr := hXwa.ext hbswb
    have hzwb : w1.heap.size ≤ wb.heap.size := hbwb.size
    refine ⟨.inr (HS.out _ hbwb), ?_⟩
    simp only [Act.put, List.setIfInBounds_toArray, List.set_cons_zero, List.set_cons_succ]
    refine T_all [6] (by kernel_rfl) (by decide) ?_
    intro j hj
    simp only [List.mem_cons, or_false, List.not_mem_nil] at hj
    subst hj
    refine T_op rfl (by rfl) ?_
    refine wp_append_rd _ _ _ (by rfl) w1.heap.size 52 (.agg #[.int .i64 0, .int .i64 0, .int .i64 0, .int .i64 0, .int .i64 0, .int .i64 0, .int .i64 0]) 7 56 Tryz.underlying22 (by kernel_rfl) ⟨rfl, by decide⟩ (.slice (some ⟨wa.heap.size, 0, none⟩) 0 0) 0 [] (by rfl) hown0 A n cap (L.map Ord.cells) (by rfl) (hrd.below hbwb) ⟨hmap, ord_ok _⟩ hnil ⟨by unfold maxLen; omega, by omega⟩ hzwb ?_
    intro v1 wc hown1 hbswc hzswc hkswc
    have hbwc : Below w1.heap.size w1 wc := hbwb.trans hbswc
    have hXwc : Blk wc w1.heap.size 52 o.arr := (hkswc _ hXwb.lt (by intro e; have e2 := Option.some.inj e; simp only at e2; have := hzswa; have := hbswa.size; omega)).trans hXwb
    have hzwc : w1.heap.size ≤ wc.heap.size := hbwc.size
    refine ⟨.inr (HS.out _ hbwc), ?_⟩
    simp only [Act.put, List.setIfInBounds_toArray, List.set_cons_zero, List.set_cons_succ]
    refine T_all [9] (by kernel_rfl) (by decide) ?_
    intro j hj
    simp only [List.mem_cons, or_false, List.not_mem_nil] at hj
    subst hj
    refine T_op rfl (by rfl) ?_
    refine wp_append_rd _ _ _ (by rfl) w1.heap.size 52 (.agg #[.int .i64 0, .int .i64 0, .int .i64 0, .int .i64 0, .int .i64 0, .int .i64 0, .int .i64 0]) 7 56 Tryz.underlying22 (by kernel_rfl) ⟨rfl, by decide⟩ v1 (0 + n) _ (by rfl) hown1 (some ⟨w1.heap.size, 0, none⟩) 1 1 [o.cells] (by rfl) (rd_own hXwc (by simp [Ord.cells]) (n := 1) (by simp [Ord.cells, Ord.arr])) ⟨rfl, by simp [Ord.cells, Value.oneCell']⟩ (fun e => by cases e) ⟨by unfold maxLen; omega, by omega⟩ hzwc ?_
    intro v2 wd hown2 hbswd hzswd hkswd
    have hbwd : Below w1.heap.size w1 wd := hbwc.trans hbswd
    have hzwd : w1.heap.size ≤ wd.heap.size := hbwd.size
    refine ⟨.inr (HS.out _ hbwd), ?_⟩
    simp only [Act.put, List.setIfInBounds_toArray, List.set_cons_zero, List.set_cons_succ]
    have hS := HS.out _ hbwd
    refine T_all [10] (by kernel_rfl) (by decide) ?_
    intro j hj
    simp only [List.mem_cons, or_false, List.not_mem_nil] at hj
    subst hj
    refine T_op rfl (by rfl) (wp_calm (v := .pointer (some ⟨rb, 0, none⟩)) (by go_simp; done) ⟨.inr hS, ?_⟩)
    simp only [Act.put, List.setIfInBounds_toArray, List.set_cons_zero, List.set_cons_succ]
    (refine T_take (i := 11) rfl (by kernel_rfl) (fun _ _ _ _ h => h) hS ?_; apply Exists.intro; refine ⟨.inl ⟨by rfl, fun W hW => ?_⟩, ?_⟩; (next => (obtain ⟨hs1, hs2⟩ := hW; go_simp; first | done | rfl)); simp only [Act.put, List.setIfInBounds_toArray, List.set_cons_zero, List.set_cons_succ])
    refine T_all [12] (by kernel_rfl) (by decide) ?_
    intro j hj
    simp only [List.mem_cons, or_false, List.not_mem_nil] at hj
    subst hj
    refine T_op rfl (by rfl) ?_
    have hd5 : Blk wd rb 76 #[.int .i64 N, .int .i64 most, .slice A n cap] := hd0.ext hbwd
    refine wp_store_fld _ _ _ (by rfl) rb 2 (by rfl) v2 (by rfl) _ _ hd5 (by simp) (by kernel_rfl) (owns_cellsO hown2).1 (owns_cellsO hown2).2 ?_
    intro w6 hst hus
    refine ⟨.inl rfl, ?_⟩
    simp only [Act.put]
    refine T_done (by kernel_rfl) ?_
    go_wp2_with fail
    go_ret
    obtain ⟨_, hf1, hf2⟩ := HFIN.out v2 wd w6 hown2 hbwd hst hus
    exact ⟨rfl, hf1.elim fun A' h => h.elim fun cap' h => ⟨A', ⟨cap', h.1⟩, h.2⟩, hf2⟩
theorem radd_any (q : Rb w rb (N : Int) (most : Int) L A cap) (o : Ord) (hl : L.length < 1000) : Calls Tryz.prog 25 #[.pointer (some ⟨rb, 0, none⟩), .agg o.arr] w fun e w' => e = .returned (.int .i64 (addF N most L o)) ∧ (∃ A' cap', Rb w' rb (N : Int) (most : Int) (addO N most L o) A' cap' ∧ ∀ a, A' = some a → w.heap.size ≤ a.block ∨ A = some a) ∧ ButL [rb] w.heap.size w w' := by
  by_cases h : addF N most L o = 0
  · have h1 : addO N most L o = L ++ [o] := by unfold addO; rw [if_pos h]
    rw [h, h1]
    refine (radd_ok q o hl h).mono ?_
    rintro e w' ⟨rfl, ⟨A', cap', h2, h3⟩, h4⟩
    exact ⟨rfl, ⟨A', cap', h2, fun a e => .inl (h3 a e)⟩, h4⟩
  · have h1 : addO N most L o = L := by unfold addO; rw [if_neg h]
    rw [h1]
    refine (radd_no q o h).mono ?_
    rintro e w' ⟨rfl, hb⟩
    exact ⟨rfl, ⟨A, cap, q.ext hb, fun a e => .inr e⟩, ButL.of_below hb⟩
end
end Rk
end Go.Proofs.YtacpjpkhmdcagaaGreat
