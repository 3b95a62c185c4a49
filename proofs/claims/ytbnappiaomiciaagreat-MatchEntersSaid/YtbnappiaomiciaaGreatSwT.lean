/- This text proves what sweep.Traded and sweep.Reaches answer, and the document's Reaches. It has no conditions but those that it states. -/
import Derived.Test.YtbnappiaomiciaaGreatSwM
import Derived.Test.YtbnappiaomiciaaGreatSwB
import Derived.Test.YtbnappiaomiciaaGreatFix
namespace Go.Proofs.YtbnappiaomiciaaGreat
set_option linter.unusedVariables false
open Go.RowKit
namespace Sw
set_option maxHeartbeats 4000000
set_option maxRecDepth 10000
open Bk (bet Bs osOf srt Sl)
theorem owns_fl {w : World} {B : Nat} {v : Value} {l : List Fl} (h : w.ownsRow B 54 4 v l.length (flatF l)) : ∃ A cap, v = .slice A l.length cap ∧ Rd w 4 A (l.map Fl.cells) ∧ l.length ≤ cap ∧ (A = none → cap = 0) ∧ ∀ a, A = some a → B ≤ a.block ∧ a.block < w.heap.size := by
  rcases h.2 with ⟨rfl, h0⟩ | ⟨g, cap, cur, rfl, hb, hg, hc, _, _, ht⟩
  · rw [h0]
    have : l = [] := List.eq_nil_of_length_eq_zero h0
    subst this
    exact ⟨none, 0, rfl, fun hne => absurd rfl hne, Nat.le_refl _, fun _ => rfl, fun a e => by cases e⟩
  · refine ⟨some ⟨g, 0, none⟩, cap, rfl, rd_own (show Blk w g 54 cur from hg) (n := l.length) (fun r hr => ?_) ht, hc, (fun e => by cases e), fun a e => ?_⟩
    · obtain ⟨x, _, rfl⟩ := List.mem_map.1 hr
      rfl
    · injection e with e
      subst e
      exact ⟨hb, (Array.getElem?_eq_some_iff.1 hg).1⟩
theorem flArr_one (f : Fl) : f.arr.all (·.oneCell') = true := by simp [Fl.arr, Fl.cells, Value.oneCell']
/-- Does a book reach a price? -/
def rchO (s l : Int) (os : List Ord) : Bool := decide (s = 0 ∨ s = 1) && ((Bk.frontO (1 - s) os).isSome && !wrs s ((Bk.frontO (1 - s) os).getD Are.ord0).price l)
section
variable {w : World} {c : Nat → Nat} {b N most k : Nat} {ss : List Sl}
theorem reaches_any (S : Bs w c b N most k ss) (s l : Int) : Calls Tryz.prog 33 #[.pointer (some ⟨b, 0, none⟩), .int .i64 s, .int .i64 l] w fun e w' => e = .returned (.bool (rchO s l (osOf ss))) ∧ Below w.heap.size w w' := by
  have HB := Lib.hid (fun z => Bk.best_any S z)
  by_cases hs : s = 0 ∨ s = 1
  · have HO := Lib.hid (fun W => other_yes hs W)
    have HS := Lib.hid hs
    clear S hs
    cases hf : Bk.frontO (1 - s) (osOf ss) with
    | none =>
      have HR : Hid (rchO s l (osOf ss) = false) := Lib.hid (by unfold rchO; rw [hf]; simp)
      have HB1 := HB.out (1 - s)
      rw [hf] at HB1
      have HB1 := Lib.hid HB1
      rw [HR.out]
      clear hf HB
      go_enter Tryz.func33, Tryz.ntmps33
      go_wp2_with (first | (go_at_call 68; refine (HO.out _).mono ?_; rintro e w1 ⟨rfl, rfl⟩) | (go_at_call 69; refine HB1.out.mono ?_; rintro e w2 ⟨rfl, hb2⟩) | fail)
      go_ret
      exact ⟨rfl, hb2⟩
    | some o =>
      have HR : Hid (rchO s l (osOf ss) = !wrs s o.price l) := Lib.hid (by unfold rchO; rw [hf, decide_eq_true HS.out]; simp)
      have HB1 := HB.out (1 - s)
      rw [hf] at HB1
      have HB1 : Hid (Calls Tryz.prog 69 #[.pointer (some ⟨b, 0, none⟩), .int .i64 (1 - s)] w fun e w' => e = .returned (.tuple #[.int .i64 o.price, .bool true]) ∧ Below w.heap.size w w') := Lib.hid HB1
      have HW := Lib.hid (fun W => worse_any s o.price l W)
      rw [HR.out]
      generalize wrs s o.price l = z at *
      clear hf HB HR
      go_enter Tryz.func33, Tryz.ntmps33
      go_wp2_with (first | (go_at_call 68; refine (HO.out _).mono ?_; rintro e w1 ⟨rfl, rfl⟩) | (go_at_call 69; refine HB1.out.mono ?_; rintro e w2 ⟨rfl, hb2⟩) | (go_at_call 70; refine (HW.out _).mono ?_; rintro e w3 ⟨rfl, rfl⟩) | fail)
      go_ret
      exact ⟨rfl, hb2⟩
  · have HO := Lib.hid (fun W => other_no (s := s) (by omega) (by omega) W)
    have HR : rchO s l (osOf ss) = false := by unfold rchO; rw [decide_eq_false hs]; rfl
    rw [HR]
    clear hs S HR
    go_enter Tryz.func33, Tryz.ntmps33
    go_wp2_with (first | (go_at_call 68; refine (HO.out _).mono ?_; rintro e w1 ⟨⟨z, rfl⟩, rfl⟩) | (go_at_call 69; refine (HB.out _).mono ?_; rintro e w2 ⟨rfl, hb2⟩) | fail)
    go_ret
    exact ⟨rfl, hb2⟩
end
theorem built_ordZ : Tryz.prog.built 30 [] = some Are.ord0.arr := by kernel_rfl
theorem rfront_any {w : World} {rb N most : Nat} {L : List Ord} {A : Option Addr} {cap : Nat} (q : Rk.Rb w rb (N : Int) (most : Int) L A cap) (s : Int) : Calls Tryz.prog 73 #[.pointer (some ⟨rb, 0, none⟩), .int .i64 s] w fun e w' => e = .returned (.tuple #[.agg ((srt s L).head?.getD Are.ord0).arr, .bool (srt s L).head?.isSome]) ∧ Below w.heap.size w w' := by
  have hN0 : Blk (w.alloc (.cells Are.ord0.arr 30)) w.heap.size 30 Are.ord0.arr := Blk.new _ _ _ _ rfl
  have hb0 : Below w.heap.size w (w.alloc (.cells Are.ord0.arr 30)) := by (repeat (first | with_reducible exact Below.refl _ _ | (with_reducible assumption) | (with_reducible refine below_alloc ?_ _) | (with_reducible refine below_ext (w1 := ?_) ?_ ?_; rotate_left 2; (with_reducible assumption)) | (with_reducible refine Below.setCell ?_ ?_ _; rotate_left; ((try simp) <;> omega)) | (with_reducible refine Below.drew ?_) | (with_reducible refine below_drewN ?_ _) | fail))
  have HO := Lib.hid (Rk.rof_any (q.ext hb0) s)
  cases hl : srt s L with
  | nil =>
    rw [hl] at HO
    clear hl
    go_enter Tryz.func73, Tryz.ntmps73
    go_wp2_with (first | (go_at_call 99; refine HO.out.mono ?_; rintro e w2 ⟨⟨v, rfl, hown⟩, hb2⟩; obtain ⟨A2, cp2, rfl, _⟩ := Rk.owns_o7 hown; have hN2 := Blk.ext hN0 hb2) | ((with_reducible show wpList _ _ _ (⟨_, .build _ _, _, _, _, _⟩ :: _) _ _); refine wpList_build_is (by rfl) _ _ (by rfl) ?_ ?_ ?_; rotate_left; (next => simp only [List.map_toArray, List.map_cons, List.map_nil, go_sem]; exact built_ordZ ..)) | ((with_reducible show wpList _ _ _ (⟨_, .store 30 _ _, _, _, _, _⟩ :: _) _ _); refine wpList_store_blk (by rfl) 30 _ _ (by rfl) _ _ (by rfl) (by rfl) _ _ hN2 (by kernel_rfl) (by rfl) ?_ ?_; (next => first | (simp [Value.oneCell']; done) | (simp [Value.oneCell', Edt.cells]; done) | exact Are.ordArr_one _); intro w3 hN3 hU3) | fail)
    exact bodyPost_ret (Bk.results_ord2 rfl _ _ _ _ _ (by rfl) (by rfl) hN3 rfl) rfl ⟨rfl, below_upd (below_ext hb0 hb2) (Nat.le_refl _) hU3⟩
  | cons o l =>
    rw [hl] at HO
    clear hl
    go_enter Tryz.func73, Tryz.ntmps73
    go_wp2_with (first | (go_at_call 99; refine HO.out.mono ?_; rintro e w2 ⟨⟨v, rfl, hown⟩, hb2⟩; obtain ⟨A2, cp2, rfl, hrd2, _⟩ := Rk.owns_o7 hown; have hN2 := Blk.ext hN0 hb2; obtain ⟨ab, ao, rfl, hmid⟩ := Bk.rd_rngB (xs := o :: l) (c := Ord.cells) hrd2 (i := 0) (by simp); have hln : ((o :: l).length : Int) ≠ 0 := by (simp; omega)) | (refine wpList_load_mid (by rfl) _ _ (by rfl) _ _ (by rfl) _ _ hmid Tryz.underlying30 rfl (by kernel_rfl) ?_) | ((with_reducible show wpList _ _ _ (⟨_, .store 30 _ _, _, _, _, _⟩ :: _) _ _); refine wpList_store_blk (by rfl) 30 _ _ (by rfl) _ _ (by rfl) (by rfl) _ _ hN2 (by kernel_rfl) (by rfl) ?_ ?_; (next => first | (simp [Value.oneCell']; done) | (simp [Value.oneCell', Edt.cells]; done) | exact Are.ordArr_one _); intro w3 hN3 hU3) | fail)
    exact bodyPost_ret (Bk.results_ord2 rfl _ _ _ _ _ (by rfl) (by rfl) hN3 rfl) rfl ⟨rfl, below_upd (below_ext hb0 hb2) (Nat.le_refl _) hU3⟩
theorem rreaches_any {w : World} {rb N most : Nat} {L : List Ord} {A : Option Addr} {cap : Nat} (q : Rk.Rb w rb (N : Int) (most : Int) L A cap) (s l : Int) : Calls Tryz.prog 38 #[.pointer (some ⟨rb, 0, none⟩), .int .i64 s, .int .i64 l] w fun e w' => e = .returned (.bool (rchO s l L)) ∧ Below w.heap.size w w' := by
  by_cases hs : s = 0 ∨ s = 1
  · have HF := Lib.hid (rfront_any q (1 - s))
    have hfr : Bk.frontO (1 - s) L = (srt (1 - s) L).head? := by
      unfold Bk.frontO
      rw [if_pos (by omega)]
    have hR : rchO s l L = ((srt (1 - s) L).head?.isSome && !wrs s ((srt (1 - s) L).head?.getD Are.ord0).price l) := by
      unfold rchO
      rw [decide_eq_true hs, hfr]
      rfl
    rw [hR]
    clear q hfr hR
    generalize ((srt (1 - s) L).head?.getD Are.ord0) = o at *
    generalize (srt (1 - s) L).head?.isSome = z at *
    have HW := Lib.hid (fun W => rworse_any s o.price l W)
    generalize wrs s o.price l = y at *
    rcases hs with rfl | rfl
    all_goals
      cases z
      all_goals
        go_enter Tryz.func38, Tryz.ntmps38
        go_wp2_with (first | (go_at_call 73; refine HF.out.mono ?_; rintro e w2 ⟨rfl, hb2⟩; have hX2 := Blk.new w2 30 Are.ord0.arr _ rfl) | (((with_reducible show wpList _ _ _ (⟨_, .store 30 _ _, _, _, _, _⟩ :: _) _ _); refine wpList_store_blk (by rfl) 30 _ _ (by rfl) _ _ (by rfl) (by rfl) _ _ hX2 (by kernel_rfl) (by rfl) ?_ ?_; (next => first | (simp [Value.oneCell']; done) | (simp [Value.oneCell', Edt.cells]; done) | exact Are.ordArr_one _); intro w3 hX3 hU3); have c3 : w3.cell? ⟨w2.heap.size, 3, none⟩ = some (.int .i64 o.price) := Blk.cell hX3 3) | (go_at_call 74; refine (HW.out _).mono ?_; rintro e w4 ⟨rfl, rfl⟩) | fail)
        go_ret
        exact ⟨rfl, below_upd (below_ext hb2 (by (repeat (first | with_reducible exact Below.refl _ _ | (with_reducible assumption) | (with_reducible refine below_alloc ?_ _) | (with_reducible refine below_ext (w1 := ?_) ?_ ?_; rotate_left 2; (with_reducible assumption)) | (with_reducible refine Below.setCell ?_ ?_ _; rotate_left; ((try simp) <;> omega)) | (with_reducible refine Below.drew ?_) | (with_reducible refine below_drewN ?_ _) | fail)))) hb2.size hU3⟩
  · have hR : rchO s l L = false := by unfold rchO; rw [decide_eq_false hs]; rfl
    have h0 : (s == 0) = false := by simp; omega
    have h1 : (s == 1) = false := by simp; omega
    have h2 : (s != 0) = true := by simp; omega
    have h3 : (s != 1) = true := by simp; omega
    rw [hR]
    clear hs q hR
    go_enter Tryz.func38, Tryz.ntmps38
    go_wp2_with fail
    go_ret
    exact ⟨rfl, Below.refl _ _⟩
end Sw
end Go.Proofs.YtbnappiaomiciaaGreat
