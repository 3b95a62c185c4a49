/- This text proves that the example of the chapter on sweeps comes out. It has no conditions but those that it states. -/
import Derived.Test.YtgaialcbpglhaaaSwT
namespace Go.Proofs.Ytgaialcbpglhaaa
set_option linter.unusedVariables false
open Go.RowKit
namespace Sw
set_option maxHeartbeats 4000000
set_option maxRecDepth 10000
open Bk (bet Bs osOf srt Sl bkO)
theorem make_any {w : World} {c : Nat → Nat} {b N most k : Nat} {ss : List Sl} (S : Bs w c b N most k ss) (t : Tk) (hq2 : t.qty ≤ 9223372036854775807) : Calls Try.prog 25 #[.pointer (some ⟨b, 0, none⟩), .agg t.arr] w (MkPost w (mkP t (osOf ss))) := by
  by_cases h : (t.side = 0 ∨ t.side = 1) ∧ 1 ≤ t.qty
  · unfold mkP
    rw [if_pos h]
    exact make_on S t h.1 h.2 hq2
  · unfold mkP
    rw [if_neg h]
    exact make_off _ t h w
def al14 : List Ord := [⟨1, 0, 1, 10, 3, 0, 0⟩, ⟨2, 0, 1, 11, 5, 0, 0⟩]
def tk14 : Tk := ⟨0, 0, 11, 6, 1, 100, 0⟩
def flatO2 (l : List Ord) : List Value := (l.map Ord.cells).flatten
theorem addr_inj {a b c d : Nat} (h : some (⟨a, b, none⟩ : Addr) = some ⟨c, d, none⟩) : a = c ∧ b = d := by
  injection h with h
  injection h with h1 h2
  exact ⟨h1, h2⟩
theorem al_wf : ∀ o ∈ al14, Idx.Wf o.id := by
  intro o ho
  simp only [al14, List.mem_cons, List.mem_nil_iff, or_false] at ho
  rcases ho with rfl | rfl <;> rfl
theorem al_mk : mkP tk14 (bkO al14) = ([⟨1, 10, 3, false⟩, ⟨2, 11, 3, false⟩], 0, 0) := by
  rfl
theorem alive_any (w : World) : Calls Try.prog 9 #[] w fun e w' => e = .returned (.bool true) ∧ Below w.heap.size w w' := by
  have hX : Blk (w.alloc (.cells (flatO2 al14).toArray 43)) w.heap.size 43 (flatO2 al14).toArray := Blk.new _ _ _ _ rfl
  have hbX : Below w.heap.size w (w.alloc (.cells (flatO2 al14).toArray 43)) := by (repeat (first | with_reducible exact Below.refl _ _ | (with_reducible assumption) | (with_reducible refine below_alloc ?_ _) | (with_reducible refine below_ext (w1 := ?_) ?_ ?_; rotate_left 2; (with_reducible assumption)) | (with_reducible refine Below.setCell ?_ ?_ _; rotate_left; ((try simp) <;> omega)) | (with_reducible refine Below.drew ?_) | (with_reducible refine below_drewN ?_ _) | fail))
  have HB := Lib.hid (Bk.books_any al14 al_wf (some ⟨w.heap.size, 0, none⟩) 2 _ (rd_own hX (by simp [al14, Ord.cells]) (n := 2) (by simp [flatO2, al14, Ord.cells])) (by decide))
  go_enter Try.func9, Try.ntmps9
  go_wp2_with fail
  refine HB.out.mono ?_
  rintro e w1 ⟨b, rb, c, ss, A, cap, rfl, W1⟩
  have HMK := Lib.hid (make_any W1.two.bs tk14 (by decide))
  rw [W1.os, al_mk] at HMK
  have hb1 := below_ext hbX W1.below
  clear W1 hX hbX HB
  go_wp2_with (first | (go_at_call 25; refine HMK.out.mono ?_; rintro e w2 ⟨⟨v, rfl, hown2⟩, hb2⟩; obtain ⟨A2, cp2, rfl, hrd2, _⟩ := owns_fl hown2; have hP2 := Blk.new w2 65 #[.slice none 0 0, .int .i64 0, .int .i64 0] _ rfl) | (((with_reducible show wpList _ _ _ (⟨_, .store 65 _ _, _, _, _, _⟩ :: _) _ _); refine wpList_store_blk (by rfl) 65 _ _ (by rfl) _ _ (by rfl) (by rfl) _ _ hP2 (by kernel_rfl) (by rfl) ?_ ?_; (next => first | (simp [Value.oneCell']; done) | (simp [Value.oneCell', Edt.cells]; done) | exact Are.ordArr_one _); intro w3 hP3 hU3); have hb3 : Below w2.heap.size w2 w3 := below_upd (by (repeat (first | with_reducible exact Below.refl _ _ | (with_reducible assumption) | (with_reducible refine below_alloc ?_ _) | (with_reducible refine below_ext (w1 := ?_) ?_ ?_; rotate_left 2; (with_reducible assumption)) | (with_reducible refine Below.setCell ?_ ?_ _; rotate_left; ((try simp) <;> omega)) | (with_reducible refine Below.drew ?_) | (with_reducible refine below_drewN ?_ _) | fail))) (Nat.le_refl _) hU3; have hown3 := owns_ext hown2 hb3; obtain ⟨ab, ao, rfl, hm0⟩ := Bk.rd_rngB (hrd2.below hb3) (i := 0) (by decide); have HM1 := Bk.rd_rngB (hrd2.below hb3) (i := 1) (by decide); obtain ⟨ab', ao', e1, hm1⟩ := HM1; obtain ⟨rfl, rfl⟩ := addr_inj e1; have k0 : w3.cell? ⟨ab, ao + 2, none⟩ = some (.int .i64 3) := hm0 2 _ rfl; have k1 : w3.cell? ⟨ab, ao + 1 * 4 + 2, none⟩ = some (.int .i64 3) := hm1 2 _ rfl; have p0 : w3.cell? ⟨w2.heap.size, 0, none⟩ = some (.slice (some ⟨ab, ao, none⟩) 2 cp2) := Blk.cell hP3 0; have p1 : w3.cell? ⟨w2.heap.size, 1, none⟩ = some (.int .i64 0) := Blk.cell hP3 1; have p2 : w3.cell? ⟨w2.heap.size, 2, none⟩ = some (.int .i64 0) := Blk.cell hP3 2; have HTR := Lib.hid (traded_any (left := 0) (stop := 0) hown3 (by decide) (by decide) (by decide))) | (go_at_call 27; refine HTR.out.mono ?_; rintro e w4 ⟨rfl, hb4⟩) | fail)
  go_ret
  exact ⟨rfl, below_ext hb1 (below_ext hb2 (below_ext hb3 hb4))⟩
end Sw
end Go.Proofs.Ytgaialcbpglhaaa
