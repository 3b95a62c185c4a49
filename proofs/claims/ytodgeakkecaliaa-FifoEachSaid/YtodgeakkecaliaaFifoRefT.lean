/- scratch: contracts of the document's queues (fifo): whatever the input, the law returns true. It has no conditions. It holds contracts of the package fifo: New, Push, Front, Pop, Remove, Of, Len, over links that are held as data. It has no conditions but those that they state. -/
import Derived.Test.YtodgeakkecaliaaFifoRef
import Derived.Test.YtodgeakkecaliaaSink
namespace Go.Proofs.Ytodgeakkecaliaa
set_option linter.unusedVariables false
open Go.RowKit
namespace Fif
set_option maxHeartbeats 4000000
set_option maxRecDepth 10000

def SQ (h bl i Q : Nat) (A : Option Addr) (len cap : Nat) (W : World) : Prop := W.cell? ⟨h, 1, none⟩ = some (.slice (some ⟨bl, 0, none⟩) Q Q) ∧ W.cell? ⟨bl, i, none⟩ = some (.slice A len cap)
theorem owns_cells {W : World} {B : Nat} {e : TypeId} {size n : Nat} {v : Value} {xs : List Value} (h : W.ownsRow B e size v n xs) : v.cells = #[v] ∧ v.oneCell' = true := by
  rcases h.2 with ⟨rfl, _⟩ | ⟨g, cap, cur, rfl, _⟩ <;> exact ⟨rfl, rfl⟩
def flatN (l : List Nat) : List Value := (l.map nrow).flatten
theorem nrow_snoc (l : List Nat) (n : Nat) : flatN (l ++ [n]) = flatN l ++ [nrow n].flatten := by simp [flatN]
/-- The lists' rows stand at or above this block. -/
def Far (B : Nat) (cl : Array Value) : Prop := ∀ (i : Nat) (a : Addr) (l c : Nat), cl[i]? = some (.slice (some a) l c) → B ≤ a.block
theorem Far.set {B C : Nat} {cl : Array Value} {w : World} {e : TypeId} {size n i : Nat} {v : Value} {xs : List Value} (h : Far B cl) (hB : B ≤ C) (ho : w.ownsRow C e size v n xs) : Far B (cl.setIfInBounds i v) := by
  intro j a l c hj
  by_cases e : i = j
  · subst e
    rw [Array.getElem?_setIfInBounds_self] at hj
    split at hj
    · injection hj with hj
      rcases ho.2 with ⟨hv, _⟩ | ⟨g, cap, cur, hv, hbg, _⟩
      · rw [hv] at hj; cases hj
      · rw [hv] at hj
        injection hj with h1 h2 h3
        injection h1 with h1
        subst h1
        exact Nat.le_trans hB hbg
    · cases hj
  · rw [Array.getElem?_setIfInBounds_ne e] at hj
    exact h j a l c hj
theorem RQ.set {w w5 w6 : World} {h bl N Q : Nat} {L : Nat → List Nat} {cl : Array Value} (q : RQ w h bl N Q L cl) {i : Nat} (hi : i < Q) (hb : Below w.heap.size w w5) {v : Value} {l : List Nat} (hown : w5.ownsRow w.heap.size 3 1 v l.length (flatN l)) (hl : l.length ≤ 500)
    (hst : Blk w6 bl 28 (cl.setIfInBounds i v)) (u : Upd bl w5 w6) : RQ w6 h bl N Q (up L i l) (cl.setIfInBounds i v) ∧ ∀ B, B ≤ w.heap.size → Far B cl → Far B (cl.setIfInBounds i v) := by
  have hbl := q.tab.lt
  have hh := q.hd.lt
  have hz := hb.size
  have hz2 := u.size
  have hs := q.size
  refine ⟨?_, fun B hB hF => hF.set hB hown⟩
  refine ⟨(u.block h q.ne).trans ((hb.block h hh).trans q.hd), hst, by simp [q.size], fun j hj => ?_, q.ne, q.lim⟩
  by_cases e : j = i
  · subst e
    rw [up_same, Array.getElem?_setIfInBounds_self_of_lt (by omega)]
    rcases hown.2 with ⟨hv, h0⟩ | ⟨g, cap, cur, hv, hbg, hg, hc, _, _, ht⟩
    · have hl0 : l = [] := List.eq_nil_of_length_eq_zero h0
      subst hl0
      exact ⟨v, none, 0, rfl, ⟨hv, fun hne => absurd rfl hne, Nat.le_refl _, fun _ => rfl, fun a e => (by cases e), hl⟩⟩
    · have hgb : g ≠ bl := by omega
      have hB6 : Blk w6 g 3 cur := (u.block g hgb).trans hg
      refine ⟨v, some ⟨g, 0, none⟩, cap, rfl, ⟨hv, rd_own hB6 (fun r hr => (nrow_ok l r hr).1) (n := l.length) ht, hc, fun e => (by cases e), fun a e => ?_, hl⟩⟩
      injection e with e
      subst e
      have := hB6.lt
      exact ⟨by show g ≠ h; omega, hgb, this⟩
  · rw [up_ne _ _ e, Array.getElem?_setIfInBounds_ne (fun h => e h.symm)]
    obtain ⟨v', A, cap, h1, h2⟩ := q.row j hj
    exact ⟨v', A, cap, h1, h2.keep (by omega) (fun a e => (u.block _ (h2.far a e).2.1).trans (hb.block _ (h2.far a e).2.2))⟩
section
variable {w : World} {h bl N Q : Nat} {L : Nat → List Nat} {cl : Array Value}
theorem rpush_yes (q : RQ w h bl N Q L cl) (i n : Nat) (hi : i < Q) (hn : n < N) (hl : ∀ j, j < Q → n ∉ L j) (hlen : (L i).length < 500) : Calls Try.prog 44 #[.pointer (some ⟨h, 0, none⟩), .int .i64 i, .int .i64 n] w fun e w' => e = .returned (.bool true) ∧ (∃ cl', RQ w' h bl N Q (up L i (L i ++ [n])) cl' ∧ ∀ B, B ≤ w.heap.size → Far B cl → Far B cl') ∧ ButL [bl] w.heap.size w w' := by
  obtain ⟨c0, c1⟩ := q.c
  have hlim := q.lim
  obtain ⟨v, A, cap, hv, hr⟩ := q.row i hi
  have hc : w.cell? ⟨bl, i, none⟩ = some (.slice A (L i).length cap) := (q.tab.cell i).trans (hv.trans (by rw [hr.is]))
  have hfit := hr.fit
  have hnil := hr.nil
  have hrd := hr.rd
  have hhl := q.hd.lt
  have hbl := q.tab.lt
  have e1 : (i : Int) < (Q : Int) := by omega
  have e2 : (0 : Int) ≤ (i : Int) := by omega
  have e3 : (n : Int) < (N : Int) := by omega
  have HF := Lib.hid (find_no q n (fun j hj x hx e => hl j hj (by
    have : x = n := by omega
    rw [← this]
    exact hx)))
  have HS : Hid (∀ W, Below w.heap.size w W → SQ h bl i Q A (L i).length cap W) := Lib.hid (fun W hW => ⟨(hW.cell (p := ⟨h, 1, none⟩) hhl).trans c1, (hW.cell (p := ⟨bl, i, none⟩) hbl).trans hc⟩)
  clear hl hv
  go_enter Try.func44, Try.ntmps44
  go_wp2_with (first | (go_at_call 48; refine HF.out.mono ?_; rintro e w' ⟨rfl, rfl⟩) | (go_at_call 28; refine (rhas_yes q i hi).mono ?_; rintro e w' ⟨rfl, rfl⟩) | fail)
  refine wp_region_T (S := SQ h bl i Q A (L i).length cap) 18 (by kernel_rfl) ?_
  have hb1 : Below w.heap.size w w.drew := by (repeat (first | with_reducible exact Below.refl _ _ | (with_reducible assumption) | (with_reducible refine below_alloc ?_ _) | (with_reducible refine below_ext (w1 := ?_) ?_ ?_; rotate_left 2; (with_reducible assumption)) | (with_reducible refine Below.setCell ?_ ?_ _; rotate_left; ((try simp) <;> omega)) | (with_reducible refine Below.drew ?_) | (with_reducible refine below_drewN ?_ _) | fail))
  have hz1 : w.drew.heap.size = w.heap.size := rfl
  generalize w.drew = w1 at hb1 hz1 ⊢
  have hS := HS.out _ hb1
  (refine T_take (i := 0) rfl (by kernel_rfl) (fun _ _ _ _ h => h) hS ?_; apply Exists.intro; refine ⟨.inl ⟨by rfl, fun W hW => ?_⟩, ?_⟩; (next => (obtain ⟨hs1, hs2⟩ := hW; go_simp; first | done | rfl)); simp only [Act.put, List.setIfInBounds_toArray, List.set_cons_zero, List.set_cons_succ])
  (refine T_take (i := 1) rfl (by kernel_rfl) (fun _ _ _ _ h => h) hS ?_; apply Exists.intro; refine ⟨.inl ⟨by rfl, fun W hW => ?_⟩, ?_⟩; (next => (obtain ⟨hs1, hs2⟩ := hW; go_simp; first | done | rfl)); simp only [Act.put, List.setIfInBounds_toArray, List.set_cons_zero, List.set_cons_succ])
  (refine T_take (i := 2) rfl (by kernel_rfl) (fun _ _ _ _ h => h) hS ?_; apply Exists.intro; refine ⟨.inl ⟨by rfl, fun W hW => ?_⟩, ?_⟩; (next => (obtain ⟨hs1, hs2⟩ := hW; go_simp; first | done | rfl)); simp only [Act.put, List.setIfInBounds_toArray, List.set_cons_zero, List.set_cons_succ])
  (refine T_take (i := 3) rfl (by kernel_rfl) (fun _ _ _ _ h => h) hS ?_; apply Exists.intro; refine ⟨.inl ⟨by rfl, fun W hW => ?_⟩, ?_⟩; (next => (obtain ⟨hs1, hs2⟩ := hW; go_simp; first | done | rfl)); simp only [Act.put, List.setIfInBounds_toArray, List.set_cons_zero, List.set_cons_succ])
  (refine T_take (i := 4) rfl (by kernel_rfl) (fun _ _ _ _ h => h) hS ?_; apply Exists.intro; refine ⟨.inl ⟨by rfl, fun W hW => ?_⟩, ?_⟩; (next => (obtain ⟨hs1, hs2⟩ := hW; go_simp; first | done | rfl)); simp only [Act.put, List.setIfInBounds_toArray, List.set_cons_zero, List.set_cons_succ])
  (refine T_take (i := 6) rfl (by kernel_rfl) (fun _ _ _ _ h => h) hS ?_; apply Exists.intro; refine ⟨.inl ⟨by rfl, fun W hW => ?_⟩, ?_⟩; (next => (obtain ⟨hs1, hs2⟩ := hW; go_simp; first | done | rfl)); simp only [Act.put, List.setIfInBounds_toArray, List.set_cons_zero, List.set_cons_succ])
  (refine T_take (i := 7) rfl (by kernel_rfl) (fun _ _ _ _ h => h) hS ?_; apply Exists.intro; refine ⟨.inl ⟨by rfl, fun W hW => ?_⟩, ?_⟩; (next => (obtain ⟨hs1, hs2⟩ := hW; go_simp; first | done | rfl)); simp only [Act.put, List.setIfInBounds_toArray, List.set_cons_zero, List.set_cons_succ])
  (refine T_take (i := 8) rfl (by kernel_rfl) (fun _ _ _ _ h => h) hS ?_; apply Exists.intro; refine ⟨.inl ⟨by rfl, fun W hW => ?_⟩, ?_⟩; (next => (obtain ⟨hs1, hs2⟩ := hW; go_simp; first | done | rfl)); simp only [Act.put, List.setIfInBounds_toArray, List.set_cons_zero, List.set_cons_succ])
  (refine T_take (i := 9) rfl (by kernel_rfl) (fun _ _ _ _ h => h) hS ?_; apply Exists.intro; refine ⟨.inl ⟨by rfl, fun W hW => ?_⟩, ?_⟩; (next => (obtain ⟨hs1, hs2⟩ := hW; go_simp; first | done | rfl)); simp only [Act.put, List.setIfInBounds_toArray, List.set_cons_zero, List.set_cons_succ])
  (refine T_take (i := 10) rfl (by kernel_rfl) (fun _ _ _ _ h => h) hS ?_; apply Exists.intro; refine ⟨.inl ⟨by rfl, fun W hW => ?_⟩, ?_⟩; (next => (obtain ⟨hs1, hs2⟩ := hW; go_simp; first | done | rfl)); simp only [Act.put, List.setIfInBounds_toArray, List.set_cons_zero, List.set_cons_succ])
  (refine T_take (i := 11) rfl (by kernel_rfl) (fun _ _ _ _ h => h) hS ?_; apply Exists.intro; refine ⟨.inl ⟨by rfl, fun W hW => ?_⟩, ?_⟩; (next => (obtain ⟨hs1, hs2⟩ := hW; go_simp; first | done | rfl)); simp only [Act.put, List.setIfInBounds_toArray, List.set_cons_zero, List.set_cons_succ])
  (refine T_take (i := 12) rfl (by kernel_rfl) (fun _ _ _ _ h => h) hS ?_; apply Exists.intro; refine ⟨.inl ⟨by rfl, fun W hW => ?_⟩, ?_⟩; (next => (obtain ⟨hs1, hs2⟩ := hW; go_simp; first | done | rfl)); simp only [Act.put, List.setIfInBounds_toArray, List.set_cons_zero, List.set_cons_succ])
  (refine T_take (i := 14) rfl (by kernel_rfl) (fun _ _ _ _ h => h) hS ?_; apply Exists.intro; refine ⟨.inl ⟨by rfl, fun W hW => ?_⟩, ?_⟩; (next => (obtain ⟨hs1, hs2⟩ := hW; go_simp; first | done | rfl)); simp only [Act.put, List.setIfInBounds_toArray, List.set_cons_zero, List.set_cons_succ])
  refine T_all [5, 15] (by kernel_rfl) (by decide) ?_
  intro j hj
  simp only [List.mem_cons, List.mem_nil_iff, or_false, List.not_mem_nil] at hj
  rcases hj with rfl | rfl
  · refine T_op rfl (by rfl) ?_
    refine wp_build0 _ 3 (by rfl) 1 Try.underlying28 (by kernel_rfl) w.heap.size (by omega) ?_
    intro w2 hown hb2' hz2
    have hb2 : Below w.heap.size w w2 := hb1.trans (hb2'.mono (by omega))
    refine ⟨.inr (HS.out _ hb2), ?_⟩
    simp only [Act.put, List.setIfInBounds_toArray, List.set_cons_zero, List.set_cons_succ]
    refine T_all [13, 15] (by kernel_rfl) (by decide) ?_
    intro j hj
    simp only [List.mem_cons, List.mem_nil_iff, or_false, List.not_mem_nil] at hj
    rcases hj with rfl | rfl
    · refine T_op rfl (by rfl) ?_
      refine wp_append_rd _ _ _ (by rfl) w.heap.size 3 (.int .i64 0) 1 8 Try.underlying28 (by kernel_rfl) ⟨rfl, by decide⟩ (.slice (some ⟨w1.heap.size, 0, none⟩) 0 0) 0 [] (by rfl) hown A (L i).length cap ((L i).map nrow) (by rfl) (hrd.below hb2) ⟨List.length_map _, nrow_ok _⟩ hnil ⟨by unfold maxLen; omega, by omega⟩ (by omega) ?_
      intro v1 w3 hown1 hb3' hz3 hk3
      have hb3 : Below w.heap.size w w3 := hb2.trans hb3'
      refine ⟨.inr (HS.out _ hb3), ?_⟩
      simp only [Act.put, List.setIfInBounds_toArray, List.set_cons_zero, List.set_cons_succ]
      refine T_all [15] (by kernel_rfl) (by decide) ?_
      intro j hj
      simp only [List.mem_cons, List.mem_nil_iff, or_false, List.not_mem_nil] at hj
      subst hj
      refine T_op rfl (by rfl) ?_
      refine wp_build1 _ 3 _ (by rfl) (.int .i64 0) 1 Try.underlying28 (by kernel_rfl) ⟨by decide, by decide⟩ (.int .i64 n) (by rfl) #[.int .i64 n] (by kernel_rfl) ?_
      intro w4 hB hb4' hz4
      have hb4 : Below w.heap.size w w4 := hb3.trans (hb4'.mono (by omega))
      refine ⟨.inr (HS.out _ hb4), ?_⟩
      simp only [Act.put, List.setIfInBounds_toArray, List.set_cons_zero, List.set_cons_succ]
      refine T_all [16] (by kernel_rfl) (by decide) ?_
      intro j hj
      simp only [List.mem_cons, List.mem_nil_iff, or_false, List.not_mem_nil] at hj
      subst hj
      refine T_op rfl (by rfl) ?_
      refine wp_append_rd _ _ _ (by rfl) w.heap.size 3 (.int .i64 0) 1 8 Try.underlying28 (by kernel_rfl) ⟨rfl, by decide⟩ v1 (0 + (L i).length) _ (by rfl) (owns_ext hown1 hb4') (some ⟨w3.heap.size, 0, none⟩) 1 1 [nrow n] (by rfl) (rd_own hB (by simp [nrow]) (n := 1) (by simp [nrow])) ⟨rfl, nrow_ok [n]⟩ (by simp) ⟨by unfold maxLen; omega, by omega⟩ (by omega) ?_
      intro v2 w5 hown2 hb5' hz5 hk5
      have hb5 : Below w.heap.size w w5 := hb4.trans hb5'
      refine ⟨.inr (HS.out _ hb5), ?_⟩
      simp only [Act.put, List.setIfInBounds_toArray, List.set_cons_zero, List.set_cons_succ]
      have hS := HS.out _ hb5
      (refine T_take (i := 17) rfl (by kernel_rfl) (fun _ _ _ _ h => h) hS ?_; apply Exists.intro; refine ⟨.inl ⟨by rfl, fun W hW => ?_⟩, ?_⟩; (next => (obtain ⟨hs1, hs2⟩ := hW; go_simp; first | done | rfl)); simp only [Act.put, List.setIfInBounds_toArray, List.set_cons_zero, List.set_cons_succ])
      refine T_all [18] (by kernel_rfl) (by decide) ?_
      intro j hj
      simp only [List.mem_cons, List.mem_nil_iff, or_false, List.not_mem_nil] at hj
      subst hj
      refine T_op rfl (by rfl) ?_
      have hbl' : Blk w5 bl 28 cl := (hb5.block bl hbl).trans q.tab
      refine wp_store_fld _ _ _ (by rfl) bl i (by rfl) v2 (by rfl) _ cl hbl' (by have := q.size; omega) (by kernel_rfl) (owns_cells hown2).1 (owns_cells hown2).2 ?_
      intro w6 hst hus
      refine ⟨.inl rfl, ?_⟩
      simp only [Act.put, List.setIfInBounds_toArray, List.set_cons_zero, List.set_cons_succ]
      refine T_done (by kernel_rfl) ?_
      go_wp2_with fail
      go_ret
      exact ⟨rfl, ⟨_, q.set hi hb5 (l := L i ++ [n]) (by rw [nrow_snoc]; simpa [flatN] using hown2) (by simp; omega) hst hus⟩, (ButL.of_below hb5).upd (by simp) hus⟩
    · refine T_op rfl (by rfl) ?_
      refine wp_build1 _ 3 _ (by rfl) (.int .i64 0) 1 Try.underlying28 (by kernel_rfl) ⟨by decide, by decide⟩ (.int .i64 n) (by rfl) #[.int .i64 n] (by kernel_rfl) ?_
      intro w3 hB hb3' hz3
      have hb3 : Below w.heap.size w w3 := hb2.trans (hb3'.mono (by omega))
      refine ⟨.inr (HS.out _ hb3), ?_⟩
      simp only [Act.put, List.setIfInBounds_toArray, List.set_cons_zero, List.set_cons_succ]
      refine T_all [13] (by kernel_rfl) (by decide) ?_
      intro j hj
      simp only [List.mem_cons, List.mem_nil_iff, or_false, List.not_mem_nil] at hj
      subst hj
      refine T_op rfl (by rfl) ?_
      refine wp_append_rd _ _ _ (by rfl) w.heap.size 3 (.int .i64 0) 1 8 Try.underlying28 (by kernel_rfl) ⟨rfl, by decide⟩ (.slice (some ⟨w1.heap.size, 0, none⟩) 0 0) 0 [] (by rfl) (owns_ext hown hb3') A (L i).length cap ((L i).map nrow) (by rfl) (hrd.below hb3) ⟨List.length_map _, nrow_ok _⟩ hnil ⟨by unfold maxLen; omega, by omega⟩ (by omega) ?_
      intro v1 w4 hown1 hb4' hz4 hk4
      have hb4 : Below w.heap.size w w4 := hb3.trans hb4'
      refine ⟨.inr (HS.out _ hb4), ?_⟩
      simp only [Act.put, List.setIfInBounds_toArray, List.set_cons_zero, List.set_cons_succ]
      refine T_all [16] (by kernel_rfl) (by decide) ?_
      intro j hj
      simp only [List.mem_cons, List.mem_nil_iff, or_false, List.not_mem_nil] at hj
      subst hj
      refine T_op rfl (by rfl) ?_
      refine wp_append_rd _ _ _ (by rfl) w.heap.size 3 (.int .i64 0) 1 8 Try.underlying28 (by kernel_rfl) ⟨rfl, by decide⟩ v1 (0 + (L i).length) _ (by rfl) hown1 (some ⟨w2.heap.size, 0, none⟩) 1 1 [nrow n] (by rfl) (rd_own (show Blk w4 w2.heap.size 3 #[.int .i64 n] from (hk4 _ (Blk.lt hB) (by simp [Value.ownBlock]; omega)).trans hB) (by simp [nrow]) (n := 1) (by simp [nrow])) ⟨rfl, nrow_ok [n]⟩ (by simp) ⟨by unfold maxLen; omega, by omega⟩ (by omega) ?_
      intro v2 w5 hown2 hb5' hz5 hk5
      have hb5 : Below w.heap.size w w5 := hb4.trans hb5'
      refine ⟨.inr (HS.out _ hb5), ?_⟩
      simp only [Act.put, List.setIfInBounds_toArray, List.set_cons_zero, List.set_cons_succ]
      have hS := HS.out _ hb5
      (refine T_take (i := 17) rfl (by kernel_rfl) (fun _ _ _ _ h => h) hS ?_; apply Exists.intro; refine ⟨.inl ⟨by rfl, fun W hW => ?_⟩, ?_⟩; (next => (obtain ⟨hs1, hs2⟩ := hW; go_simp; first | done | rfl)); simp only [Act.put, List.setIfInBounds_toArray, List.set_cons_zero, List.set_cons_succ])
      refine T_all [18] (by kernel_rfl) (by decide) ?_
      intro j hj
      simp only [List.mem_cons, List.mem_nil_iff, or_false, List.not_mem_nil] at hj
      subst hj
      refine T_op rfl (by rfl) ?_
      have hbl' : Blk w5 bl 28 cl := (hb5.block bl hbl).trans q.tab
      refine wp_store_fld _ _ _ (by rfl) bl i (by rfl) v2 (by rfl) _ cl hbl' (by have := q.size; omega) (by kernel_rfl) (owns_cells hown2).1 (owns_cells hown2).2 ?_
      intro w6 hst hus
      refine ⟨.inl rfl, ?_⟩
      simp only [Act.put, List.setIfInBounds_toArray, List.set_cons_zero, List.set_cons_succ]
      refine T_done (by kernel_rfl) ?_
      go_wp2_with fail
      go_ret
      exact ⟨rfl, ⟨_, q.set hi hb5 (l := L i ++ [n]) (by rw [nrow_snoc]; simpa [flatN] using hown2) (by simp; omega) hst hus⟩, (ButL.of_below hb5).upd (by simp) hus⟩
  · refine T_op rfl (by rfl) ?_
    refine wp_build1 _ 3 _ (by rfl) (.int .i64 0) 1 Try.underlying28 (by kernel_rfl) ⟨by decide, by decide⟩ (.int .i64 n) (by rfl) #[.int .i64 n] (by kernel_rfl) ?_
    intro w2 hB hb2' hz2
    have hb2 : Below w.heap.size w w2 := hb1.trans (hb2'.mono (by omega))
    refine ⟨.inr (HS.out _ hb2), ?_⟩
    simp only [Act.put, List.setIfInBounds_toArray, List.set_cons_zero, List.set_cons_succ]
    refine T_all [5] (by kernel_rfl) (by decide) ?_
    intro j hj
    simp only [List.mem_cons, List.mem_nil_iff, or_false, List.not_mem_nil] at hj
    subst hj
    refine T_op rfl (by rfl) ?_
    refine wp_build0 _ 3 (by rfl) 1 Try.underlying28 (by kernel_rfl) w.heap.size (by omega) ?_
    intro w3 hown hb3' hz3
    have hb3 : Below w.heap.size w w3 := hb2.trans (hb3'.mono (by omega))
    refine ⟨.inr (HS.out _ hb3), ?_⟩
    simp only [Act.put, List.setIfInBounds_toArray, List.set_cons_zero, List.set_cons_succ]
    refine T_all [13] (by kernel_rfl) (by decide) ?_
    intro j hj
    simp only [List.mem_cons, List.mem_nil_iff, or_false, List.not_mem_nil] at hj
    subst hj
    refine T_op rfl (by rfl) ?_
    refine wp_append_rd _ _ _ (by rfl) w.heap.size 3 (.int .i64 0) 1 8 Try.underlying28 (by kernel_rfl) ⟨rfl, by decide⟩ (.slice (some ⟨w2.heap.size, 0, none⟩) 0 0) 0 [] (by rfl) hown A (L i).length cap ((L i).map nrow) (by rfl) (hrd.below hb3) ⟨List.length_map _, nrow_ok _⟩ hnil ⟨by unfold maxLen; omega, by omega⟩ (by omega) ?_
    intro v1 w4 hown1 hb4' hz4 hk4
    have hb4 : Below w.heap.size w w4 := hb3.trans hb4'
    refine ⟨.inr (HS.out _ hb4), ?_⟩
    simp only [Act.put, List.setIfInBounds_toArray, List.set_cons_zero, List.set_cons_succ]
    refine T_all [16] (by kernel_rfl) (by decide) ?_
    intro j hj
    simp only [List.mem_cons, List.mem_nil_iff, or_false, List.not_mem_nil] at hj
    subst hj
    refine T_op rfl (by rfl) ?_
    refine wp_append_rd _ _ _ (by rfl) w.heap.size 3 (.int .i64 0) 1 8 Try.underlying28 (by kernel_rfl) ⟨rfl, by decide⟩ v1 (0 + (L i).length) _ (by rfl) hown1 (some ⟨w1.heap.size, 0, none⟩) 1 1 [nrow n] (by rfl) (rd_own (show Blk w4 w1.heap.size 3 #[.int .i64 n] from (hk4 _ (Blk.lt (Blk.ext hB hb3')) (by simp [Value.ownBlock]; omega)).trans (Blk.ext hB hb3')) (by simp [nrow]) (n := 1) (by simp [nrow])) ⟨rfl, nrow_ok [n]⟩ (by simp) ⟨by unfold maxLen; omega, by omega⟩ (by omega) ?_
    intro v2 w5 hown2 hb5' hz5 hk5
    have hb5 : Below w.heap.size w w5 := hb4.trans hb5'
    refine ⟨.inr (HS.out _ hb5), ?_⟩
    simp only [Act.put, List.setIfInBounds_toArray, List.set_cons_zero, List.set_cons_succ]
    have hS := HS.out _ hb5
    (refine T_take (i := 17) rfl (by kernel_rfl) (fun _ _ _ _ h => h) hS ?_; apply Exists.intro; refine ⟨.inl ⟨by rfl, fun W hW => ?_⟩, ?_⟩; (next => (obtain ⟨hs1, hs2⟩ := hW; go_simp; first | done | rfl)); simp only [Act.put, List.setIfInBounds_toArray, List.set_cons_zero, List.set_cons_succ])
    refine T_all [18] (by kernel_rfl) (by decide) ?_
    intro j hj
    simp only [List.mem_cons, List.mem_nil_iff, or_false, List.not_mem_nil] at hj
    subst hj
    refine T_op rfl (by rfl) ?_
    have hbl' : Blk w5 bl 28 cl := (hb5.block bl hbl).trans q.tab
    refine wp_store_fld _ _ _ (by rfl) bl i (by rfl) v2 (by rfl) _ cl hbl' (by have := q.size; omega) (by kernel_rfl) (owns_cells hown2).1 (owns_cells hown2).2 ?_
    intro w6 hst hus
    refine ⟨.inl rfl, ?_⟩
    simp only [Act.put, List.setIfInBounds_toArray, List.set_cons_zero, List.set_cons_succ]
    refine T_done (by kernel_rfl) ?_
    go_wp2_with fail
    go_ret
    exact ⟨rfl, ⟨_, q.set hi hb5 (l := L i ++ [n]) (by rw [nrow_snoc]; simpa [flatN] using hown2) (by simp; omega) hst hus⟩, (ButL.of_below hb5).upd (by simp) hus⟩
theorem rpush_node (q : RQ w h bl N Q L cl) (i : Int) (n : Int) (hn : n < 0 ∨ (N : Int) ≤ n) (hf : ∀ k, k < Q → ∀ x ∈ L k, x < N) : Calls Try.prog 44 #[.pointer (some ⟨h, 0, none⟩), .int .i64 i, .int .i64 n] w fun e w' => e = .returned (.bool false) ∧ w = w' := by
  obtain ⟨c0, c1⟩ := q.c
  have hlim := q.lim
  have HF := Lib.hid (find_no q n (fun j hj x hx e => by
    have := hf j hj x hx
    omega))
  by_cases hi : i < 0 ∨ (Q : Int) ≤ i
  · have HI := Lib.hid hi
    clear hi hf hn
    go_enter Try.func44, Try.ntmps44
    go_wp2_with (first | (go_at_call 48; refine HF.out.mono ?_; rintro e w' ⟨rfl, rfl⟩) | (go_at_call 28; refine (rhas_no q i HI.out).mono ?_; rintro e w' ⟨rfl, rfl⟩) | fail)
    go_ret
    exact ⟨rfl, rfl⟩
  · obtain ⟨i, rfl⟩ : ∃ m : Nat, i = m := ⟨i.toNat, by omega⟩
    have hiQ : i < Q := by omega
    clear hi hf
    by_cases h0 : n < 0
    · clear hn
      have e1 : decide (n < 0) = true := decide_eq_true h0
      go_enter Try.func44, Try.ntmps44
      go_wp2_with (first | (go_at_call 48; refine HF.out.mono ?_; rintro e w' ⟨rfl, rfl⟩) | (go_at_call 28; refine (rhas_yes q i hiQ).mono ?_; rintro e w' ⟨rfl, rfl⟩) | fail)
      all_goals (go_ret; exact ⟨rfl, rfl⟩)
    · have e1 : decide (n < 0) = false := decide_eq_false h0
      have e2 : decide ((N : Int) ≤ n) = true := decide_eq_true (by omega)
      clear hn
      go_enter Try.func44, Try.ntmps44
      go_wp2_with (first | (go_at_call 48; refine HF.out.mono ?_; rintro e w' ⟨rfl, rfl⟩) | (go_at_call 28; refine (rhas_yes q i hiQ).mono ?_; rintro e w' ⟨rfl, rfl⟩) | fail)
      all_goals (go_ret; exact ⟨rfl, rfl⟩)
theorem rpush_queue (q : RQ w h bl N Q L cl) (i : Int) (n : Int) (hi : i < 0 ∨ (Q : Int) ≤ i) (hF : Calls Try.prog 48 #[.pointer (some ⟨h, 0, none⟩), .int .i64 n] w fun e w' => (∃ x y : Int, e = .returned (.tuple #[.int .i64 x, .int .i64 y])) ∧ w = w') : Calls Try.prog 44 #[.pointer (some ⟨h, 0, none⟩), .int .i64 i, .int .i64 n] w fun e w' => e = .returned (.bool false) ∧ w = w' := by
  obtain ⟨c0, c1⟩ := q.c
  have HI := Lib.hid hi
  have HF := Lib.hid hF
  clear hi hF
  go_enter Try.func44, Try.ntmps44
  go_wp2_with (first | (go_at_call 48; refine HF.out.mono ?_; rintro e w' ⟨⟨x, y, rfl⟩, rfl⟩) | (go_at_call 28; refine (rhas_no q i HI.out).mono ?_; rintro e w' ⟨rfl, rfl⟩) | fail)
  go_ret
  exact ⟨rfl, rfl⟩
theorem rpush_busy (q : RQ w h bl N Q L cl) (i j n : Nat) (k : Int) (hi : i < Q) (hn : n < N) (hF : Calls Try.prog 48 #[.pointer (some ⟨h, 0, none⟩), .int .i64 n] w fun e w' => e = .returned (.tuple #[.int .i64 j, .int .i64 k]) ∧ w = w') : Calls Try.prog 44 #[.pointer (some ⟨h, 0, none⟩), .int .i64 i, .int .i64 n] w fun e w' => e = .returned (.bool false) ∧ w = w' := by
  obtain ⟨c0, c1⟩ := q.c
  have hlim := q.lim
  have HF := Lib.hid hF
  clear hF
  have e1 : decide ((n : Int) < 0) = false := decide_eq_false (by omega)
  have e2 : decide ((N : Int) ≤ (n : Int)) = false := decide_eq_false (by omega)
  go_enter Try.func44, Try.ntmps44
  go_wp2_with (first | (go_at_call 48; refine HF.out.mono ?_; rintro e w' ⟨rfl, rfl⟩) | (go_at_call 28; refine (rhas_yes q i hi).mono ?_; rintro e w' ⟨rfl, rfl⟩) | fail)
  all_goals (go_ret; exact ⟨rfl, rfl⟩)
theorem rd_cut {W : World} {b0 o : Nat} {l a b : List Nat} (h : Rd W 1 (some ⟨b0, o, none⟩) (l.map nrow)) (e : l = a ++ b) : Rd W 1 (some ⟨b0, o, none⟩) (a.map nrow) ∧ Rd W 1 (some ⟨b0, o + a.length, none⟩) (b.map nrow) := by
  subst e
  refine ⟨fun hne => ?_, fun hne => ?_⟩
  · obtain ⟨b1, o1, e1, hc⟩ := h (by intro h0; apply hne; simp at h0; simp [h0.1])
    refine ⟨b1, o1, e1, fun i j u hu => hc i j u ?_⟩
    by_cases hi : i < a.length
    · rw [List.map_append, List.getD_eq_getElem?_getD, List.getElem?_append_left (by simpa using hi), ← List.getD_eq_getElem?_getD]
      exact hu
    · rw [List.getD_eq_getElem?_getD, List.getElem?_eq_none (l := a.map nrow) (i := i) (by simpa using hi)] at hu
      simp at hu
  · obtain ⟨b1, o1, e1, hc⟩ := h (by intro h0; apply hne; simp at h0; simp [h0.2])
    injection e1 with e1
    injection e1 with e2 e3
    subst e2 e3
    refine ⟨_, _, rfl, fun i j u hu => ?_⟩
    have h1 := hc (a.length + i) j u (by
      rw [List.map_append, List.getD_eq_getElem?_getD, List.getElem?_append_right (by simp)]
      rw [List.getD_eq_getElem?_getD] at hu
      simpa using hu)
    rw [← h1]
    congr 2
    omega
theorem flatN_app (a b : List Nat) : flatN (a ++ b) = flatN a ++ flatN b := by simp [flatN]
theorem cut_head (A : Addr) (len cap k : Nat) (hk : k ≤ cap) (hc : 0 < cap) (W : World) : (Instr.sliceAt 28 (.slice (some A) len cap) none (some (.int .i64 k)) none).run Try.prog W = .ok (.slice (some (A.add 0)) k cap) W := by
  have ht : Try.prog.underlying 28 = some (.slice (Try.prog.elem 28)) := by kernel_rfl
  have he : Try.prog.elem 28 = 3 := by kernel_rfl
  obtain ⟨i, hi, hz, hs, hby⟩ := info_parts (P := Try.prog) (e := 3) (z := .int .i64 0) (size := 1) (bytes := 8) (by kernel_rfl)
  rw [run_sliceAt_slice (h := ht), run_slice_h (ht := ht) (kh := .i64) (h := (k : Int)) (cap := cap) (h0 := by omega) (h2 := by omega), he]
  have h0 : ¬ cap = 0 := by omega
  simp [sizeOf, typeInfo, hi, sliced, h0]
theorem cut_tail (A : Addr) (len cap k : Nat) (hk : k ≤ len) (W : World) : (Instr.sliceAt 28 (.slice (some A) len cap) (some (.int .i64 k)) none none).run Try.prog W = .ok (.slice (some (if cap = k then A else A.add k)) (len - k) (cap - k)) W := by
  have ht : Try.prog.underlying 28 = some (.slice (Try.prog.elem 28)) := by kernel_rfl
  have he : Try.prog.elem 28 = 3 := by kernel_rfl
  obtain ⟨i, hi, hz, hs, hby⟩ := info_parts (P := Try.prog) (e := 3) (z := .int .i64 0) (size := 1) (bytes := 8) (by kernel_rfl)
  rw [run_sliceAt_slice (h := ht), run_slice_l (ht := ht) (kl := .i64) (l := (k : Int)) (len := len) (h0 := by omega) (h1 := by omega), he]
  simp only [sizeOf, typeInfo, Sem.run_bind]
  simp [hi, sliced, hs]
  split <;> simp_all
theorem rremove_yes (q : RQ w h bl N Q L cl) (i n : Nat) (a b : List Nat) (hi : i < Q) (he : L i = a ++ n :: b) (ha : n ∉ a) (hb : ∀ j, j < i → n ∉ L j) : Calls Try.prog 46 #[.pointer (some ⟨h, 0, none⟩), .int .i64 n] w fun e w' => e = .returned (.tuple #[.int .i64 i, .bool true]) ∧ (∃ cl', RQ w' h bl N Q (up L i (a ++ b)) cl' ∧ ∀ B, B ≤ w.heap.size → Far B cl → Far B cl') ∧ ButL [bl] w.heap.size w w' := by
  obtain ⟨c0, c1⟩ := q.c
  have hlim := q.lim
  obtain ⟨v, A, cap, hv, hr⟩ := q.row i hi
  have hl : (L i).length = a.length + 1 + b.length := by rw [he]; simp; omega
  have hfit := hr.fit
  have hl5 := hr.len
  have hla : a.length ≤ 500 := by omega
  have hlb : b.length ≤ 500 := by omega
  have hab : a.length + b.length ≤ 500 := by omega
  obtain ⟨b0, o, rfl, -⟩ := hr.at (m := 0) (by omega)
  have hc : w.cell? ⟨bl, i, none⟩ = some (.slice (some ⟨b0, o, none⟩) (a.length + 1 + b.length) cap) := (q.tab.cell i).trans (hv.trans (by rw [hr.is, hl]))
  have hR := hr.rd
  rw [he] at hR
  have hA := (rd_cut hR (a := a) (b := n :: b) rfl).1
  have hB0 := (rd_cut hR (a := a ++ [n]) (b := b) (by simp)).2
  have hB : Rd w 1 (some (if cap = a.length + 1 then ⟨b0, o, none⟩ else ⟨b0, o + (a.length + 1), none⟩)) (b.map nrow) := by
    by_cases e : cap = a.length + 1
    · have h0 : b = [] := List.eq_nil_of_length_eq_zero (by omega)
      subst h0
      exact fun hne => absurd rfl hne
    · rw [if_neg e]
      simpa using hB0
  have hs1 := Lib.hid (cut_head ⟨b0, o, none⟩ (a.length + 1 + b.length) cap a.length (by omega) (by omega))
  have hs2 := Lib.hid (cut_tail ⟨b0, o, none⟩ (a.length + 1 + b.length) cap (a.length + 1) (by omega))
  simp only [addr_add, Nat.add_zero] at hs1 hs2
  rw [show a.length + 1 + b.length - (a.length + 1) = b.length from by omega] at hs2
  push_cast at hs2
  generalize (if cap = a.length + 1 then (⟨b0, o, none⟩ : Addr) else ⟨b0, o + (a.length + 1), none⟩) = A2 at hs2 hB
  have hhl := q.hd.lt
  have hbl := q.tab.lt
  have e1 : (i : Int) < (Q : Int) := by omega
  have e2 : (0 : Int) ≤ (i : Int) := by omega
  have HF := Lib.hid (find_yes q i n a b hi he ha hb)
  have HS : Hid (∀ W, Below w.heap.size w W → SQ h bl i Q (some ⟨b0, o, none⟩) (a.length + 1 + b.length) cap W) := Lib.hid (fun W hW => ⟨(hW.cell (p := ⟨h, 1, none⟩) hhl).trans c1, (hW.cell (p := ⟨bl, i, none⟩) hbl).trans hc⟩)
  clear he hv ha hb hB0 hR hl hr
  go_enter Try.func46, Try.ntmps46
  go_wp2_with (first | (go_at_call 48; refine HF.out.mono ?_; rintro e w' ⟨rfl, rfl⟩) | fail)
  refine wp_region_T (S := SQ h bl i Q (some ⟨b0, o, none⟩) (a.length + 1 + b.length) cap) 28 (by kernel_rfl) ?_
  have hb1 : Below w.heap.size w w.drew := by (repeat (first | with_reducible exact Below.refl _ _ | (with_reducible assumption) | (with_reducible refine below_alloc ?_ _) | (with_reducible refine below_ext (w1 := ?_) ?_ ?_; rotate_left 2; (with_reducible assumption)) | (with_reducible refine Below.setCell ?_ ?_ _; rotate_left; ((try simp) <;> omega)) | (with_reducible refine Below.drew ?_) | (with_reducible refine below_drewN ?_ _) | fail))
  have hz1 : w.drew.heap.size = w.heap.size := rfl
  generalize w.drew = w1 at hb1 hz1 ⊢
  have hS := HS.out _ hb1
  (refine T_take (i := 0) rfl (by kernel_rfl) (fun _ _ _ _ h => h) hS ?_; apply Exists.intro; refine ⟨.inl ⟨by rfl, fun W hW => ?_⟩, ?_⟩; (next => (obtain ⟨hs1, hs2⟩ := hW; go_simp; first | done | rfl)); simp only [Act.put, List.setIfInBounds_toArray, List.set_cons_zero, List.set_cons_succ])
  (refine T_take (i := 1) rfl (by kernel_rfl) (fun _ _ _ _ h => h) hS ?_; apply Exists.intro; refine ⟨.inl ⟨by rfl, fun W hW => ?_⟩, ?_⟩; (next => (obtain ⟨hs1, hs2⟩ := hW; go_simp; first | done | rfl)); simp only [Act.put, List.setIfInBounds_toArray, List.set_cons_zero, List.set_cons_succ])
  (refine T_take (i := 2) rfl (by kernel_rfl) (fun _ _ _ _ h => h) hS ?_; apply Exists.intro; refine ⟨.inl ⟨by rfl, fun W hW => ?_⟩, ?_⟩; (next => (obtain ⟨hs1, hs2⟩ := hW; go_simp; first | done | rfl)); simp only [Act.put, List.setIfInBounds_toArray, List.set_cons_zero, List.set_cons_succ])
  (refine T_take (i := 3) rfl (by kernel_rfl) (fun _ _ _ _ h => h) hS ?_; apply Exists.intro; refine ⟨.inl ⟨by rfl, fun W hW => ?_⟩, ?_⟩; (next => (obtain ⟨hs1, hs2⟩ := hW; go_simp; first | done | rfl)); simp only [Act.put, List.setIfInBounds_toArray, List.set_cons_zero, List.set_cons_succ])
  (refine T_take (i := 4) rfl (by kernel_rfl) (fun _ _ _ _ h => h) hS ?_; apply Exists.intro; refine ⟨.inl ⟨by rfl, fun W hW => ?_⟩, ?_⟩; (next => (obtain ⟨hs1, hs2⟩ := hW; go_simp; first | done | rfl)); simp only [Act.put, List.setIfInBounds_toArray, List.set_cons_zero, List.set_cons_succ])
  (refine T_take (i := 6) rfl (by kernel_rfl) (fun _ _ _ _ h => h) hS ?_; apply Exists.intro; refine ⟨.inl ⟨by rfl, fun W hW => ?_⟩, ?_⟩; (next => (obtain ⟨hs1, hs2⟩ := hW; go_simp; first | done | rfl)); simp only [Act.put, List.setIfInBounds_toArray, List.set_cons_zero, List.set_cons_succ])
  (refine T_take (i := 7) rfl (by kernel_rfl) (fun _ _ _ _ h => h) hS ?_; apply Exists.intro; refine ⟨.inl ⟨by rfl, fun W hW => ?_⟩, ?_⟩; (next => (obtain ⟨hs1, hs2⟩ := hW; go_simp; first | done | rfl)); simp only [Act.put, List.setIfInBounds_toArray, List.set_cons_zero, List.set_cons_succ])
  (refine T_take (i := 8) rfl (by kernel_rfl) (fun _ _ _ _ h => h) hS ?_; apply Exists.intro; refine ⟨.inl ⟨by rfl, fun W hW => ?_⟩, ?_⟩; (next => (obtain ⟨hs1, hs2⟩ := hW; go_simp; first | done | rfl)); simp only [Act.put, List.setIfInBounds_toArray, List.set_cons_zero, List.set_cons_succ])
  (refine T_take (i := 9) rfl (by kernel_rfl) (fun _ _ _ _ h => h) hS ?_; apply Exists.intro; refine ⟨.inl ⟨by rfl, fun W hW => ?_⟩, ?_⟩; (next => (obtain ⟨hs1, hs2⟩ := hW; go_simp; first | done | rfl)); simp only [Act.put, List.setIfInBounds_toArray, List.set_cons_zero, List.set_cons_succ])
  (refine T_take (i := 10) rfl (by kernel_rfl) (fun _ _ _ _ h => h) hS ?_; apply Exists.intro; refine ⟨.inl ⟨by rfl, fun W hW => ?_⟩, ?_⟩; (next => (obtain ⟨hs1, hs2⟩ := hW; go_simp; first | done | rfl)); simp only [Act.put, List.setIfInBounds_toArray, List.set_cons_zero, List.set_cons_succ])
  (refine T_take (i := 11) rfl (by kernel_rfl) (fun _ _ _ _ h => h) hS ?_; apply Exists.intro; refine ⟨.inl ⟨by rfl, fun W hW => ?_⟩, ?_⟩; (next => (obtain ⟨hs1, hs2⟩ := hW; go_simp; first | done | rfl)); simp only [Act.put, List.setIfInBounds_toArray, List.set_cons_zero, List.set_cons_succ])
  (refine T_take (i := 12) rfl (by kernel_rfl) (fun _ _ _ _ h => h) hS ?_; apply Exists.intro; refine ⟨.inl ⟨by rfl, fun W hW => ?_⟩, ?_⟩; (next => (obtain ⟨hs1, hs2⟩ := hW; go_simp; first | done | rfl)); simp only [Act.put, List.setIfInBounds_toArray, List.set_cons_zero, List.set_cons_succ])
  (refine T_take (i := 13) rfl (by kernel_rfl) (fun _ _ _ _ h => h) hS ?_; apply Exists.intro; refine ⟨.inl ⟨by rfl, fun W hW => ?_⟩, ?_⟩; (next => (obtain ⟨hs1, hs2⟩ := hW; go_simp; first | done | rfl)); simp only [Act.put, List.setIfInBounds_toArray, List.set_cons_zero, List.set_cons_succ])
  (refine T_take (i := 16) rfl (by kernel_rfl) (fun _ _ _ _ h => h) hS ?_; apply Exists.intro; refine ⟨.inl ⟨by rfl, fun W hW => ?_⟩, ?_⟩; (next => (obtain ⟨hs1, hs2⟩ := hW; go_simp; first | done | rfl)); simp only [Act.put, List.setIfInBounds_toArray, List.set_cons_zero, List.set_cons_succ])
  (refine T_take (i := 17) rfl (by kernel_rfl) (fun _ _ _ _ h => h) hS ?_; apply Exists.intro; refine ⟨.inl ⟨by rfl, fun W hW => ?_⟩, ?_⟩; (next => (obtain ⟨hs1, hs2⟩ := hW; go_simp; first | done | rfl)); simp only [Act.put, List.setIfInBounds_toArray, List.set_cons_zero, List.set_cons_succ])
  (refine T_take (i := 18) rfl (by kernel_rfl) (fun _ _ _ _ h => h) hS ?_; apply Exists.intro; refine ⟨.inl ⟨by rfl, fun W hW => ?_⟩, ?_⟩; (next => (obtain ⟨hs1, hs2⟩ := hW; go_simp; first | done | rfl)); simp only [Act.put, List.setIfInBounds_toArray, List.set_cons_zero, List.set_cons_succ])
  (refine T_take (i := 19) rfl (by kernel_rfl) (fun _ _ _ _ h => h) hS ?_; apply Exists.intro; refine ⟨.inl ⟨by rfl, fun W hW => ?_⟩, ?_⟩; (next => (obtain ⟨hs1, hs2⟩ := hW; go_simp; first | done | rfl)); simp only [Act.put, List.setIfInBounds_toArray, List.set_cons_zero, List.set_cons_succ])
  (refine T_take (i := 20) rfl (by kernel_rfl) (fun _ _ _ _ h => h) hS ?_; apply Exists.intro; refine ⟨.inl ⟨by rfl, fun W hW => ?_⟩, ?_⟩; (next => (obtain ⟨hs1, hs2⟩ := hW; go_simp; first | done | rfl)); simp only [Act.put, List.setIfInBounds_toArray, List.set_cons_zero, List.set_cons_succ])
  (refine T_take (i := 21) rfl (by kernel_rfl) (fun _ _ _ _ h => h) hS ?_; apply Exists.intro; refine ⟨.inl ⟨by rfl, fun W hW => ?_⟩, ?_⟩; (next => (obtain ⟨hs1, hs2⟩ := hW; go_simp; first | done | rfl)); simp only [Act.put, List.setIfInBounds_toArray, List.set_cons_zero, List.set_cons_succ])
  (refine T_take (i := 22) rfl (by kernel_rfl) (fun _ _ _ _ h => h) hS ?_; apply Exists.intro; refine ⟨.inl ⟨by rfl, fun W hW => ?_⟩, ?_⟩; (next => (obtain ⟨hs1, hs2⟩ := hW; go_simp; first | done | rfl)); simp only [Act.put, List.setIfInBounds_toArray, List.set_cons_zero, List.set_cons_succ])
  (refine T_take (i := 23) rfl (by kernel_rfl) (fun _ _ _ _ h => h) hS ?_; apply Exists.intro; refine ⟨.inl ⟨by rfl, fun W hW => ?_⟩, ?_⟩; (next => (obtain ⟨hs1, hs2⟩ := hW; go_simp; first | done | rfl)); simp only [Act.put, List.setIfInBounds_toArray, List.set_cons_zero, List.set_cons_succ])
  (refine T_take (i := 24) rfl (by kernel_rfl) (fun _ _ _ _ h => h) hS ?_; apply Exists.intro; refine ⟨.inl ⟨by rfl, fun W hW => ?_⟩, ?_⟩; (next => (obtain ⟨hs1, hs2⟩ := hW; go_simp; first | done | rfl)); simp only [Act.put, List.setIfInBounds_toArray, List.set_cons_zero, List.set_cons_succ])
  rw [show IntKind.i64.wrap ((a.length : Int) + 1) = (a.length : Int) + 1 from by rw [IntKind.wrap_i64]; omega]
  (refine T_take (i := 14) rfl (by kernel_rfl) (fun _ _ _ _ h => h) hS ?_; refine ⟨_, y_slice _ _ _ _ _ (by rfl) (by rfl) (fun W _ => hs1.out W), ?_⟩; simp only [Act.put, List.setIfInBounds_toArray, List.set_cons_zero, List.set_cons_succ])
  (refine T_take (i := 25) rfl (by kernel_rfl) (fun _ _ _ _ h => h) hS ?_; refine ⟨_, y_slice _ _ _ _ _ (by rfl) (by rfl) (fun W _ => hs2.out W), ?_⟩; simp only [Act.put, List.setIfInBounds_toArray, List.set_cons_zero, List.set_cons_succ])
  refine T_all [5] (by kernel_rfl) (by decide) ?_
  intro j hj
  simp only [List.mem_cons, List.mem_nil_iff, or_false, List.not_mem_nil] at hj
  subst hj
  refine T_op rfl (by rfl) ?_
  refine wp_build0 _ 3 (by rfl) 1 Try.underlying28 (by kernel_rfl) w.heap.size (by omega) ?_
  intro w2 hown hb2' hz2
  have hb2 : Below w.heap.size w w2 := hb1.trans (hb2'.mono (by omega))
  refine ⟨.inr (HS.out _ hb2), ?_⟩
  simp only [Act.put, List.setIfInBounds_toArray, List.set_cons_zero, List.set_cons_succ]
  refine T_all [15] (by kernel_rfl) (by decide) ?_
  intro j hj
  simp only [List.mem_cons, List.mem_nil_iff, or_false, List.not_mem_nil] at hj
  subst hj
  refine T_op rfl (by rfl) ?_
  refine wp_append_rd _ _ _ (by rfl) w.heap.size 3 (.int .i64 0) 1 8 Try.underlying28 (by kernel_rfl) ⟨rfl, by decide⟩ (.slice (some ⟨w1.heap.size, 0, none⟩) 0 0) 0 [] (by rfl) hown (some ⟨b0, o, none⟩) a.length cap (a.map nrow) (by rfl) (hA.below hb2) ⟨List.length_map _, nrow_ok _⟩ (fun e => by cases e) ⟨by unfold maxLen; omega, by omega⟩ (by omega) ?_
  intro v1 w3 hown1 hb3' hz3 hk3
  have hb3 : Below w.heap.size w w3 := hb2.trans hb3'
  refine ⟨.inr (HS.out _ hb3), ?_⟩
  simp only [Act.put, List.setIfInBounds_toArray, List.set_cons_zero, List.set_cons_succ]
  refine T_all [26] (by kernel_rfl) (by decide) ?_
  intro j hj
  simp only [List.mem_cons, List.mem_nil_iff, or_false, List.not_mem_nil] at hj
  subst hj
  refine T_op rfl (by rfl) ?_
  refine wp_append_rd _ _ _ (by rfl) w.heap.size 3 (.int .i64 0) 1 8 Try.underlying28 (by kernel_rfl) ⟨rfl, by decide⟩ v1 (0 + a.length) _ (by rfl) hown1 (some A2) b.length (cap - (a.length + 1)) (b.map nrow) (by rfl) (hB.below hb3) ⟨List.length_map _, nrow_ok _⟩ (fun e => by cases e) ⟨by unfold maxLen; omega, by omega⟩ (by omega) ?_
  intro v2 w5 hown2 hb5' hz5 hk5
  have hb5 : Below w.heap.size w w5 := hb3.trans hb5'
  refine ⟨.inr (HS.out _ hb5), ?_⟩
  simp only [Act.put, List.setIfInBounds_toArray, List.set_cons_zero, List.set_cons_succ]
  have hS := HS.out _ hb5
  (refine T_take (i := 27) rfl (by kernel_rfl) (fun _ _ _ _ h => h) hS ?_; apply Exists.intro; refine ⟨.inl ⟨by rfl, fun W hW => ?_⟩, ?_⟩; (next => (obtain ⟨hs1, hs2⟩ := hW; go_simp; first | done | rfl)); simp only [Act.put, List.setIfInBounds_toArray, List.set_cons_zero, List.set_cons_succ])
  refine T_all [28] (by kernel_rfl) (by decide) ?_
  intro j hj
  simp only [List.mem_cons, List.mem_nil_iff, or_false, List.not_mem_nil] at hj
  subst hj
  refine T_op rfl (by rfl) ?_
  have hbl' : Blk w5 bl 28 cl := (hb5.block bl hbl).trans q.tab
  refine wp_store_fld _ _ _ (by rfl) bl i (by rfl) v2 (by rfl) _ cl hbl' (by have := q.size; omega) (by kernel_rfl) (owns_cells hown2).1 (owns_cells hown2).2 ?_
  intro w6 hst hus
  refine ⟨.inl rfl, ?_⟩
  simp only [Act.put, List.setIfInBounds_toArray, List.set_cons_zero, List.set_cons_succ]
  refine T_done (by kernel_rfl) ?_
  go_wp2_with fail
  go_ret2
  exact ⟨rfl, ⟨_, q.set hi hb5 (l := a ++ b) (by rw [flatN_app]; simpa [flatN] using hown2) (by simpa using hab) hst hus⟩, (ButL.of_below hb5).upd (by simp) hus⟩
theorem rremove_none (q : RQ w h bl N Q L cl) (n : Int) (hn : ∀ i, i < Q → ∀ x ∈ L i, (x : Int) ≠ n) : Calls Try.prog 46 #[.pointer (some ⟨h, 0, none⟩), .int .i64 n] w fun e w' => e = .returned (.tuple #[.int .i64 0, .bool false]) ∧ w = w' := by
  have HF := Lib.hid (find_no q n hn)
  clear hn
  go_enter Try.func46, Try.ntmps46
  go_wp2_with (first | (go_at_call 48; refine HF.out.mono ?_; rintro e w' ⟨rfl, rfl⟩) | fail)
  go_ret2
  exact ⟨rfl, rfl⟩
end
end Fif
end Go.Proofs.Ytodgeakkecaliaa
