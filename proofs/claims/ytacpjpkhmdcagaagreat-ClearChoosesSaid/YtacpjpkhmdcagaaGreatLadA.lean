/- This text proves what Put makes of a level that stands there already. It has no conditions but those that it states. -/
import Derived.Test.YtacpjpkhmdcagaaGreatLadP
namespace Go.Proofs.YtacpjpkhmdcagaaGreat
set_option linter.unusedVariables false
open Go.RowKit
namespace Lad
set_option maxHeartbeats 2000000
set_option maxRecDepth 10000
theorem own_blk {w : World} {B : Nat} {e : TypeId} {k n cap rb ro : Nat} {xs : List Value} (h : w.ownsRow B e k (.slice (some ⟨rb, ro, none⟩) n cap) n xs) : ∃ cur, Blk w rb e cur ∧ ro = 0 ∧ n * k ≤ cur.size ∧ cur.toList.take (n * k) = xs := by
  rcases h.2 with ⟨h0, _⟩ | ⟨g', cap', cur, he, hb, hh, r1, r2, r3, r4⟩
  · cases h0
  · cases he
    exact ⟨cur, hh, rfl, by rw [r3]; exact Nat.mul_le_mul_right _ r1, r4⟩
theorem own_set {w : World} {B : Nat} {e : TypeId} {k n cap rb ro j : Nat} {xs : List Value} (h : w.ownsRow B e k (.slice (some ⟨rb, ro, none⟩) n cap) n xs) (x : Value) : (w.setCell ⟨rb, ro + j, none⟩ x).ownsRow B e k (.slice (some ⟨rb, ro, none⟩) n cap) n (xs.set j x) := by
  refine ⟨by rw [List.length_set]; exact h.1, ?_⟩
  rcases h.2 with ⟨h0, _⟩ | ⟨g', cap', cur, he, hb, hh, r1, r2, r3, r4⟩
  · cases h0
  · cases he
    refine .inr ⟨rb, cap, cur.setIfInBounds (0 + j) x, rfl, hb, Blk.setCell (show Blk w rb e cur from hh) (0 + j) x, r1, r2, by rw [Array.size_setIfInBounds]; exact r3, ?_⟩
    rw [Nat.zero_add, Array.toList_setIfInBounds, List.take_set, r4]
theorem flatL_upd : ∀ (ls : List Lvl) (i : Nat) (l : Lvl) (q o : Int), ls[i]? = some l → ((flatL ls).set (i * 4 + 1) (.int .i64 q)).set (i * 4 + 2) (.int .i64 o) = flatL (ls.set i ⟨l.price, q, o, l.queue⟩)
  | [], _, _, _, _, h => by simp at h
  | x :: t, 0, l, q, o, h => by
    obtain rfl : x = l := by simpa using h
    simp [flatL, Lvl.cells]
  | x :: t, i + 1, l, q, o, h => by
    have ih := flatL_upd t i l q o (by simpa using h)
    have e : ∀ y : Lvl, flatL (y :: t) = .int .i64 y.price :: .int .i64 y.qty :: .int .i64 y.orders :: .int .i64 y.queue :: flatL t := fun _ => rfl
    have e2 : flatL (x :: t.set i ⟨l.price, q, o, l.queue⟩) = .int .i64 x.price :: .int .i64 x.qty :: .int .i64 x.orders :: .int .i64 x.queue :: flatL (t.set i ⟨l.price, q, o, l.queue⟩) := rfl
    rw [e, show (i + 1) * 4 + 1 = (i * 4 + 1) + 1 + 1 + 1 + 1 by omega, show (i + 1) * 4 + 2 = (i * 4 + 2) + 1 + 1 + 1 + 1 by omega, List.set_cons_succ, List.set_cons_succ, List.set_cons_succ, List.set_cons_succ, List.set_cons_succ, List.set_cons_succ, List.set_cons_succ, List.set_cons_succ, ih, List.set_cons_succ, e2]
section
variable {w : World} {g : Nat} {side most : Int} {v : Value} {ls : List Lvl} {u : Nat → Nat}
theorem La.upd {rb ro cap i : Nat} {l : Lvl} (L : La w g side most (.slice (some ⟨rb, ro, none⟩) ls.length cap) ls u) (hl : ls[i]? = some l) (q o : Int) :
    La ((w.setCell ⟨rb, ro + i * 4 + 1, none⟩ (.int .i64 q)).setCell ⟨rb, ro + i * 4 + 2, none⟩ (.int .i64 o)) g side most (.slice (some ⟨rb, ro, none⟩) ls.length cap) (ls.set i ⟨l.price, q, o, l.queue⟩) u := by
  have h1 := (L.row.lt rb rfl).1
  refine ⟨(L.hd.upd (show g ≠ rb by omega) (Upd.setCell w ⟨rb, ro + i * 4 + 1, none⟩ _)).upd (show g ≠ rb by omega) (Upd.setCell _ ⟨rb, ro + i * 4 + 2, none⟩ _), ?_, by rw [List.length_set]; exact L.len, ?_⟩
  · have h2 := own_set (j := i * 4 + 2) (own_set (j := i * 4 + 1) L.row (.int .i64 q)) (.int .i64 o)
    rw [flatL_upd ls i l q o hl] at h2
    rw [List.length_set]
    simpa only [Nat.add_assoc] using h2
  · intro y hy
    rcases List.mem_or_eq_of_mem_set hy with h | rfl
    · exact L.rng y h
    · exact L.rng l (List.mem_of_getElem? hl)
theorem lvl_facts {rb ro cap i : Nat} {l : Lvl} {w1 : World} (L : La w g side most (.slice (some ⟨rb, ro, none⟩) ls.length cap) ls u) (hl : ls[i]? = some l) (hb1 : Below w.heap.size w w1) :
    w1.cell? ⟨g, 2, none⟩ = some (.slice (some ⟨rb, ro, none⟩) ls.length cap) ∧ w1.cell? ⟨rb, ro + i * 4 + 1, none⟩ = some (.int .i64 l.qty) ∧ w1.cell? ⟨rb, ro + i * 4 + 2, none⟩ = some (.int .i64 l.orders) ∧ w1.cell? ⟨rb, ro + i * 4 + 3, none⟩ = some (.int .i64 l.queue) ∧ ∀ j, w1.frozen? ⟨rb, j, none⟩ = false := by
  have L1 := L.ext hb1
  obtain ⟨hi, rfl⟩ := List.getElem?_eq_some_iff.1 hl
  obtain ⟨A, cap', hv, hrd, _⟩ := L1.rd
  cases hv
  obtain ⟨rb', ro', hA, hr, hrl⟩ := rd_lvl hrd hi
  cases hA
  obtain ⟨cur, hcur, _⟩ := own_blk L1.row
  exact ⟨L1.hd.cell 2, hr 1 _ rfl, hr 2 _ rfl, hr 3 _ rfl, fun j => hcur.frozen j⟩
theorem LStep.of_own {rb : Nat} {a : Addr} {x : Value} (h : v.ownBlock = some rb) (ha : a.block = rb) : LStep g v v w (w.setCell a x) := by
  have u := Upd.setCell w a x
  exact ⟨u.os, u.tape, u.output, Nat.le_of_eq u.size.symm, fun q _ _ h2 => u.block q (fun e => h2 (by rw [h, e, ha])), .inl rfl⟩
theorem put_add (L : La w g side most v ls u) (hup : Up side ls) (p q : Int) (hp : 1 ≤ p ∧ p ≤ 9223372036854775807) (hq : 1 ≤ q ∧ q ≤ 9223372036854775807) {i : Nat} (hi : i < ls.length) (hst : Stands (keys side ls) ls.length (keyF side p) i) (hf : keys side ls i = keyF side p)
    {l : Lvl} (hl : ls[i]? = some l) (hlq : I64 l.qty) (hadd : I64 (l.qty + q)) (ho : 0 ≤ l.orders ∧ l.orders ≤ 1000000000) :
    Calls Tryz.prog 50 #[.pointer (some ⟨g, 0, none⟩), .int .i64 p, .int .i64 q] w fun e w' => e = .returned (.tuple #[.int .i64 l.queue, .int .i64 0]) ∧ La w' g side most v (ls.set i ⟨l.price, l.qty + q, l.orders + 1, l.queue⟩) u ∧ LStep g v v w w' := by
  have hPl := Lib.hid (place_any L hup p ⟨by omega, by omega⟩ hst)
  rw [decide_eq_true ⟨hi, hf⟩] at hPl
  have hvl := L.own_lt
  obtain ⟨A, cap, rfl, hrd, _⟩ := L.rd
  have h1 : ¬ p < 1 := by omega
  have h2 : ¬ q < 1 := by omega
  obtain ⟨rb, ro, rfl, _, _⟩ := rd_lvl hrd hi
  have HF : Hid (∀ w1, Below w.heap.size w w1 → _) := Lib.hid (fun w1 hb1 => lvl_facts (w1 := w1) L hl hb1)
  have hL := Lib.hid L
  have hl' := Lib.hid hl
  have e1 : (i : Int) < (ls.length : Int) := by omega
  have e2 : (0 : Int) ≤ (i : Int) := by omega
  have HA : Hid (∀ W, _) := Lib.hid (fun W => Fix.add_any l.qty q W hlq ⟨by omega, by omega⟩ hadd)
  obtain ⟨hp1, hp2⟩ := hp
  obtain ⟨hq1, hq2⟩ := hq
  clear L hst hf hup hrd hl hadd hlq
  go_enter Tryz.func50, Tryz.ntmps50
  go_wp2_with (first | (go_at_call 72; refine hPl.out.mono ?_; rintro e w1 ⟨rfl, hb1⟩; obtain ⟨c2, o1, o2, o3, f1⟩ := HF.out w1 hb1) | (go_at_call 75; refine (HA.out _).mono ?_; rintro e w' ⟨rfl, rfl⟩) | fail)
  go_ret2
  exact ⟨rfl, (hL.out.ext hb1).upd hl'.out _ _, ((LStep.of_below hb1).trans (LStep.of_own rfl rfl) (fun b hb => (hvl b hb).2)).trans (LStep.of_own rfl rfl) (fun b hb => (hvl b hb).2)⟩
end
end Lad
end Go.Proofs.YtacpjpkhmdcagaaGreat
