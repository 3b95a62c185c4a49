/- This text proves what Put makes of a side's levels: contracts of the package ladder's Put. It has no conditions but those that it states. -/
import Derived.Test.YtacpjpkhmdcagaaGreatLadQ
import Derived.Test.YtacpjpkhmdcagaaGreatFix
namespace Go.Proofs.YtacpjpkhmdcagaaGreat
set_option linter.unusedVariables false
open Go.RowKit
namespace Lad
set_option maxHeartbeats 4000000
set_option maxRecDepth 10000
theorem wp_enterE {P : Program} {Q : Exit → Act → World → Prop} {o : Oper} {a : Act} {w : World} {K : Act → World → Prop} {F : FuncId} {args : Array Value} (hx : (execOp a.eval o).run P w = .ok (.enter F args) w)
    (h : Calls P F args w fun e w' => ∃ v, e = .returned v ∧ K (a.put o.dst v) w') : o.wp P a w K Q := by
  unfold Oper.wp
  rw [hx, Oper.upon_enter]
  refine h.mono ?_
  rintro e w' ⟨v, rfl, hk⟩
  exact hk
/-- What a step on a ladder leaves: but for its own words and its row, all is as it was; its row is the old one or new. -/
structure LStep (g : Nat) (v v' : Value) (w w' : World) : Prop where
  os : w'.os = w.os
  tape : w'.tape = w.tape
  output : w'.output = w.output
  size : w.heap.size ≤ w'.heap.size
  block : ∀ q, q < w.heap.size → q ≠ g → v.ownBlock ≠ some q → w'.heap[q]? = w.heap[q]?
  fresh : Fresh w v v'
theorem LStep.of_below {g : Nat} {v : Value} {w w' : World} (h : Below w.heap.size w w') : LStep g v v w w' := ⟨h.os, h.tape, h.output, h.size, fun q hq _ _ => h.block q hq, .inl rfl⟩
theorem LStep.of_but {g : Nat} {v : Value} {w w' : World} (h : But g w.heap.size w w') : LStep g v v w w' := ⟨h.os, h.tape, h.output, h.size, fun q hq h1 _ => h.block q hq h1, .inl rfl⟩
theorem LStep.trans {g : Nat} {v v' v'' : Value} {w w1 w2 : World} (h : LStep g v v' w w1) (k : LStep g v' v'' w1 w2) (hv : ∀ b, v.ownBlock = some b → b < w.heap.size) : LStep g v v'' w w2 := by
  refine ⟨k.os.trans h.os, k.tape.trans h.tape, k.output.trans h.output, Nat.le_trans h.size k.size, fun q hq h1 h2 => ?_, ?_⟩
  · refine (k.block q (by have := h.size; omega) h1 ?_).trans (h.block q hq h1 h2)
    rcases h.fresh with h3 | h3
    · rw [h3]; exact h2
    · exact fun e => by have := h3 q e; omega
  · rcases k.fresh with h3 | h3
    · rcases h.fresh with h4 | h4
      · exact .inl (h3.trans h4)
      · exact .inr (fun b hb => h4 b (by rw [← h3]; exact hb))
    · exact .inr (fun b hb => by have := h3 b hb; have := h.size; omega)
theorem blk_grown {w w' : World} {b : Nat} {t : TypeId} {cs : Array Value} {row : Option Nat} (h : Blk w b t cs) (hg : w.grownBy w' row) (hr : row ≠ some b) : Blk w' b t cs :=
  (hg.block b h.lt (by first | exact hr | exact fun e => hr e.symm)).trans h
theorem LStep.of_upd {g : Nat} {v : Value} {w w' : World} (h : Upd g w w') : LStep g v v w w' := ⟨h.os, h.tape, h.output, Nat.le_of_eq h.size.symm, fun q _ h1 _ => h.block q h1, .inl rfl⟩
theorem LStep.of_grown {g : Nat} {v v' : Value} {w w' : World} (h : w.grownBy w' v.ownBlock) (f : Fresh w v v') : LStep g v v' w w' := ⟨h.os, h.tape, h.output, h.size, fun q hq _ h2 => h.block q hq (by first | exact h2 | exact fun e => h2 e.symm), f⟩
theorem owns_slice {w : World} {B : Nat} {e : TypeId} {k n : Nat} {v : Value} {xs : List Value} (h : w.ownsRow B e k v n xs) : ∃ A cap, v = .slice A n cap := by
  rcases h.2 with ⟨rfl, h0⟩ | ⟨g, cap, cur, rfl, _⟩
  · exact ⟨none, 0, by rw [h0]⟩
  · exact ⟨_, _, rfl⟩
theorem owns_upd {w w' : World} {B g : Nat} {e : TypeId} {k n : Nat} {v : Value} {xs : List Value} (h : w.ownsRow B e k v n xs) (hg : g < B) (u : Upd g w w') : w'.ownsRow B e k v n xs := by
  refine ⟨h.1, ?_⟩
  rcases h.2 with ⟨rfl, h0⟩ | ⟨g', cap, cur, rfl, hb, hh, r⟩
  · exact .inl ⟨rfl, h0⟩
  · exact .inr ⟨g', cap, cur, rfl, hb, (u.block g' (by omega)).trans hh, r⟩
section
variable {w : World} {g : Nat} {side most : Int} {v : Value} {ls : List Lvl} {u : Nat → Nat}
theorem La.own_lt (L : La w g side most v ls u) : ∀ b, v.ownBlock = some b → g + 1 ≤ b ∧ b < w.heap.size := L.row.lt
theorem put_low (L : La w g side most v ls u) (p q : Int) (h : p < 1 ∨ q < 1) : Calls Tryz.prog 50 #[.pointer (some ⟨g, 0, none⟩), .int .i64 p, .int .i64 q] w fun e w' => e = .returned (.tuple #[.int .i64 0, .int .i64 9]) ∧ w = w' := by
  clear L
  by_cases h1 : p < 1
  · go_enter Tryz.func50, Tryz.ntmps50
    go_wp2_with fail
    go_ret2
    exact ⟨rfl, rfl⟩
  · have h2 : q < 1 := by omega
    go_enter Tryz.func50, Tryz.ntmps50
    go_wp2_with fail
    go_ret2
    exact ⟨rfl, rfl⟩
theorem put_nil (p q : Int) : Calls Tryz.prog 50 #[.pointer none, .int .i64 p, .int .i64 q] w fun e w' => e = .returned (.tuple #[.int .i64 0, .int .i64 1]) ∧ w = w' := by
  go_enter Tryz.func50, Tryz.ntmps50
  go_wp2_with fail
  go_ret2
  exact ⟨rfl, rfl⟩
theorem put_full (L : La w g side most v ls u) (hup : Up side ls) (p q : Int) (hp : 1 ≤ p ∧ p ≤ 9223372036854775807) (hq : 1 ≤ q) {i : Nat} (hst : Stands (keys side ls) ls.length (keyF side p) i) (hnf : ¬ (i < ls.length ∧ keys side ls i = keyF side p)) (hfull : most ≤ (ls.length : Int)) :
    Calls Tryz.prog 50 #[.pointer (some ⟨g, 0, none⟩), .int .i64 p, .int .i64 q] w fun e w' => e = .returned (.tuple #[.int .i64 0, .int .i64 7]) ∧ Below w.heap.size w w' := by
  have hPl := Lib.hid (place_any L hup p ⟨by omega, by omega⟩ hst)
  rw [decide_eq_false hnf] at hPl
  obtain ⟨A, cap, rfl, _, _⟩ := L.rd
  have h1 : ¬ p < 1 := by omega
  have h2 : ¬ q < 1 := by omega
  have hL := Lib.hid L
  have hgl := L.hd.lt
  obtain ⟨hp1, hp2⟩ := hp
  clear L hst hnf hup
  go_enter Tryz.func50, Tryz.ntmps50
  go_wp2_with (first | (go_at_call 72; refine hPl.out.mono ?_; rintro e w1 ⟨rfl, hb1⟩) | fail)
  have c1 : w1.cell? ⟨g, 1, none⟩ = some (.int .i64 most) := (hL.out.ext hb1).hd.cell 1
  have c2 : w1.cell? ⟨g, 2, none⟩ = some (.slice A ls.length cap) := (hL.out.ext hb1).hd.cell 2
  have hg1 := (hL.out.ext hb1).hd.lt
  refine wp_region_below_lit (by kernel_rfl) (by kernel_rfl) ?_
  repeat (first | go_big_quiet_skip | (go_big_quiet_want; go_big_quiet_op; go_big_quiet_on) | (refine q_load_fld (by rfl) _ _ (by rfl) (fun _ h => h) _ _ (by rfl) ?_ ?_ ?_ ?_ ?_ ?_; rotate_left; (next => (repeat (first | (with_reducible refine BlkAt.new _ _ _ _ ?_; ((try simp) <;> omega)) | (with_reducible assumption) | (with_reducible refine Blk.at (t := ?_) ?_; rotate_left; with_reducible assumption) | with_reducible refine BlkAt.alloc ?_ _ | with_reducible refine BlkAt.drew ?_ | (with_reducible refine BlkAt.setSame ?_ _ _) | (with_reducible refine BlkAt.setCell ?_ ?_ _; rotate_left; ((try simp) <;> omega)) | (with_reducible refine BlkAt.ext (w := ?_) ?_ ?_; rotate_left 2; (with_reducible assumption)) | fail))); rotate_left; (next => first | (simp only [go_sem]; rfl) | rfl); (next => kernel_rfl); (try simp only [Act.put, List.setIfInBounds_toArray, List.set_cons_zero, List.set_cons_succ])) | (refine q_rem (by rfl) _ _ _ _ (by rfl) _ _ (by rfl) (by rfl) (by kernel_rfl) (by kernel_rfl) ?_ ?_; (next => omega); (try simp only [Act.put, List.setIfInBounds_toArray, List.set_cons_zero, List.set_cons_succ])) | (refine q_step_ex (by rfl) ?_; apply Exists.intro; refine ⟨fun W hW => ?_, ?_⟩; (next => (have hWc := fun (b o : Nat) (h : b < _) => (Ext.out hW).cell (p := ⟨b, o, none⟩) h); (try have hLK := HLK.out W (Ext.out hW)); go_simp; first | rfl | fail | fail); (try simp only [Act.put, List.setIfInBounds_toArray, List.set_cons_zero, List.set_cons_succ])) | fail)
  refine wpQuiet_nil ?_
  intro w2 hb2
  go_wp2_with fail
  go_ret2
  exact ⟨rfl, below_ext hb1 hb2⟩
def NewPost (g : Nat) (side most : Int) (v : Value) (qn : Nat) (ls : List Lvl) (u : Nat → Nat) (w : World) (e : Ending) (w' : World) : Prop :=
  ∃ v', e = .returned (.tuple #[.int .i64 qn, .int .i64 0]) ∧ La w' g side most v' ls u ∧ LStep g v v' w w'
theorem put_new (L : La w g side most v ls u) (hup : Up side ls) (p q : Int) (hp : 1 ≤ p ∧ p ≤ 9223372036854775807) (hq : 1 ≤ q) {i : Nat} (hst : Stands (keys side ls) ls.length (keyF side p) i) (hnf : ¬ (i < ls.length ∧ keys side ls i = keyF side p)) (hroom : (ls.length : Int) < most) (hmost : most ≤ 200)
    (hu : ∀ j, j < 4 → u j < 2 ^ 64) (qn : Nat) (hqn : qn < 256) (hlow : ∀ j, j < qn → busy u j = true) (hfree : busy u qn = false) :
    Calls Tryz.prog 50 #[.pointer (some ⟨g, 0, none⟩), .int .i64 p, .int .i64 q] w (NewPost g side most v qn (ls.take i ++ ⟨p, q, 1, qn⟩ :: ls.drop i) (setU u qn) w) := by
  have hPl := Lib.hid (place_any L hup p ⟨by omega, by omega⟩ hst)
  rw [decide_eq_false hnf] at hPl
  have hQ : Hid (∀ W, Below w.heap.size w W → Calls Tryz.prog 73 #[.pointer (some ⟨g, 0, none⟩)] W (QPost g side most v ls u qn W)) := Lib.hid (fun W hW => queue_any (L.ext hW) hu qn hqn hlow hfree)
  have hvl := L.own_lt
  obtain ⟨A, cap, hve, _, _⟩ := L.rd
  have h1 : ¬ p < 1 := by omega
  have h2 : ¬ q < 1 := by omega
  have hL := Lib.hid L
  have hgl := L.hd.lt
  have hil := hst.le
  have hlen := L.len
  obtain ⟨hp1, hp2⟩ := hp
  have hti : (ls.take i).length = i := by rw [List.length_take]; omega
  clear L hst hnf hup hu hlow hfree
  subst hve
  go_enter Tryz.func50, Tryz.ntmps50
  go_wp2_with (first | (go_at_call 72; refine hPl.out.mono ?_; rintro e w1 ⟨rfl, hb1⟩) | fail)
  have c1 : w1.cell? ⟨g, 1, none⟩ = some (.int .i64 most) := (hL.out.ext hb1).hd.cell 1
  have c2 : w1.cell? ⟨g, 2, none⟩ = some (.slice A ls.length cap) := (hL.out.ext hb1).hd.cell 2
  have hg1 := (hL.out.ext hb1).hd.lt
  refine wp_region_below_lit (by kernel_rfl) (by kernel_rfl) ?_
  repeat (first | go_big_quiet_skip | (go_big_quiet_want; go_big_quiet_op; go_big_quiet_on) | (refine q_load_fld (by rfl) _ _ (by rfl) (fun _ h => h) _ _ (by rfl) ?_ ?_ ?_ ?_ ?_ ?_; rotate_left; (next => (repeat (first | (with_reducible refine BlkAt.new _ _ _ _ ?_; ((try simp) <;> omega)) | (with_reducible assumption) | (with_reducible refine Blk.at (t := ?_) ?_; rotate_left; with_reducible assumption) | with_reducible refine BlkAt.alloc ?_ _ | with_reducible refine BlkAt.drew ?_ | (with_reducible refine BlkAt.setSame ?_ _ _) | (with_reducible refine BlkAt.setCell ?_ ?_ _; rotate_left; ((try simp) <;> omega)) | (with_reducible refine BlkAt.ext (w := ?_) ?_ ?_; rotate_left 2; (with_reducible assumption)) | fail))); rotate_left; (next => first | (simp only [go_sem]; rfl) | rfl); (next => kernel_rfl); (try simp only [Act.put, List.setIfInBounds_toArray, List.set_cons_zero, List.set_cons_succ])) | (refine q_rem (by rfl) _ _ _ _ (by rfl) _ _ (by rfl) (by rfl) (by kernel_rfl) (by kernel_rfl) ?_ ?_; (next => omega); (try simp only [Act.put, List.setIfInBounds_toArray, List.set_cons_zero, List.set_cons_succ])) | (refine q_step_ex (by rfl) ?_; apply Exists.intro; refine ⟨fun W hW => ?_, ?_⟩; (next => (have hWc := fun (b o : Nat) (h : b < _) => (Ext.out hW).cell (p := ⟨b, o, none⟩) h); (try have hLK := HLK.out W (Ext.out hW)); go_simp; first | rfl | fail | fail); (try simp only [Act.put, List.setIfInBounds_toArray, List.set_cons_zero, List.set_cons_succ])) | fail)
  refine wpQuiet_nil ?_
  intro w2 hb2
  have hb02 := below_ext hb1 hb2
  clear c1 c2
  go_wp2_with (first | (go_at_call 73; refine (hQ.out _ hb02).mono ?_; rintro e w3 ⟨rfl, hL3, hU3⟩) | fail)
  have hz23 := hU3.size
  have hgw3 : g < w3.heap.size := hL3.hd.lt
  have hx4 := Blk.new w3 156 (Lvl.arr ⟨p, q, 1, qn⟩) _ rfl
  have hL4 := (hL3.ext (below_alloc (Below.refl w3.heap.size w3) (.cells #[.int .i64 p, .int .i64 q, .int .i64 1, .int .i64 qn] 156)))
  have hb34 := below_alloc (Below.refl w3.heap.size w3) (.cells #[.int .i64 p, .int .i64 q, .int .i64 1, .int .i64 qn] 156)
  refine wp_region_T (S := fun W => W.cell? ⟨g, 2, none⟩ = some (.slice A ls.length cap) ∧ (W.cell? ⟨w3.heap.size, 0, none⟩ = some (.int .i64 p) ∧ (W.cell? ⟨w3.heap.size, 1, none⟩ = some (.int .i64 q) ∧ (W.cell? ⟨w3.heap.size, 2, none⟩ = some (.int .i64 1) ∧ W.cell? ⟨w3.heap.size, 3, none⟩ = some (.int .i64 qn))))) 11 (by kernel_rfl) ?_
  have hS : (w3.alloc (.cells #[.int .i64 p, .int .i64 q, .int .i64 1, .int .i64 qn] 156)).drew.cell? ⟨g, 2, none⟩ = some (.slice A ls.length cap) ∧ ((w3.alloc (.cells #[.int .i64 p, .int .i64 q, .int .i64 1, .int .i64 qn] 156)).drew.cell? ⟨w3.heap.size, 0, none⟩ = some (.int .i64 p) ∧ ((w3.alloc (.cells #[.int .i64 p, .int .i64 q, .int .i64 1, .int .i64 qn] 156)).drew.cell? ⟨w3.heap.size, 1, none⟩ = some (.int .i64 q) ∧ ((w3.alloc (.cells #[.int .i64 p, .int .i64 q, .int .i64 1, .int .i64 qn] 156)).drew.cell? ⟨w3.heap.size, 2, none⟩ = some (.int .i64 1) ∧ (w3.alloc (.cells #[.int .i64 p, .int .i64 q, .int .i64 1, .int .i64 qn] 156)).drew.cell? ⟨w3.heap.size, 3, none⟩ = some (.int .i64 qn)))) := ⟨(hL4.hd.drew).cell 2, (hx4.drew).cell 0, (hx4.drew).cell 1, (hx4.drew).cell 2, (hx4.drew).cell 3⟩
  (refine T_take (i := 0) rfl (by kernel_rfl) (fun _ _ _ _ h => h) hS ?_; apply Exists.intro; refine ⟨.inl ⟨by rfl, fun W hW => ?_⟩, ?_⟩; (next => (obtain ⟨hs1, hs2⟩ := hW; go_simp; first | done | rfl)); simp only [Act.put, List.setIfInBounds_toArray, List.set_cons_zero, List.set_cons_succ])
  (refine T_take (i := 1) rfl (by kernel_rfl) (fun _ _ _ _ h => h) hS ?_; apply Exists.intro; refine ⟨.inl ⟨by rfl, fun W hW => ?_⟩, ?_⟩; (next => (obtain ⟨hs1, hs2⟩ := hW; go_simp; first | done | rfl)); simp only [Act.put, List.setIfInBounds_toArray, List.set_cons_zero, List.set_cons_succ])
  (refine T_take (i := 2) rfl (by kernel_rfl) (fun _ _ _ _ h => h) hS ?_; apply Exists.intro; refine ⟨.inl ⟨by rfl, fun W hW => ?_⟩, ?_⟩; (next => (obtain ⟨hs1, hs2⟩ := hW; go_simp; first | done | rfl)); simp only [Act.put, List.setIfInBounds_toArray, List.set_cons_zero, List.set_cons_succ])
  (refine T_take (i := 3) rfl (by kernel_rfl) (fun _ _ _ _ h => h) hS ?_; apply Exists.intro; refine ⟨.inl ⟨by rfl, fun W hW => ?_⟩, ?_⟩; (next => (obtain ⟨hs1, hs2⟩ := hW; go_simp; first | done | rfl)); simp only [Act.put, List.setIfInBounds_toArray, List.set_cons_zero, List.set_cons_succ])
  (refine T_take (i := 4) rfl (by kernel_rfl) (fun _ _ _ _ h => h) hS ?_; apply Exists.intro; refine ⟨.inl ⟨by rfl, fun W hW => ?_⟩, ?_⟩; (next => (obtain ⟨hs1, hs2⟩ := hW; go_simp; first | done | rfl)); simp only [Act.put, List.setIfInBounds_toArray, List.set_cons_zero, List.set_cons_succ])
  (refine T_take (i := 5) rfl (by kernel_rfl) (fun _ _ _ _ h => h) hS ?_; apply Exists.intro; refine ⟨.inl ⟨by rfl, fun W hW => ?_⟩, ?_⟩; (next => (obtain ⟨hs1, hs2⟩ := hW; go_simp; first | done | rfl)); simp only [Act.put, List.setIfInBounds_toArray, List.set_cons_zero, List.set_cons_succ])
  (refine T_take (i := 6) rfl (by kernel_rfl) (fun _ _ _ _ h => h) hS ?_; apply Exists.intro; refine ⟨.inl ⟨by rfl, fun W hW => ?_⟩, ?_⟩; (next => (obtain ⟨hs1, hs2⟩ := hW; go_simp; first | done | rfl)); simp only [Act.put, List.setIfInBounds_toArray, List.set_cons_zero, List.set_cons_succ])
  have hz4 : (w3.alloc (.cells #[.int .i64 p, .int .i64 q, .int .i64 1, .int .i64 qn] 156)).drew.heap.size = w3.heap.size + 1 := sz_alloc _ _
  have hLd : La (w3.alloc (.cells #[.int .i64 p, .int .i64 q, .int .i64 1, .int .i64 qn] 156)).drew g side most (.slice A ls.length cap) ls (setU u qn) := ⟨hL4.hd.drew, hL4.row, hL4.len, hL4.rng⟩
  have hxd := hx4.drew
  have hb34' : Below w3.heap.size w3 (w3.alloc (.cells #[.int .i64 p, .int .i64 q, .int .i64 1, .int .i64 qn] 156)).drew := hb34.drew
  refine T_all [7] (by kernel_rfl) (by decide) ?_
  intro j hj
  simp only [List.mem_cons, or_false, List.not_mem_nil] at hj
  subst hj
  refine T_op rfl (by rfl) ?_
  refine wp_build1 138 156 _ (by rfl) (.agg #[.int .i64 0, .int .i64 0, .int .i64 0, .int .i64 0]) 4 Tryz.underlying138 (by kernel_rfl) ⟨by decide, by decide⟩ (.agg (Lvl.arr ⟨p, q, 1, qn⟩)) (by rfl) (Lvl.arr ⟨p, q, 1, qn⟩) (by kernel_rfl) ?_
  intro w5 hB5 hb5 hz5
  rw [hz4] at hB5 hz5
  have hL5 := hLd.ext hb5
  have hx5 := hxd.ext hb5
  have hb35 : Below w3.heap.size w3 w5 := below_ext hb34' hb5
  refine ⟨.inr ⟨hL5.hd.cell 2, hx5.cell 0, hx5.cell 1, hx5.cell 2, hx5.cell 3⟩, ?_⟩
  simp only [Act.put, List.setIfInBounds_toArray, List.set_cons_zero, List.set_cons_succ]
  refine T_all [8] (by kernel_rfl) (by decide) ?_
  intro j hj
  simp only [List.mem_cons, or_false, List.not_mem_nil] at hj
  subst hj
  refine T_op rfl (by rfl) (wp_enterE (F := 74) (args := #[.slice A ls.length cap, .int .i64 i, .slice (some ⟨w3.heap.size + 1, 0, none⟩) 1 1]) (by go_simp; first | done | rfl) ?_)
  have hown5 : ∀ b, (Value.slice A ls.length cap).ownBlock = some b → b < w3.heap.size := fun b hb => by have := (hvl b hb).2; have := hb02.size; omega
  have hI := insert_any (x := ⟨p, q, 1, qn⟩) (bx := w3.heap.size + 1) hL5.row (by omega) hB5 (fun e => by have := hown5 _ e; omega) (by omega) (ls.take i) (ls.drop i) (List.take_append_drop i ls).symm
  rw [hti] at hI
  refine hI.mono ?_
  rintro e w6 ⟨v6, rfl, hown6, hgr6, hfr6⟩
  obtain ⟨A6, cap6, rfl⟩ := owns_slice hown6
  have hd6 := blk_grown hL5.hd hgr6 (fun e => by have := (hvl _ e).1; omega)
  have hx6 := blk_grown hx5 hgr6 (fun e => by have := hown5 _ e; omega)
  have hz6 := hgr6.size
  refine ⟨_, rfl, .inr ⟨hd6.cell 2, hx6.cell 0, hx6.cell 1, hx6.cell 2, hx6.cell 3⟩, ?_⟩
  simp only [Act.put, List.setIfInBounds_toArray, List.set_cons_zero, List.set_cons_succ]
  have hS : w6.cell? ⟨g, 2, none⟩ = some (.slice A ls.length cap) ∧ (w6.cell? ⟨w3.heap.size, 0, none⟩ = some (.int .i64 p) ∧ (w6.cell? ⟨w3.heap.size, 1, none⟩ = some (.int .i64 q) ∧ (w6.cell? ⟨w3.heap.size, 2, none⟩ = some (.int .i64 1) ∧ w6.cell? ⟨w3.heap.size, 3, none⟩ = some (.int .i64 qn)))) := ⟨hd6.cell 2, hx6.cell 0, hx6.cell 1, hx6.cell 2, hx6.cell 3⟩
  refine T_all [9] (by kernel_rfl) (by decide) ?_
  intro j hj
  simp only [List.mem_cons, or_false, List.not_mem_nil] at hj
  subst hj
  refine YieldsIf.wpOp (S := fun _ => True) (v := .pointer (some ⟨g, 0, none⟩)) (at_of_nth rfl) (.inl ⟨by rfl, fun W _ => ?_⟩) trivial ⟨.inr hS, ?_⟩
  · go_simp
    first | done | rfl
  simp only [Act.put, List.setIfInBounds_toArray, List.set_cons_zero, List.set_cons_succ]
  (refine T_take (i := 10) rfl (by kernel_rfl) (fun _ _ _ _ h => h) hS ?_; apply Exists.intro; refine ⟨.inl ⟨by rfl, fun W hW => ?_⟩, ?_⟩; (next => (obtain ⟨hs1, hs2⟩ := hW; go_simp; first | done | rfl)); simp only [Act.put, List.setIfInBounds_toArray, List.set_cons_zero, List.set_cons_succ])
  refine T_all [11] (by kernel_rfl) (by decide) ?_
  intro j hj
  simp only [List.mem_cons, or_false, List.not_mem_nil] at hj
  subst hj
  refine T_op rfl (by rfl) ?_
  refine wp_store_fld _ _ _ (by rfl) _ _ (by rfl) _ (by rfl) _ _ hd6 (show (2 : Nat) < 7 by decide) (by kernel_rfl) (by rfl) (by rfl) ?_
  intro w7 hd7 hU7
  refine ⟨.inl rfl, ?_⟩
  refine T_done (by kernel_rfl) ?_
  simp only [Act.put]
  have hc7 := (hx6.upd (by omega) hU7).cell 3
  have hrow7 := owns_upd hown6 (Nat.lt_succ_self g) hU7
  have hlen7 : (ls.take i ++ (⟨p, q, 1, qn⟩ : Lvl) :: ls.drop i).length = ls.length + 1 := by simp; omega
  have hstep : LStep g (.slice A ls.length cap) (.slice A6 (ls.length + 1) cap6) w w7 :=
    ((((LStep.of_below hb02).trans (LStep.of_but hU3) (fun b hb => (hvl b hb).2)).trans (LStep.of_below hb35) (fun b hb => (hvl b hb).2)).trans (LStep.of_grown hgr6 hfr6) (fun b hb => (hvl b hb).2)).trans (LStep.of_upd hU7) (fun b hb => (hvl b hb).2)
  have hrng := hL.out.rng
  clear hS hL5 hLd hxd hb34' hx5 hb35 hd6 hx6 hU7 hgr6 hfr6 hown6 hU3 hL3 hL4 hx4 hb34 hB5 hb5 hQ hPl
  go_wp2_with fail
  go_ret2
  refine ⟨_, rfl, ⟨hd7, by rw [hlen7]; exact hrow7, by omega, ?_⟩, hstep⟩
  intro l hl
  rcases List.mem_append.1 hl with h | h
  · exact hrng l (List.mem_of_mem_take h)
  · rcases List.mem_cons.1 h with rfl | h
    · exact ⟨hp1, hp2⟩
    · exact hrng l (List.mem_of_mem_drop h)
end
end Lad
end Go.Proofs.YtacpjpkhmdcagaaGreat
