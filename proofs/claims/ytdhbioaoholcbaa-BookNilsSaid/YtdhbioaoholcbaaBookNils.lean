/- This text proves BookNils: whatever the input, the law returns true. It has no conditions. -/
import Derived.Test.YtdhbioaoholcbaaBkV
import Derived.Test.YtdhbioaoholcbaaRange
namespace Go.Proofs.Ytdhbioaoholcbaa
set_option linter.unusedVariables false
open Go.RowKit
namespace Bk
set_option maxHeartbeats 2000000
set_option maxRecDepth 10000
attribute [local go_sem] Oper.semAt_some
open Are (ord0)
theorem bk_grown {w w' : World} (hb : Below w.heap.size w w') : w.grownBy w' none := ⟨hb.os, hb.tape, hb.output, hb.size, fun i hi _ => hb.block i hi⟩
theorem wp_rangeFunc_none {P : Program} {g : Operand} {ps : Array Tmp} {assign body : Code} {Q : Exit → Act → World → Prop} {a : Act} {w : World} {gf : Nat} {lb : Array Value} (hg : a.eval g = .func (.func gf) #[] lb) (eg : ∀ args w, (callFunc gf args).run P w = .ok (.enter gf args) w)
    (hseq : ∀ (l : Nat) (W : World), Below w.heap.size w W → Calls P gf (#[.func (.yield l) #[] #[]] ++ lb) W fun e W' => (∃ v, e = .returned v) ∧ Below W.heap.size W W')
    (hdone : ∀ (D : Nat) (W : World), w.heap.size ≤ D → Below w.heap.size w W → W.heap[D]? = some (.deferred (some [])) → Q .normal { a with defers := { target := .collected D, args := #[] } :: a.defers } W) :
    (Code.rangeFunc g ps assign body).wp P Q a w :=
  wp_rangeFunc (α := Empty) (encs := fun x => x.elim) (S := fun xs => xs = []) (Sp := fun _ => False) (N := 0) hg eg (Nat.le_refl _)
    (fun l J Jx W hW hJ hJx hY h0 => callsIn_wide.2 ((hseq l W hW).mono fun e W' h => ⟨h.1, .inl ⟨[], rfl, hJ [] W W' none h0 (bk_grown h.2) (fun r e => by cases e)⟩⟩)) (fun x => x.elim)
    (fun pre W => Below w.heap.size w W) (fun _ _ _ => False) (ownFrom_below (Nat.le_refl _) (Nat.le_refl _)) (fun _ _ _ _ _ h _ _ => h.elim) (Below.refl _ _) (fun x => x.elim)
    (fun l x => x.elim) (fun l pre x => x.elim) (fun D xs W hD _ hb hK => hdone D W hD hb hK) (fun D c pre W _ h => h.elim)
theorem each_any (p : Option Addr) (i : Int) (w : World) : Calls Try.prog 18 #[.pointer p, .int .i64 i] w fun e w' => e = .returned (.func (.func 49) #[] #[.pointer (some ⟨w.heap.size, 0, none⟩), .pointer (some ⟨w.heap.size + 1, 0, none⟩)]) ∧ Blk w' w.heap.size 23 #[.pointer p] ∧ Blk w' (w.heap.size + 1) 3 #[.int .i64 i] ∧ Below w.heap.size w w' := by
  go_enter Try.func18, Try.ntmps18
  go_wp2_with fail
  go_ret
  exact ⟨rfl, (Blk.new w _ _ _ rfl).alloc _, Blk.new _ _ _ _ (sz_alloc _ _), by (repeat (first | with_reducible exact Below.refl _ _ | (with_reducible assumption) | (with_reducible refine below_alloc ?_ _) | (with_reducible refine below_ext (w1 := ?_) ?_ ?_; rotate_left 2; (with_reducible assumption)) | (with_reducible refine Below.setCell ?_ ?_ _; rotate_left; ((try simp) <;> omega)) | (with_reducible refine Below.drew ?_) | (with_reducible refine below_drewN ?_ _) | fail))⟩
theorem each_off {w : World} {p : Option Addr} {i : Int} (h : p = none ∨ (i ≠ 0 ∧ i ≠ 1)) (bq bi : Nat) (hq : Blk w bq 23 #[.pointer p]) (hbi : Blk w bi 3 #[.int .i64 i]) (l : Nat) (W : World) (hW : Below w.heap.size w W) :
    Calls Try.prog 49 (#[.func (.yield l) #[] #[]] ++ #[.pointer (some ⟨bq, 0, none⟩), .pointer (some ⟨bi, 0, none⟩)]) W fun e W' => (∃ v, e = .returned v) ∧ Below W.heap.size W W' := by
  have hb0 : Below W.heap.size W (W.alloc (.cells #[.func (.yield l) #[] #[]] 97)) := by (repeat (first | with_reducible exact Below.refl _ _ | (with_reducible assumption) | (with_reducible refine below_alloc ?_ _) | (with_reducible refine below_ext (w1 := ?_) ?_ ?_; rotate_left 2; (with_reducible assumption)) | (with_reducible refine Below.setCell ?_ ?_ _; rotate_left; ((try simp) <;> omega)) | (with_reducible refine Below.drew ?_) | (with_reducible refine below_drewN ?_ _) | fail))
  have hW0 := below_ext hW hb0
  have cq : (W.alloc (.cells #[.func (.yield l) #[] #[]] 97)).cell? ⟨bq, 0, none⟩ = some (.pointer p) := (hq.ext hW0).cell 0
  have ci : (W.alloc (.cells #[.func (.yield l) #[] #[]] 97)).cell? ⟨bi, 0, none⟩ = some (.int .i64 i) := (hbi.ext hW0).cell 0
  have HO := Lib.hid (fun W => of_no (w := W) i h)
  clear h hq hbi hW0
  show Calls _ _ (#[.func (.yield l) #[] #[], .pointer (some ⟨bq, 0, none⟩), .pointer (some ⟨bi, 0, none⟩)]) _ _
  refine calls_of_wp_marks Try.func49 rfl ?_
  simp only [Try.ntmps49, List.size_toArray, List.length_cons, List.length_nil, Nat.reduceAdd, Nat.reduceSub, Array.replicate_succ, Array.replicate_zero, List.push_toArray, List.append_toArray, List.nil_append, List.cons_append]
  go_wp2_with fail
  refine wp_scope_straight ?_
  go_wp2_with (first | (go_at_call 32; refine (HO.out _).mono ?_; rintro e w1 ⟨rfl, rfl⟩) | fail)
  show bodyPostM Fence.wide 9 _ _ _ Exit.ret _ _
  exact bodyPostM_none rfl (results_none rfl _ _ _) ⟨⟨_, rfl⟩, by (repeat (first | with_reducible exact Below.refl _ _ | (with_reducible assumption) | (with_reducible refine below_alloc ?_ _) | (with_reducible refine below_ext (w1 := ?_) ?_ ?_; rotate_left 2; (with_reducible assumption)) | (with_reducible refine Below.setCell ?_ ?_ _; rotate_left; ((try simp) <;> omega)) | (with_reducible refine Below.drew ?_) | (with_reducible refine below_drewN ?_ _) | fail))⟩
theorem nils_any (side id a c : Int) (w : World) : Calls Try.prog 5 #[.int .i64 side, .int .i64 id, .int .i64 a, .int .i64 c] w fun e w' => e = .returned (.bool true) ∧ Below w.heap.size w w' := by
  refine calls_of_wp_marks Try.func5 rfl ?_
  simp only [Try.ntmps5, List.size_toArray, List.length_cons, List.length_nil, Nat.reduceAdd, Nat.reduceSub, Array.replicate_succ, Array.replicate_zero, List.push_toArray, List.append_toArray, List.nil_append, List.cons_append]
  have hT : Blk (w.alloc (.cells #[.bool false] 4)) w.heap.size 4 #[.bool false] := Blk.new w _ _ _ rfl
  have hb0 : Below w.heap.size w (w.alloc (.cells #[.bool false] 4)) := by (repeat (first | with_reducible exact Below.refl _ _ | (with_reducible assumption) | (with_reducible refine below_alloc ?_ _) | (with_reducible refine below_ext (w1 := ?_) ?_ ?_; rotate_left 2; (with_reducible assumption)) | (with_reducible refine Below.setCell ?_ ?_ _; rotate_left; ((try simp) <;> omega)) | (with_reducible refine Below.drew ?_) | (with_reducible refine below_drewN ?_ _) | fail))
  generalize hw0 : w.alloc (.cells #[.bool false] 4) = w0 at hT hb0
  have HW0 := Lib.hid hw0
  clear hw0
  go_wp2_with fail
  rw [HW0.out]
  refine (alive_any _).mono ?_
  rintro e w1 ⟨rfl, hb1⟩
  have hT1 := hT.ext hb1
  have hb01 := below_ext hb0 hb1
  clear hT hb0 HW0
  go_wp2_with fail
  refine (each_any none side _).mono ?_
  rintro e w2 ⟨rfl, hQ2, hI2, hb2⟩
  go_wp2_with fail
  refine wp_rangeFunc_none (gf := 49) (by rfl) (enters_of Try.func49 (by kernel_rfl) rfl) (fun l W hW => each_off (.inl rfl) _ _ hQ2 hI2 l W hW) ?_
  intro D W hD hb3 hK
  have hT3 := (hT1.ext hb2).ext hb3
  have hbW := below_ext hb01 (below_ext hb2 hb3)
  have hDl := (Array.getElem?_eq_some_iff.1 hK).1
  have hTl := hT1.lt
  have hDn : w.heap.size < D := by have := hb2.size; omega
  have HK := Lib.hid hK
  clear hQ2 hI2 hb1 hb2 hb3 hK hT1 hD hb01
  go_wp2_with (first | (go_at_call 13; refine (remove_nil id _).mono ?_; rintro e w4 ⟨rfl, hb4⟩; have hX4 := Blk.new w4 30 #[.int .i64 0, .int .i64 0, .int .i64 0, .int .i64 0, .int .i64 0, .int .i64 0, .int .i64 0] _ rfl) | (((with_reducible show wpList _ _ _ (⟨_, .store 30 _ _, _, _, _, _⟩ :: _) _ _); refine wpList_store_blk (by rfl) 30 _ _ (by rfl) _ _ (by rfl) (by rfl) _ _ hX4 (by kernel_rfl) (by rfl) ?_ ?_; (next => first | (simp [Value.oneCell']; done) | (simp [Value.oneCell', Edt.cells]; done) | exact Are.ordArr_one _); intro w5 hX5 hU5); have hb5 : Below W.heap.size W w5 := below_upd (below_ext hb4 (by (repeat (first | with_reducible exact Below.refl _ _ | (with_reducible assumption) | (with_reducible refine below_alloc ?_ _) | (with_reducible refine below_ext (w1 := ?_) ?_ ?_; rotate_left 2; (with_reducible assumption)) | (with_reducible refine Below.setCell ?_ ?_ _; rotate_left; ((try simp) <;> omega)) | (with_reducible refine Below.drew ?_) | (with_reducible refine below_drewN ?_ _) | fail)))) hb4.size hU5; clear hX4 hX5 hU5) | (go_at_call 19; refine (reduce_nil id 1 _).mono ?_; rintro e w6 ⟨rfl, hb6⟩; have hX6 := Blk.new w6 30 #[.int .i64 0, .int .i64 0, .int .i64 0, .int .i64 0, .int .i64 0, .int .i64 0, .int .i64 0] _ rfl; have hb06 := below_ext hb5 hb6) | (((with_reducible show wpList _ _ _ (⟨_, .store 30 _ _, _, _, _, _⟩ :: _) _ _); refine wpList_store_blk (by rfl) 30 _ _ (by rfl) _ _ (by rfl) (by rfl) _ _ hX6 (by kernel_rfl) (by rfl) ?_ ?_; (next => first | (simp [Value.oneCell']; done) | (simp [Value.oneCell', Edt.cells]; done) | exact Are.ordArr_one _); intro w7 hX7 hU7); have hb7 : Below W.heap.size W w7 := below_upd (below_ext hb06 (by (repeat (first | with_reducible exact Below.refl _ _ | (with_reducible assumption) | (with_reducible refine below_alloc ?_ _) | (with_reducible refine below_ext (w1 := ?_) ?_ ?_; rotate_left 2; (with_reducible assumption)) | (with_reducible refine Below.setCell ?_ ?_ _; rotate_left; ((try simp) <;> omega)) | (with_reducible refine Below.drew ?_) | (with_reducible refine below_drewN ?_ _) | fail)))) hb06.size hU7; clear hX6 hX7 hU7) | (go_at_call 20; refine (bget_nil id _).mono ?_; rintro e w8 ⟨rfl, hb8⟩; have hX8 := Blk.new w8 30 #[.int .i64 0, .int .i64 0, .int .i64 0, .int .i64 0, .int .i64 0, .int .i64 0, .int .i64 0] _ rfl; have hb08 := below_ext hb7 hb8) | (((with_reducible show wpList _ _ _ (⟨_, .store 30 _ _, _, _, _, _⟩ :: _) _ _); refine wpList_store_blk (by rfl) 30 _ _ (by rfl) _ _ (by rfl) (by rfl) _ _ hX8 (by kernel_rfl) (by rfl) ?_ ?_; (next => first | (simp [Value.oneCell']; done) | (simp [Value.oneCell', Edt.cells]; done) | exact Are.ordArr_one _); intro w9 hX9 hU9); have hb9 : Below W.heap.size W w9 := below_upd (below_ext hb08 (by (repeat (first | with_reducible exact Below.refl _ _ | (with_reducible assumption) | (with_reducible refine below_alloc ?_ _) | (with_reducible refine below_ext (w1 := ?_) ?_ ?_; rotate_left 2; (with_reducible assumption)) | (with_reducible refine Below.setCell ?_ ?_ _; rotate_left; ((try simp) <;> omega)) | (with_reducible refine Below.drew ?_) | (with_reducible refine below_drewN ?_ _) | fail)))) hb08.size hU9; clear hX8 hX9 hU9) | (go_at_call 10; refine (front_off none side (.inl rfl) _).mono ?_; rintro e w10 ⟨rfl, hb10⟩; have hX10 := Blk.new w10 30 #[.int .i64 0, .int .i64 0, .int .i64 0, .int .i64 0, .int .i64 0, .int .i64 0, .int .i64 0] _ rfl; have hb010 := below_ext hb9 hb10) | (((with_reducible show wpList _ _ _ (⟨_, .store 30 _ _, _, _, _, _⟩ :: _) _ _); refine wpList_store_blk (by rfl) 30 _ _ (by rfl) _ _ (by rfl) (by rfl) _ _ hX10 (by kernel_rfl) (by rfl) ?_ ?_; (next => first | (simp [Value.oneCell']; done) | (simp [Value.oneCell', Edt.cells]; done) | exact Are.ordArr_one _); intro w11 hX11 hU11); have hb11 : Below W.heap.size W w11 := below_upd (below_ext hb010 (by (repeat (first | with_reducible exact Below.refl _ _ | (with_reducible assumption) | (with_reducible refine below_alloc ?_ _) | (with_reducible refine below_ext (w1 := ?_) ?_ ?_; rotate_left 2; (with_reducible assumption)) | (with_reducible refine Below.setCell ?_ ?_ _; rotate_left; ((try simp) <;> omega)) | (with_reducible refine Below.drew ?_) | (with_reducible refine below_drewN ?_ _) | fail)))) hb010.size hU11; clear hX10 hX11 hU11) | (go_at_call 21; refine (best_off none side (.inl rfl) _).mono ?_; rintro e w12 ⟨rfl, hb12⟩; have hb012 := below_ext hb11 hb12) | fail)
  refine (add_bad none ⟨id, 0, 0, 0, 0, 0, 0⟩ (.inl rfl) _).mono ?_
  rintro e w13 ⟨rfl, hb13⟩
  have hb013 := below_ext hb012 hb13
  clear hb4 hb5 hb6 hb7 hb8 hb9 hb10 hb11 hb12 hb06 hb08 hb010 hb012 hb13
  go_wp2_with (first | (go_at_call 22; refine (at_off none side a (.inl rfl) _).mono ?_; rintro e w14 ⟨rfl, hb14⟩; have hb014 := below_ext hb013 hb14) | (go_at_call 23; refine (worth_off none side a (.inl rfl) _).mono ?_; rintro e w15 ⟨rfl, hb15⟩; have hb015 := below_ext hb014 hb15) | (go_at_call 24; refine (room_off none side a (.inl rfl) _).mono ?_; rintro e w16 ⟨rfl, hb16⟩; have hb016 := below_ext hb015 hb16) | (go_at_call 25; refine (fits_off none side a (.inl rfl) _).mono ?_; rintro e w17 ⟨rfl, hb17⟩; have hb017 := below_ext hb016 hb17) | (go_at_call 9; refine (len_nil _).mono ?_; rintro e w18 ⟨rfl, hb18⟩; have hb018 := below_ext hb017 hb18) | (go_at_call 26; refine (crossed_nil _).mono ?_; rintro e w19 ⟨rfl, hb19⟩; have hb019 := below_ext hb018 hb19; have hT19 := hT3.ext hb019) | (go_at_call 11; refine (better_any side a c _).mono ?_; rintro e w20 ⟨rfl, rfl⟩) | (go_at_call 27; refine (rbetter_any side a c _).mono ?_; rintro e w21 ⟨rfl, rfl⟩) | ((with_reducible show wpList _ _ _ (⟨_, .store _ _ _, _, _, _, _⟩ :: _) _ _); refine wpList_store_fld (by rfl) _ _ _ (by rfl) _ _ (by rfl) _ (by rfl) _ _ hT19 ?_ ?_ (by rfl) (by rfl) ?_; (next => first | omega | ((try simp) <;> omega)); (next => kernel_rfl); intro w22 hT22 hU22) | fail)
  have hT23 : Blk w22 w.heap.size 4 #[.bool true] := by
    simpa [go_sem] using hT22
  have hK22 : w22.heap[D]? = some (.deferred (some [])) := (hU22.block D (by omega)).trans ((hb019.block D hDl).trans HK.out)
  have hb22 : Below w.heap.size w w22 := below_upd (below_ext hbW hb019) (Nat.le_refl _) hU22
  have hcc : (w22.putObj D (.deferred none)).cell? ⟨w.heap.size, 0, none⟩ = some (.bool true) := (cell_mark (by omega)).trans (hT23.cell 0)
  exact bodyPostM_ret (v := .bool true) rfl hK22 (by simp [results, Try.results5, go_sem, hcc]) ⟨rfl, below_mark hb22 (by omega) hK22⟩
open Go.ChangeShapes Go.WideShapes Go.ChangeAt Go.Deep
set_option maxRecDepth 100000 in
theorem argsBookNils (H : Type) (enc : TypeId × Value → H) (W : World) (args : Array Value) (hargs : Args Try.checked H enc [3, 2, 2, 2] W args) :
    Calls Try.prog 5 args W fun e W' => e = .returned (.bool true) ∧ Below W.heap.size W W' := by
  obtain ⟨base, ds, p, hval, hA⟩ := hargs
  obtain ⟨v0, vs0, d0, ds0, p0, q0, hargs, rfl, rfl, h0, r0⟩ := trodAll_cons hA
  obtain ⟨v1, vs1, d1, ds1, p1, q1, rfl, rfl, rfl, h1, r1⟩ := trodAll_cons r0
  obtain ⟨v2, vs2, d2, ds2, p2, q2, rfl, rfl, rfl, h2, r2⟩ := trodAll_cons r1
  obtain ⟨v3, vs3, d3, ds3, p3, q3, rfl, rfl, rfl, h3, r3⟩ := trodAll_cons r2
  obtain ⟨rfl, rfl, rfl⟩ := trodAll_nil r3
  obtain rfl : args = #[v0, v1, v2, v3] := by cases args; simp_all
  obtain ⟨side, rfl, _⟩ := open_int Try.underlying3 (hval 0 _ v0 rfl rfl) h0
  obtain ⟨id, rfl, _⟩ := open_int Try.underlying2 (hval 1 _ v1 rfl rfl) h1
  obtain ⟨a, rfl, _⟩ := open_int Try.underlying2 (hval 2 _ v2 rfl rfl) h2
  obtain ⟨c, rfl, _⟩ := open_int Try.underlying2 (hval 3 _ v3 rfl rfl) h3
  exact nils_any side id a c W
theorem ownBookNils : ownKnob Try.prog.godebug = none := by kernel_rfl
theorem laidBookNils : laidOutB Try.prog = true := by kernel_rfl
set_option maxRecDepth 100000 in
theorem liftedBookNils (os : Os) (started : os.Started) (H : Type) (enc : TypeId × Value → H) :
    ReturnsInHanded {} Try.checked os 5 .any (Rows.bookNilsSpec.pre6 enc Try.prog Try.f5 Rows.bookNilsRow.domain false) (Rows.bookNilsSpec.post enc Try.prog Try.f5 false true false false) :=
  law_lifted (C := Try.checked) (ts := [3, 2, 2, 2]) (tb := 4) ownBookNils laidBookNils started (by kernel_rfl) Try.func5 (by kernel_rfl)
    (ChangeSpec.witness6 (enc := enc) (C := Try.checked) false ⟨#[], #[.int .i64 0, .int .i64 0, .int .i64 0, .int .i64 0], []⟩ 8 (by kernel_rfl) (by kernel_rfl) (by kernel_rfl) (by kernel_rfl))
    rfl (by kernel_rfl) Try.underlying4 (by kernel_rfl)
    (fun ds h => by
      match ds, h with
      | [d0, d1, d2, d3], _ => rfl)
    (fun W args h => argsBookNils H enc W args h)
theorem provedBookNils : Rows.BookNilsSaid :=
  OpenClaim.holds_of_wide 5 Try.f5 rfl rfl rfl rfl rfl rfl rfl ⟨rfl, rfl, rfl, rfl, rfl⟩ rfl rfl rfl rfl rfl (by kernel_rfl) Try.func5 (by kernel_rfl)
    (of_decide_eq_true (by kernel_rfl)) (by unfold Func.isWrapper; first | (rw [if_pos (by decide +kernel)]; kernel_rfl) | (rw [if_neg (by decide +kernel)]; exact ⟨rfl, rfl⟩))
    (fun os started H enc _ => liftedBookNils os started H enc)
#print axioms provedBookNils
end Bk
end Go.Proofs.Ytdhbioaoholcbaa
