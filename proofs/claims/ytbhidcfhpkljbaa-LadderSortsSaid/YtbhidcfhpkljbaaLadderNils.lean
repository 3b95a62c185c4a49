/- This text proves LadderNils: whatever the input, the law returns true. It has no conditions. -/
import Derived.Test.YtbhidcfhpkljbaaLadW
namespace Go.Proofs.Ytbhidcfhpkljbaa
set_option linter.unusedVariables false
open Go.RowKit
namespace Lad
set_option maxHeartbeats 2000000
set_option maxRecDepth 10000
section
variable {w : World} {g : Nat} {v : Value}
def u0 : Nat → Nat := fun _ => 0
def u1 : Nat → Nat := setU u0 0
def u2 : Nat → Nat := setU u1 1
theorem u1_lt : ∀ j, j < 4 → u1 j < 2 ^ 64 := by decide
theorem put10 (L : La w g 1 4 v [] u0) : Calls Try.prog 7 #[.pointer (some ⟨g, 0, none⟩), .int .i64 10, .int .i64 5] w fun e w' => ∃ v', e = .returned (.tuple #[.int .i64 0, .int .i64 0]) ∧ La w' g 1 4 v' [⟨10, 5, 1, 0⟩] u1 ∧ LStep g v v' w w' :=
  put_new (i := 0) L (fun i j _ h => absurd h (by simp)) 10 5 (by omega) (by omega) ⟨by simp, fun j h => absurd h (by omega), fun j _ h => absurd h (by simp)⟩ (by simp) (by simp) (by omega) (by decide) 0 (by omega) (fun j h => absurd h (by omega)) (by decide)
theorem put8 (L : La w g 1 4 v [⟨10, 5, 1, 0⟩] u1) : Calls Try.prog 7 #[.pointer (some ⟨g, 0, none⟩), .int .i64 8, .int .i64 1] w fun e w' => ∃ v', e = .returned (.tuple #[.int .i64 1, .int .i64 0]) ∧ La w' g 1 4 v' [⟨8, 1, 1, 1⟩, ⟨10, 5, 1, 0⟩] u2 ∧ LStep g v v' w w' :=
  put_new (i := 0) L (fun i j h h2 => by simp at h2; omega) 8 1 (by omega) (by omega) ⟨by simp, fun j h => absurd h (by omega), fun j _ h => by
    have : j = 0 := by simpa using h
    subst this
    decide⟩ (by decide) (by simp) (by omega) u1_lt 1 (by omega) (fun j h => by
    have : j = 0 := by omega
    subst this
    decide) (by decide)
theorem best8 {u : Nat → Nat} (L : La w g 1 4 v [⟨8, 1, 1, 1⟩, ⟨10, 5, 1, 0⟩] u) : Calls Try.prog 8 #[.pointer (some ⟨g, 0, none⟩)] w fun e w' => e = .returned (.tuple #[.agg #[.int .i64 8, .int .i64 1, .int .i64 1, .int .i64 1], .bool true]) ∧ Below w.heap.size w w' := best_some L
theorem worth6 {u : Nat → Nat} (L : La w g 1 4 v [⟨8, 1, 1, 1⟩, ⟨10, 5, 1, 0⟩] u) : Calls Try.prog 15 #[.pointer (some ⟨g, 0, none⟩), .int .i64 10] w fun e w' => e = .returned (.int .i64 6) ∧ Below w.heap.size w w' := worth_all L 10 ⟨by omega, by omega⟩ (by decide) (by decide) (by decide)
theorem step_below {v' : Value} {w w' : World} {side most : Int} {ls : List Lvl} {u : Nat → Nat} {B : Nat} (L : La w g side most v ls u) (h : LStep g v v' w w') (hB : B ≤ g) : Below B w w' :=
  ⟨h.os, h.tape, h.output, h.size, fun q hq => h.block q (by have := L.hd.lt; omega) (by omega) (fun e => by have := (L.own_lt q e).1; omega)⟩
theorem alive_any (w : World) : Calls Try.prog 5 #[] w fun e w' => e = .returned (.bool true) ∧ Below w.heap.size w w' := by
  go_enter Try.func5, Try.ntmps5
  go_wp2_with fail
  refine (new_ok 1 4 _ (by omega) (by omega)).mono ?_
  rintro e w1 ⟨rfl, L1, hb1⟩
  go_wp2_with fail
  refine (put10 L1).mono ?_
  rintro e w2 ⟨v2, rfl, L2, hs2⟩
  have hb2 : Below w.heap.size w1 w2 := step_below L1 hs2 (Nat.le_refl _)
  go_wp2_with fail
  refine (put8 L2).mono ?_
  rintro e w3 ⟨v3, rfl, L3, hs3⟩
  have hb3 : Below w.heap.size w2 w3 := step_below L2 hs3 (Nat.le_refl _)
  go_wp2_with fail
  refine (best8 L3).mono ?_
  rintro e w4 ⟨rfl, hb4⟩
  have L4 := L3.ext hb4
  have hbA : Below w.heap.size w w4 := ((hb1.trans hb2).trans hb3).trans (hb4.mono (by have := hb1.size; have := hb2.size; have := hb3.size; omega))
  clear hb1 hb2 hb3 hb4 L1 L2 L3 hs2 hs3
  have L5 := L4.ext (below_alloc (Below.refl w4.heap.size w4) (.cells #[.int .i64 8, .int .i64 1, .int .i64 1, .int .i64 1] 32))
  have HWo := Lib.hid (worth6 L5)
  go_wp2_with (first | (go_at_call 15; refine HWo.out.mono ?_; rintro e w6 ⟨rfl, hb6⟩) | fail)
  go_ret
  exact ⟨rfl, below_ext (below_alloc hbA _) hb6⟩
theorem bestz (w : World) : Calls Try.prog 8 #[.pointer none] w fun e w' => e = .returned (.tuple #[.agg #[.int .i64 0, .int .i64 0, .int .i64 0, .int .i64 0], .bool false]) ∧ Below w.heap.size w w' := best_nil w
theorem findz (p : Int) (w : World) : Calls Try.prog 13 #[.pointer none, .int .i64 p] w fun e w' => e = .returned (.tuple #[.agg #[.int .i64 0, .int .i64 0, .int .i64 0, .int .i64 0], .bool false]) ∧ Below w.heap.size w w' := find_nil p w
theorem nils_any (i n : Int) (w : World) :
    Calls Try.prog 4 #[.int .i64 i, .int .i64 n] w fun e w' => e = .returned (.bool true) ∧ Below w.heap.size w w' := by
  refine calls_of_wp_marks Try.func4 rfl ?_
  simp only [Try.ntmps4, List.size_toArray, List.length_cons, List.length_nil, Nat.reduceAdd, Nat.reduceSub, Array.replicate_succ, Array.replicate_zero, List.push_toArray, List.append_toArray, List.nil_append, List.cons_append]
  have hT : Blk (w.alloc (.cells #[.bool false] 4)) w.heap.size 4 #[.bool false] := Blk.new _ _ _ _ rfl
  have hb0 : Below w.heap.size w (w.alloc (.cells #[.bool false] 4)) := by (repeat (first | with_reducible exact Below.refl _ _ | (with_reducible assumption) | (with_reducible refine below_alloc ?_ _) | (with_reducible refine below_ext (w1 := ?_) ?_ ?_; rotate_left 2; (with_reducible assumption)) | (with_reducible refine Below.setCell ?_ ?_ _; rotate_left; ((try simp) <;> omega)) | (with_reducible refine Below.drew ?_) | (with_reducible refine below_drewN ?_ _) | fail))
  generalize hw0 : w.alloc (.cells #[.bool false] 4) = w0 at hT hb0
  have HZ0 : Hid (w0.heap.size = w.heap.size + 1) := by show w0.heap.size = _; rw [← hw0, sz_alloc]
  have HW0 := Lib.hid hw0
  clear hw0
  go_wp2_with fail
  rw [HW0.out]
  refine (alive_any _).mono ?_
  rintro e w1 ⟨rfl, hb1⟩
  go_wp2_with fail
  refine (each_any none _).mono ?_
  rintro e w2 ⟨rfl, hB2, hb2⟩
  go_wp2_with fail
  refine wp_rangeFunc_nil (gf := 21) (by rfl) (enters_of Try.func21 (by kernel_rfl) rfl) (each_nil _ _ hB2) ?_
  intro D w3 hD hb3 hK
  have hT3 := ((hT.ext hb1).ext hb2).ext hb3
  have hbB : Below w.heap.size w w3 := ((hb0.trans (hb1.mono hb0.size)).trans (hb2.mono (below_ext hb0 hb1).size)).trans (hb3.mono (below_ext (below_ext hb0 hb1) hb2).size)
  have hDl : w.heap.size < D := by
    have h1 := HZ0.out
    have h2 := hb1.size
    have h3 := hb2.size
    omega
  have hKl : D < w3.heap.size := (Array.getElem?_eq_some_iff.1 hK).1
  go_wp2_with (first | (go_at_call 7; refine (put_nil i n).mono ?_; rintro e w' ⟨rfl, rfl⟩) | (go_at_call 10; refine (take_nil i n true _).mono ?_; rintro e w' ⟨rfl, rfl⟩) | (go_at_call 8; refine (bestz _).mono ?_; rintro e w4 ⟨rfl, hb4⟩) | (go_at_call 13; refine (findz i _).mono ?_; rintro e w5 ⟨rfl, hb5⟩) | (go_at_call 14; refine (fits_nil i _).mono ?_; rintro e w' ⟨rfl, rfl⟩) | (go_at_call 15; refine (worth_nil i _).mono ?_; rintro e w6 ⟨rfl, hb6⟩; have hT6 := ((((hT3.ext hb4).alloc (.cells #[.int .i64 0, .int .i64 0, .int .i64 0, .int .i64 0] 32)).ext hb5).alloc (.cells #[.int .i64 0, .int .i64 0, .int .i64 0, .int .i64 0] 32)).ext hb6) | (go_at_call 11; refine (len_nil _).mono ?_; rintro e w' ⟨rfl, rfl⟩) | ((with_reducible show wpList _ _ _ (⟨_, .store _ _ _, _, _, _, _⟩ :: _) _ _); refine wpList_store_fld (by rfl) _ _ _ (by rfl) _ _ (by rfl) _ (by rfl) _ _ hT6 ?_ ?_ (by rfl) (by rfl) ?_; (next => first | omega | ((try simp) <;> omega)); (next => kernel_rfl); intro w9 hT9 hU9) | fail)
  have hb38 : Below w3.heap.size w3 w6 := below_ext (below_alloc (below_ext (below_alloc hb4 _) hb5) _) hb6
  have hK9 : w9.heap[D]? = some (.deferred (some [])) := (hU9.block D (by omega)).trans ((hb38.block D hKl).trans hK)
  have hb9 : Below w.heap.size w w9 := below_upd (hbB.trans (hb38.mono (by omega))) (by omega) hU9
  have hT10 : Blk w9 w.heap.size 4 #[.bool true] := hT9
  have hcc : (w9.putObj D (.deferred none)).cell? ⟨w.heap.size, 0, none⟩ = some (.bool true) := (cell_mark (by omega)).trans (hT10.cell 0)
  exact bodyPostM_ret (v := .bool true) rfl hK9 (by simp [results, Try.results4, go_sem, hcc]) ⟨rfl, below_mark hb9 (by omega) hK9⟩
open Go.ChangeShapes Go.WideShapes Go.ChangeAt Go.Deep
set_option maxRecDepth 100000 in
theorem argsLadderNils (H : Type) (enc : TypeId × Value → H) (W : World) (args : Array Value) (hargs : Args Try.checked H enc [2, 2] W args) :
    Calls Try.prog 4 args W fun e W' => e = .returned (.bool true) ∧ Below W.heap.size W W' := by
  obtain ⟨base, ds, p, hval, hA⟩ := hargs
  obtain ⟨v0, vs0, d0, ds0, p0, q0, hargs, rfl, rfl, h0, r0⟩ := trodAll_cons hA
  obtain ⟨v1, vs1, d1, ds1, p1, q1, rfl, rfl, rfl, h1, r1⟩ := trodAll_cons r0
  obtain ⟨rfl, rfl, rfl⟩ := trodAll_nil r1
  obtain rfl : args = #[v0, v1] := by cases args; simp_all
  obtain ⟨i, rfl, _⟩ := open_int Try.underlying2 (hval 0 _ v0 rfl rfl) h0
  obtain ⟨n, rfl, _⟩ := open_int Try.underlying2 (hval 1 _ v1 rfl rfl) h1
  exact nils_any i n W
end
theorem ownLadderNils : ownKnob Try.prog.godebug = none := by kernel_rfl
theorem laidLadderNils : laidOutB Try.prog = true := by kernel_rfl
set_option maxRecDepth 100000 in
theorem liftedLadderNils (os : Os) (started : os.Started) (H : Type) (enc : TypeId × Value → H) :
    ReturnsInHanded {} Try.checked os 4 .any (Rows.ladderNilsSpec.pre6 enc Try.prog Try.f4 Rows.ladderNilsRow.domain false) (Rows.ladderNilsSpec.post enc Try.prog Try.f4 false true false false) :=
  law_lifted (C := Try.checked) (ts := [2, 2]) (tb := 4) ownLadderNils laidLadderNils started (by kernel_rfl) Try.func4 (by kernel_rfl)
    (ChangeSpec.witness6 (enc := enc) (C := Try.checked) false ⟨#[], #[.int .i64 0, .int .i64 0], []⟩ 8 (by kernel_rfl) (by kernel_rfl) (by kernel_rfl) (by kernel_rfl))
    rfl (by kernel_rfl) Try.underlying4 (by kernel_rfl)
    (fun ds h => by
      match ds, h with
      | [d0, d1], _ => rfl)
    (fun W args h => argsLadderNils H enc W args h)
theorem provedLadderNils : Rows.LadderNilsSaid :=
  OpenClaim.holds_of_wide 4 Try.f4 rfl rfl rfl rfl rfl rfl rfl ⟨rfl, rfl, rfl, rfl, rfl⟩ rfl rfl rfl rfl rfl (by kernel_rfl) Try.func4 (by kernel_rfl)
    (of_decide_eq_true (by kernel_rfl)) (by unfold Func.isWrapper; first | (rw [if_pos (by decide +kernel)]; kernel_rfl) | (rw [if_neg (by decide +kernel)]; exact ⟨rfl, rfl⟩))
    (fun os started H enc _ => liftedLadderNils os started H enc)
#print axioms provedLadderNils
end Lad
end Go.Proofs.Ytbhidcfhpkljbaa
