/- This text proves what the small functions of the package sweep answer: other, worse, put. It has no conditions but those that it states. -/
import Derived.Test.YtbnappiaomiciaaGreatSwL
import Derived.Test.YtbnappiaomiciaaGreatBkV
import Derived.Test.YtbnappiaomiciaaGreatRkA
namespace Go.Proofs.YtbnappiaomiciaaGreat
set_option linter.unusedVariables false
open Go.RowKit
namespace Sw
set_option maxHeartbeats 4000000
set_option maxRecDepth 10000
open Bk (bet)
theorem other_yes {s : Int} (hs : s = 0 ∨ s = 1) (w : World) : Calls Tryz.prog 68 #[.int .i64 s] w fun e w' => e = .returned (.tuple #[.int .i64 (1 - s), .bool true]) ∧ w = w' := by
  rcases hs with rfl | rfl
  all_goals
    go_enter Tryz.func68, Tryz.ntmps68
    go_wp2_with fail
    exact bodyPost_ret (v := .tuple #[.int .i64 _, .bool true]) (by simp [results, Tryz.results68, go_sem]; first | done | rfl) rfl ⟨by simp, rfl⟩
theorem other_no {s : Int} (h0 : s ≠ 0) (h1 : s ≠ 1) (w : World) : Calls Tryz.prog 68 #[.int .i64 s] w fun e w' => (∃ z, e = .returned (.tuple #[.int .i64 z, .bool false])) ∧ w = w' := by
  have k0 : (s == 0) = false := by simpa using h0
  have k1 : (s == 1) = false := by simpa using h1
  go_enter Tryz.func68, Tryz.ntmps68
  go_wp2_with fail
  exact bodyPost_ret (v := .tuple #[.int .i64 _, .bool false]) (by simp [results, Tryz.results68, go_sem]; first | done | rfl) rfl ⟨⟨_, rfl⟩, rfl⟩
theorem worse_any (s p l : Int) (w : World) : Calls Tryz.prog 70 #[.int .i64 s, .int .i64 p, .int .i64 l] w fun e w' => e = .returned (.bool (wrs s p l)) ∧ w = w' := by
  have HB := Lib.hid (fun W => Bk.better_any s p l W)
  by_cases h : l = 0
  · subst h
    go_enter Tryz.func70, Tryz.ntmps70
    go_wp2_with fail
    go_ret
    exact ⟨by simp [wrs], rfl⟩
  · have k0 : (l == 0) = false := by simpa using h
    have k1 : wrs s p l = bet s p l := by simp [wrs, h]
    rw [k1]
    clear k1
    generalize bet s p l = b at *
    go_enter Tryz.func70, Tryz.ntmps70
    go_wp2_with (first | (go_at_call 53; refine (HB.out _).mono ?_; rintro e w1 ⟨rfl, rfl⟩) | fail)
    go_ret
    exact ⟨by simp [h], rfl⟩
theorem rworse_any (s p l : Int) (w : World) : Calls Tryz.prog 74 #[.int .i64 s, .int .i64 p, .int .i64 l] w fun e w' => e = .returned (.bool (wrs s p l)) ∧ w = w' := by
  have HB := Lib.hid (fun W => Bk.rbetter_any s p l W)
  by_cases h : l = 0
  · subst h
    go_enter Tryz.func74, Tryz.ntmps74
    go_wp2_with fail
    go_ret
    exact ⟨by simp [wrs], rfl⟩
  · have k0 : (l == 0) = false := by simpa using h
    have k1 : wrs s p l = bet s p l := by simp [wrs, h]
    rw [k1]
    clear k1
    generalize bet s p l = b at *
    go_enter Tryz.func74, Tryz.ntmps74
    go_wp2_with (first | (go_at_call 100; refine (HB.out _).mono ?_; rintro e w1 ⟨rfl, rfl⟩) | fail)
    go_ret
    exact ⟨by simp [h], rfl⟩
/-- What put leaves: all blocks but the plan and the row of its fills. -/
structure Pt (pb : Nat) (v : Value) (w w' : World) : Prop where
  os : w'.os = w.os
  tape : w'.tape = w.tape
  output : w'.output = w.output
  size : w.heap.size ≤ w'.heap.size
  same : ∀ q, q < w.heap.size → q ≠ pb → v.ownBlock ≠ some q → w'.heap[q]? = w.heap[q]?
theorem fl_ok (l : List Fl) : ∀ r ∈ l.map Fl.cells, r.length = 4 ∧ ∀ u ∈ r, u.oneCell' = true := by
  intro r hr
  obtain ⟨x, _, rfl⟩ := List.mem_map.1 hr
  exact ⟨rfl, fun u hu => by simp [Fl.cells] at hu; rcases hu with rfl | rfl | rfl | rfl <;> rfl⟩
theorem flatF_snoc (l : List Fl) (f : Fl) : flatF (l ++ [f]) = flatF l ++ [f.cells].flatten := by simp [flatF]
def SP (pb ob : Nat) (v : Value) (o : Ord) (W : World) : Prop := W.cell? ⟨pb, 0, none⟩ = some v ∧ W.cell? ⟨ob, 0, none⟩ = some (.int .i64 o.id) ∧ W.cell? ⟨ob, 3, none⟩ = some (.int .i64 o.price)
theorem owns_cellsF {W : World} {B : Nat} {e : TypeId} {size n : Nat} {v : Value} {xs : List Value} (h : W.ownsRow B e size v n xs) : v.cells = #[v] ∧ v.oneCell' = true := by
  rcases h.2 with ⟨rfl, _⟩ | ⟨g, cap, cur, rfl, _⟩ <;> exact ⟨rfl, rfl⟩
theorem owns_keepB {w w' : World} {B : Nat} {e : TypeId} {size n : Nat} {v : Value} {xs : List Value} (h : w.ownsRow B e size v n xs) (hk : ∀ (r : Nat) (cs : Array Value) (fr : Nat × Nat), w.heap[r]? = some (Obj.cells cs e fr) → w'.heap[r]? = w.heap[r]?) : w'.ownsRow B e size v n xs := by
  refine ⟨h.1, ?_⟩
  rcases h.2 with h0 | ⟨g, cap, cur, h1, h2, h3, h4⟩
  · exact .inl h0
  · exact .inr ⟨g, cap, cur, h1, h2, (hk _ _ _ h3).trans h3, h4⟩
theorem owns_upd {w w' : World} {B pb : Nat} {e t : TypeId} {size n : Nat} {v : Value} {xs : List Value} {cs : Array Value} (h : w.ownsRow B e size v n xs) (hP : Blk w pb t cs) (ht : t ≠ e) (u : Upd pb w w') : w'.ownsRow B e size v n xs :=
  owns_keepB h (fun r cs fr hr => u.block r (fun e => by
    subst e
    rw [show w.heap[_]? = _ from hP] at hr
    cases hr
    exact ht rfl))
theorem put_any {w : World} {pb B : Nat} {v : Value} {left stop : Int} {fs : List Fl} (hP : Blk w pb 59 #[v, .int .i64 left, .int .i64 stop]) (hown : w.ownsRow B 54 4 v fs.length (flatF fs)) (hB : B ≤ w.heap.size) (hl : fs.length ≤ 200000) (o : Ord) (q : Int) (g : Bool) :
    Calls Tryz.prog 83 #[.pointer (some ⟨pb, 0, none⟩), .agg o.arr, .int .i64 q, .bool g] w fun e w' => e = .returned (.tuple #[]) ∧
      ∃ v', Blk w' pb 59 #[v', .int .i64 left, .int .i64 stop] ∧ w'.ownsRow B 54 4 v' (fs ++ [Fl.mk o.id o.price q g]).length (flatF (fs ++ [Fl.mk o.id o.price q g])) ∧ Pt pb v w w' := by
  have hA0 : Blk (w.alloc (.cells o.arr 30)) w.heap.size 30 o.arr := Blk.new _ _ _ _ rfl
  have hb0 : Below w.heap.size w (w.alloc (.cells o.arr 30)) := by (repeat (first | with_reducible exact Below.refl _ _ | (with_reducible assumption) | (with_reducible refine below_alloc ?_ _) | (with_reducible refine below_ext (w1 := ?_) ?_ ?_; rotate_left 2; (with_reducible assumption)) | (with_reducible refine Below.setCell ?_ ?_ _; rotate_left; ((try simp) <;> omega)) | (with_reducible refine Below.drew ?_) | (with_reducible refine below_drewN ?_ _) | fail))
  have hpl := hP.lt
  have hz0 : (w.alloc (.cells o.arr 30)).heap.size = w.heap.size + 1 := sz_alloc _ _
  have hP0 := hP.ext hb0
  have hown0 := owns_ext hown hb0
  go_enter Tryz.func83, Tryz.ntmps83
  go_wp2_with fail
  refine wp_region_T (S := SP pb w.heap.size v o) 16 (by kernel_rfl) ?_
  generalize hw0 : w.alloc (.cells o.arr 30) = w0 at *
  have hb1 : Below w.heap.size w w0.drew := hb0.drew
  have hP1 : Blk w0.drew pb 59 #[v, .int .i64 left, .int .i64 stop] := hP0.drew
  have hA1 : Blk w0.drew w.heap.size 30 o.arr := hA0.drew
  have hown1 : w0.drew.ownsRow B 54 4 v fs.length (flatF fs) := hown0.drew
  have hz1 : w0.drew.heap.size = w.heap.size + 1 := hz0
  generalize w0.drew = w1 at *
  have hS : SP pb w.heap.size v o w1 := ⟨hP1.cell 0, hA1.cell 0, hA1.cell 3⟩
  (refine T_take (i := 0) rfl (by kernel_rfl) (fun _ _ _ _ h => h) hS ?_; apply Exists.intro; refine ⟨.inl ⟨by rfl, fun W hW => ?_⟩, ?_⟩; (next => (obtain ⟨hs1, hs2⟩ := hW; go_simp; first | done | rfl)); simp only [Act.put, List.setIfInBounds_toArray, List.set_cons_zero, List.set_cons_succ])
  (refine T_take (i := 1) rfl (by kernel_rfl) (fun _ _ _ _ h => h) hS ?_; apply Exists.intro; refine ⟨.inl ⟨by rfl, fun W hW => ?_⟩, ?_⟩; (next => (obtain ⟨hs1, hs2⟩ := hW; go_simp; first | done | rfl)); simp only [Act.put, List.setIfInBounds_toArray, List.set_cons_zero, List.set_cons_succ])
  (refine T_take (i := 2) rfl (by kernel_rfl) (fun _ _ _ _ h => h) hS ?_; apply Exists.intro; refine ⟨.inl ⟨by rfl, fun W hW => ?_⟩, ?_⟩; (next => (obtain ⟨hs1, hs2⟩ := hW; go_simp; first | done | rfl)); simp only [Act.put, List.setIfInBounds_toArray, List.set_cons_zero, List.set_cons_succ])
  (refine T_take (i := 3) rfl (by kernel_rfl) (fun _ _ _ _ h => h) hS ?_; apply Exists.intro; refine ⟨.inl ⟨by rfl, fun W hW => ?_⟩, ?_⟩; (next => (obtain ⟨hs1, hs2⟩ := hW; go_simp; first | done | rfl)); simp only [Act.put, List.setIfInBounds_toArray, List.set_cons_zero, List.set_cons_succ])
  (refine T_take (i := 4) rfl (by kernel_rfl) (fun _ _ _ _ h => h) hS ?_; apply Exists.intro; refine ⟨.inl ⟨by rfl, fun W hW => ?_⟩, ?_⟩; (next => (obtain ⟨hs1, hs2⟩ := hW; go_simp; first | done | rfl)); simp only [Act.put, List.setIfInBounds_toArray, List.set_cons_zero, List.set_cons_succ])
  (refine T_take (i := 5) rfl (by kernel_rfl) (fun _ _ _ _ h => h) hS ?_; apply Exists.intro; refine ⟨.inl ⟨by rfl, fun W hW => ?_⟩, ?_⟩; (next => (obtain ⟨hs1, hs2⟩ := hW; go_simp; first | done | rfl)); simp only [Act.put, List.setIfInBounds_toArray, List.set_cons_zero, List.set_cons_succ])
  (refine T_take (i := 6) rfl (by kernel_rfl) (fun _ _ _ _ h => h) hS ?_; apply Exists.intro; refine ⟨.inl ⟨by rfl, fun W hW => ?_⟩, ?_⟩; (next => (obtain ⟨hs1, hs2⟩ := hW; go_simp; first | done | rfl)); simp only [Act.put, List.setIfInBounds_toArray, List.set_cons_zero, List.set_cons_succ])
  (refine T_take (i := 7) rfl (by kernel_rfl) (fun _ _ _ _ h => h) hS ?_; apply Exists.intro; refine ⟨.inl ⟨by rfl, fun W hW => ?_⟩, ?_⟩; (next => (obtain ⟨hs1, hs2⟩ := hW; go_simp; first | done | rfl)); simp only [Act.put, List.setIfInBounds_toArray, List.set_cons_zero, List.set_cons_succ])
  (refine T_take (i := 8) rfl (by kernel_rfl) (fun _ _ _ _ h => h) hS ?_; apply Exists.intro; refine ⟨.inl ⟨by rfl, fun W hW => ?_⟩, ?_⟩; (next => (obtain ⟨hs1, hs2⟩ := hW; go_simp; first | done | rfl)); simp only [Act.put, List.setIfInBounds_toArray, List.set_cons_zero, List.set_cons_succ])
  (refine T_take (i := 9) rfl (by kernel_rfl) (fun _ _ _ _ h => h) hS ?_; apply Exists.intro; refine ⟨.inl ⟨by rfl, fun W hW => ?_⟩, ?_⟩; (next => (obtain ⟨hs1, hs2⟩ := hW; go_simp; first | done | rfl)); simp only [Act.put, List.setIfInBounds_toArray, List.set_cons_zero, List.set_cons_succ])
  (refine T_take (i := 10) rfl (by kernel_rfl) (fun _ _ _ _ h => h) hS ?_; apply Exists.intro; refine ⟨.inl ⟨by rfl, fun W hW => ?_⟩, ?_⟩; (next => (obtain ⟨hs1, hs2⟩ := hW; go_simp; first | done | rfl)); simp only [Act.put, List.setIfInBounds_toArray, List.set_cons_zero, List.set_cons_succ])
  (refine T_take (i := 11) rfl (by kernel_rfl) (fun _ _ _ _ h => h) hS ?_; apply Exists.intro; refine ⟨.inl ⟨by rfl, fun W hW => ?_⟩, ?_⟩; (next => (obtain ⟨hs1, hs2⟩ := hW; go_simp; first | done | rfl)); simp only [Act.put, List.setIfInBounds_toArray, List.set_cons_zero, List.set_cons_succ])
  refine T_all [12] (by kernel_rfl) (by decide) ?_
  intro j hj
  simp only [List.mem_cons, List.mem_nil_iff, or_false, List.not_mem_nil] at hj
  subst hj
  refine T_op rfl (by rfl) ?_
  refine wp_build1 _ 54 _ (by rfl) (Value.agg #[.int .i64 0, .int .i64 0, .int .i64 0, .bool false]) 4 Tryz.underlying28 (by kernel_rfl) ⟨by decide, by decide⟩ (.agg #[.int .i64 o.id, .int .i64 o.price, .int .i64 q, .bool g]) (by rfl) #[.int .i64 o.id, .int .i64 o.price, .int .i64 q, .bool g] (by kernel_rfl) ?_
  intro w2 hX2 hb2' hz2
  have hb2 : Below w.heap.size w w2 := hb1.trans (hb2'.mono (by omega))
  refine ⟨.inr ⟨(hP1.ext hb2').cell 0, (hA1.ext hb2').cell 0, (hA1.ext hb2').cell 3⟩, ?_⟩
  simp only [Act.put, List.setIfInBounds_toArray, List.set_cons_zero, List.set_cons_succ]
  refine T_all [13] (by kernel_rfl) (by decide) ?_
  intro j hj
  simp only [List.mem_cons, List.mem_nil_iff, or_false, List.not_mem_nil] at hj
  subst hj
  refine T_op rfl (by rfl) ?_
  refine wp_append_rd _ _ _ (by rfl) B 54 (Value.agg #[.int .i64 0, .int .i64 0, .int .i64 0, .bool false]) 4 32 Tryz.underlying28 (by kernel_rfl) ⟨rfl, by decide⟩ v fs.length (flatF fs) (by rfl) (owns_ext hown1 hb2') (some ⟨w1.heap.size, 0, none⟩) 1 1 [Fl.cells ⟨o.id, o.price, q, g⟩] (by rfl) (rd_own hX2 (by simp [Fl.cells]) (n := 1) (by simp [Fl.cells])) ⟨rfl, fl_ok [⟨o.id, o.price, q, g⟩]⟩ (by simp) ⟨by unfold maxLen; omega, by omega⟩ (by omega) ?_
  intro v1 w3 hown3 hb3 hz3 hk3
  have hne : v.ownBlock ≠ some pb := fun e => by
    rcases hown.2 with ⟨rfl, _⟩ | ⟨r, cap, cur, rfl, _, hg, _⟩
    · cases e
    · simp only [Value.ownBlock, Option.some.injEq] at e
      subst e
      rw [show w.heap[_]? = _ from hP] at hg
      cases hg
  have hne2 : v.ownBlock ≠ some w.heap.size := fun e => by
    rcases hown.2 with ⟨rfl, _⟩ | ⟨r, cap, cur, rfl, _, hg, _⟩
    · cases e
    · simp only [Value.ownBlock, Option.some.injEq] at e
      subst e
      have := (Array.getElem?_eq_some_iff.1 hg).1
      omega
  have hP3 : Blk w3 pb 59 #[v, .int .i64 left, .int .i64 stop] := (hk3 pb (by omega) hne).trans (hP1.ext hb2')
  have hA3 : Blk w3 w.heap.size 30 o.arr := (hk3 w.heap.size (by omega) hne2).trans (hA1.ext hb2')
  have hS : SP pb w.heap.size v o w3 := ⟨hP3.cell 0, hA3.cell 0, hA3.cell 3⟩
  refine ⟨.inr hS, ?_⟩
  simp only [Act.put, List.setIfInBounds_toArray, List.set_cons_zero, List.set_cons_succ]
  refine T_all [14] (by kernel_rfl) (by decide) ?_
  intro j hj
  simp only [List.mem_cons, List.mem_nil_iff, or_false, List.not_mem_nil] at hj
  subst hj
  refine YieldsIf.wpOp (S := fun _ => True) (v := .pointer (some ⟨pb, 0, none⟩)) (at_of_nth rfl) (.inl ⟨by rfl, fun W _ => ?_⟩) trivial ⟨.inr hS, ?_⟩
  · go_simp
    first | done | rfl
  simp only [Act.put, List.setIfInBounds_toArray, List.set_cons_zero, List.set_cons_succ]
  (refine T_take (i := 15) rfl (by kernel_rfl) (fun _ _ _ _ h => h) hS ?_; apply Exists.intro; refine ⟨.inl ⟨by rfl, fun W hW => ?_⟩, ?_⟩; (next => (obtain ⟨hs1, hs2⟩ := hW; go_simp; first | done | rfl)); simp only [Act.put, List.setIfInBounds_toArray, List.set_cons_zero, List.set_cons_succ])
  refine T_all [16] (by kernel_rfl) (by decide) ?_
  intro j hj
  simp only [List.mem_cons, List.mem_nil_iff, or_false, List.not_mem_nil] at hj
  subst hj
  refine T_op rfl (by rfl) ?_
  refine wp_store_fld _ _ _ (by rfl) pb 0 (by rfl) v1 (by rfl) _ _ hP3 (by simp) (by kernel_rfl) (owns_cellsF hown3).1 (owns_cellsF hown3).2 ?_
  intro w4 hst hus
  refine ⟨.inl rfl, ?_⟩
  simp only [Act.put, List.setIfInBounds_toArray, List.set_cons_zero, List.set_cons_succ]
  refine T_done (by kernel_rfl) ?_
  have hown4 : w4.ownsRow B 54 4 v1 (fs.length + 1) (flatF fs ++ [Fl.cells ⟨o.id, o.price, q, g⟩].flatten) := owns_upd hown3 hP3 (by decide) hus
  have hpt : Pt pb v w w4 := by
    have h1 := hb1
    refine ⟨?_, ?_, ?_, ?_, ?_⟩
    · rw [hus.os, hb3.os, hb2.os]
    · rw [hus.tape, hb3.tape, hb2.tape]
    · rw [hus.output, hb3.output, hb2.output]
    · rw [hus.size]; have := hb2.size; omega
    · intro r hr h1 h2
      exact (hus.block r h1).trans ((hk3 r (by have := hb2.size; omega) h2).trans (hb2.block r hr))
  go_wp2_with fail
  go_end0
  exact ⟨rfl, v1, hst, by rw [flatF_snoc]; simpa using hown4, hpt⟩
end Sw
end Go.Proofs.YtbnappiaomiciaaGreat
