/- This text proves how lists of edits are turned and compared, and the chapter's example: contracts of damperref38.Same, and of the law's back and alive. It has no conditions but those that they state. -/
import Derived.Test.YtpopfjfmppmjdaaCmpEd
import Derived.Test.YtpopfjfmppmjdaaSink
namespace Go.Proofs.Ytpopfjfmppmjdaa
set_option linter.unusedVariables false
open Go.RowKit
namespace Cmp
set_option maxHeartbeats 1000000
set_option maxRecDepth 10000
/-! ### '==' of edits -/
def eqE (x y : Edt) : Bool := x.op == y.op && (x.a == y.a && x.b == y.b)
theorem eqE_iff (x y : Edt) : eqE x y = true ↔ x = y := by
  obtain ⟨a1, a2, a3⟩ := x
  obtain ⟨b1, b2, b3⟩ := y
  simp [eqE]
theorem eqE_refl (x : Edt) : eqE x x = true := (eqE_iff x x).2 rfl
theorem guardC : Try.prog.eqGuardType Try.prog.depth 34 = false := by kernel_rfl
theorem guardR : Try.prog.eqGuardType Try.prog.depth 33 = false := by kernel_rfl
theorem eqEC (x y : Edt) (w : World) : (Op.equalIn 10000 34 (.agg x.arr) (.agg y.arr)).run Try.prog w = .ok (eqE x y) w := by
  have u3 := Try.underlying3
  have a3 := Try.isAgg3
  have z3 := Try.sizeOf3
  have hS : Try.prog.underlying 34 = some (.struct (Try.prog.fieldsOf 34)) := by kernel_rfl
  have hp : Try.prog.stoodInHeld 34 = false := by kernel_rfl
  rw [show (10000 : Nat) = 9999 + 1 from rfl, run_equalIn_agg w 9999 34 _ _ hS hp]
  simp only [Program.fieldsOf, Try.underlying34]
  go_simp
  unfold eqE
  by_cases h1 : x.op = y.op
  · by_cases h2 : x.a = y.a
    · by_cases h3 : x.b = y.b <;> simp [h1, h2, h3]
    · simp [h1, h2]
  · simp [h1]
theorem eqER (x y : Edt) (w : World) : (Op.equalIn 10000 33 (.agg x.arr) (.agg y.arr)).run Try.prog w = .ok (eqE x y) w := by
  have u3 := Try.underlying3
  have a3 := Try.isAgg3
  have z3 := Try.sizeOf3
  have hS : Try.prog.underlying 33 = some (.struct (Try.prog.fieldsOf 33)) := by kernel_rfl
  have hp : Try.prog.stoodInHeld 33 = false := by kernel_rfl
  rw [show (10000 : Nat) = 9999 + 1 from rfl, run_equalIn_agg w 9999 33 _ _ hS hp]
  simp only [Program.fieldsOf, Try.underlying33]
  go_simp
  unfold eqE
  by_cases h1 : x.op = y.op
  · by_cases h2 : x.a = y.a
    · by_cases h3 : x.b = y.b <;> simp [h1, h2, h3]
    · simp [h1, h2]
  · simp [h1]
section
variable {ops : Array Oper} {C : World → Prop} {Q : Act → Prop} {a : Act} {o : Oper} {rest : List Oper}
/-- '==' of an edit with itself. -/
theorem q_eqc (hgd : Region.wanted o (yielded ops a.tmps) = true) (x y : Operand) (u : TypeId) (ho : o.op = .binOp .eql 34 x y u) (p : Edt)
    (hx : a.eval x = .agg p.arr) (hy : a.eval y = .agg p.arr) (h : wpQuiet Try.prog ops C Q rest (a.put o.dst (.bool true))) : wpQuiet Try.prog ops C Q (o :: rest) a :=
  q_step hgd _ (fun w _ => by
    unfold Oper.quietAt execOp
    simp only [ho, hx, hy, Sem.run_bind, run_eqGuard_agg _ _ _ _ _ _ _ guardC, Result.andThen_ok, run_eql_struct, eqEC, eqE_refl]
    exact ⟨rfl, rfl⟩) h
theorem q_ner (hgd : Region.wanted o (yielded ops a.tmps) = true) (x y : Operand) (u : TypeId) (ho : o.op = .binOp .neq 33 x y u) (p q : Edt)
    (hx : a.eval x = .agg p.arr) (hy : a.eval y = .agg q.arr) (c : Bool) (hc : Hid (eqE p q = !c)) (h : wpQuiet Try.prog ops C Q rest (a.put o.dst (.bool c))) : wpQuiet Try.prog ops C Q (o :: rest) a :=
  q_step hgd _ (fun w _ => by
    unfold Oper.quietAt execOp
    simp only [ho, hx, hy, Sem.run_bind, run_eqGuard_agg _ _ _ _ _ _ _ guardR, Result.andThen_ok, run_neq_struct, eqER, hc.out, Bool.not_not]
    exact ⟨rfl, rfl⟩) h
end
/-! ### lists of edits -/
theorem rd_edt {w : World} {A : Option Addr} {l : List Edt} (h : Rd w 3 A (l.map Edt.cells)) {i : Nat} (hi : i < l.length) : ∃ b o, A = some ⟨b, o, none⟩ ∧ w.rangeAt b (o + i * 3) (l[i]'hi).cells ∧ b < w.heap.size := by
  obtain ⟨b, o, rfl, hc⟩ := h.at hi
  exact ⟨b, o, rfl, fun j u hu => by rw [Nat.add_assoc]; exact hc j u hu, cell_lt (hc 0 _ rfl)⟩
theorem edt_ok (l : List Edt) : ∀ r ∈ l.map Edt.cells, r.length = 3 ∧ ∀ u ∈ r, u.oneCell' = true := by
  intro r hr
  obtain ⟨x, _, rfl⟩ := List.mem_map.1 hr
  exact ⟨rfl, by simp [Edt.cells, Value.oneCell']⟩
theorem owns_edt {w : World} {B : Nat} {e : TypeId} {v : Value} {l : List Edt} (h : w.ownsRow B e 3 v l.length (flatE l)) : ∃ A cap, v = .slice A l.length cap ∧ Rd w 3 A (l.map Edt.cells) ∧ l.length ≤ cap := by
  rcases h.2 with ⟨rfl, h0⟩ | ⟨g, cap, cur, rfl, hb, hg, hc, _, _, ht⟩
  · rw [h0]
    have : l = [] := List.eq_nil_of_length_eq_zero h0
    subst this
    exact ⟨none, 0, rfl, fun hne => absurd rfl hne, Nat.le_refl _⟩
  · exact ⟨some ⟨g, 0, none⟩, cap, rfl, rd_own (show Blk w g e cur from hg) (n := l.length) (fun r hr => (edt_ok l r hr).1) ht, hc⟩
section
variable {w : World} {A : Option Addr} {ca : Nat} {B : Option Addr} {cb : Nat} {l : List Edt}
/-- Lists that are the same are the same. -/
theorem same_any (hl : l.length ≤ 1000) (hA : Rd w 3 A (l.map Edt.cells)) (hB : Rd w 3 B (l.map Edt.cells)) :
    Calls Try.prog 9 #[.slice A l.length ca, .slice B l.length cb] w fun e w' => e = .returned (.bool true) ∧ Below w.heap.size w w' := by
  replace hA := Lib.hid hA
  replace hB := Lib.hid hB
  go_enter Try.func9, Try.ntmps9
  go_wp2_with fail
  go_loopw [5] (fun i wr => ∃ k : Nat, i = .int .i64 k ∧ k ≤ l.length ∧ Below w.heap.size w wr) (fun i _ => l.length - (intOf i).toNat)
  case atStart => exact ⟨0, rfl, Nat.zero_le _, Below.refl _ _⟩
  case round =>
    obtain ⟨k, rfl, hk, hb⟩ := hrel
    by_cases hlt : k < l.length
    · have e1 : (k : Int) < (l.length : Int) := by omega
      obtain ⟨b1, o1, rfl, r1, m1⟩ := rd_edt (hA.out.below hb) hlt
      obtain ⟨b2, o2, rfl, r2, m2⟩ := rd_edt (hB.out.below hb) hlt
      have he : Hid (eqE l[k] l[k] = !false) := Lib.hid (eqE_refl _)
      generalize l[k] = x at *
      go_wp2_with fail
      refine wp_region_below_lit (by kernel_rfl) (by kernel_rfl) ?_
      repeat (first | go_big_quiet_skip | (go_big_quiet_want; go_big_quiet_op; go_big_quiet_on) | (refine q_load_mid (by rfl) _ _ (by rfl) (fun _ h => h) _ _ (by rfl) _ _ (by assumption) Try.underlying33 rfl (by kernel_rfl) ?_; (try simp only [Act.put, List.setIfInBounds_toArray, List.set_cons_zero, List.set_cons_succ])) | (refine Cmp.q_ner (by rfl) _ _ _ (by rfl) _ _ (by rfl) (by rfl) _ (by assumption) ?_; (try simp only [Act.put, List.setIfInBounds_toArray, List.set_cons_zero, List.set_cons_succ])) | (refine q_load_fld (by rfl) _ _ (by rfl) (fun _ h => h) _ _ (by rfl) ?_ ?_ ?_ ?_ ?_ ?_; rotate_left; (next => (repeat (first | (with_reducible refine BlkAt.new _ _ _ _ ?_; ((try simp) <;> omega)) | (with_reducible assumption) | (with_reducible refine Blk.at (t := ?_) ?_; rotate_left; with_reducible assumption) | with_reducible refine BlkAt.alloc ?_ _ | with_reducible refine BlkAt.drew ?_ | (with_reducible refine BlkAt.setSame ?_ _ _) | (with_reducible refine BlkAt.setCell ?_ ?_ _; rotate_left; ((try simp) <;> omega)) | (with_reducible refine BlkAt.ext (w := ?_) ?_ ?_; rotate_left 2; (with_reducible assumption)) | fail))); rotate_left; (next => first | (simp only [go_sem]; rfl) | rfl); (next => kernel_rfl); (try simp only [Act.put, List.setIfInBounds_toArray, List.set_cons_zero, List.set_cons_succ])) | (refine q_rem (by rfl) _ _ _ _ (by rfl) _ _ (by rfl) (by rfl) (by kernel_rfl) (by kernel_rfl) ?_ ?_; (next => omega); (try simp only [Act.put, List.setIfInBounds_toArray, List.set_cons_zero, List.set_cons_succ])) | (refine q_step_ex (by rfl) ?_; apply Exists.intro; refine ⟨fun W hW => ?_, ?_⟩; (next => (have hWc := fun (b o : Nat) (h : b < _) => (Ext.out hW).cell (p := ⟨b, o, none⟩) h); (try have hLK := HLK.out W (Ext.out hW)); go_simp; first | rfl | fail | fail); (try simp only [Act.put, List.setIfInBounds_toArray, List.set_cons_zero, List.set_cons_succ])) | fail)
      refine wpQuiet_nil ?_
      intro w6 hb6
      go_wp2_with fail
      go_roundw
      case rel => exact ⟨k + 1, by go_num, by omega, below_ext hb hb6⟩
      case measure => simp [intOf]; omega
    · have ht : k = l.length := by omega
      subst ht
      go_wp2_with fail
      go_ret
      exact ⟨rfl, hb⟩
/-- An edit's cells, behind whatever comes. -/
def SB (b o : Nat) (x : Edt) (W : World) : Prop := W.cell? ⟨b, o, none⟩ = some (.int .i64 x.op) ∧ W.cell? ⟨b, o + 1, none⟩ = some (.int .i64 x.a) ∧ W.cell? ⟨b, o + 2, none⟩ = some (.int .i64 x.b)
theorem SB.of {b o : Nat} {x : Edt} {W : World} (h : W.rangeAt b o x.cells) : SB b o x W := ⟨h 0 _ rfl, h 1 _ rfl, h 2 _ rfl⟩
def BackPost (l : List Edt) (w : World) (e : Ending) (w' : World) : Prop := ∃ v, e = .returned v ∧ w'.ownsRow w.heap.size 33 3 v l.length (flatE l) ∧ Below w.heap.size w w'
theorem back_any (hl : l.length ≤ 1000) (hA : Rd w 3 A (l.map Edt.cells)) :
    Calls Try.prog 10 #[.slice A l.length ca] w (BackPost l w) := by
  replace hA := Lib.hid hA
  go_enter Try.func10, Try.ntmps10
  go_wp2_with fail
  go_loopw [3, 4] (fun v i wr => ∃ (k : Nat) (vv : Value), vv = v ∧ i = .int .i64 k ∧ k ≤ l.length ∧ wr.ownsRow w.heap.size 33 3 vv (l.take k).length (flatE (l.take k)) ∧ Below w.heap.size w wr) (fun _ i _ => l.length - (intOf i).toNat)
  case atStart => exact ⟨0, _, rfl, rfl, Nat.zero_le _, World.ownsRow_nil _ _ _ _, Below.refl _ _⟩
  case round =>
    obtain ⟨k, vv, rfl, rfl, hk, hown, hb⟩ := hrel
    by_cases hlt : k < l.length
    · have e1 : (k : Int) < (l.length : Int) := by omega
      obtain ⟨b1, o1, rfl, r1, m1⟩ := rd_edt (hA.out.below hb) hlt
      obtain ⟨b2, o2, e2, r2, m2⟩ := rd_edt hA.out hlt
      cases e2
      have htk : Hid (l.take (k + 1) = l.take k ++ [l[k]]) := Lib.hid (by rw [List.take_succ_eq_append_getElem hlt])
      have hln : (l.take k).length ≤ 1000 := by simp; omega
      have HS : Hid (∀ W, Below w.heap.size w W → SB b1 (o1 + k * 3) l[k] W) := Lib.hid (fun W hW => SB.of (rng_ext r2 hW))
      generalize l[k] = x at *
      generalize l.take k = acc at *
      go_wp2_with fail
      refine wp_region_T (S := SB b1 (o1 + k * 3) x) 20 (by kernel_rfl) ?_
      have hb1 : Below w.heap.size w wr.drew := hb.drew
      have hown1 : wr.drew.ownsRow w.heap.size 33 3 vv acc.length (flatE acc) := hown
      generalize wr.drew = w1 at hb1 hown1 ⊢
      have hS := HS.out _ hb1
      (refine T_take (i := 0) rfl (by kernel_rfl) (fun _ _ _ _ h => h) hS ?_; apply Exists.intro; refine ⟨.inl ⟨by rfl, fun W hW => ?_⟩, ?_⟩; (next => (obtain ⟨hs1, hs2⟩ := hW; go_simp; first | done | rfl)); simp only [Act.put, List.setIfInBounds_toArray, List.set_cons_zero, List.set_cons_succ])
      (refine T_take (i := 1) rfl (by kernel_rfl) (fun _ _ _ _ h => h) hS ?_; apply Exists.intro; refine ⟨.inl ⟨by rfl, fun W hW => ?_⟩, ?_⟩; (next => (obtain ⟨hs1, hs2⟩ := hW; go_simp; first | done | rfl)); simp only [Act.put, List.setIfInBounds_toArray, List.set_cons_zero, List.set_cons_succ])
      (refine T_take (i := 2) rfl (by kernel_rfl) (fun _ _ _ _ h => h) hS ?_; apply Exists.intro; refine ⟨.inl ⟨by rfl, fun W hW => ?_⟩, ?_⟩; (next => (obtain ⟨hs1, hs2⟩ := hW; go_simp; first | done | rfl)); simp only [Act.put, List.setIfInBounds_toArray, List.set_cons_zero, List.set_cons_succ])
      (refine T_take (i := 3) rfl (by kernel_rfl) (fun _ _ _ _ h => h) hS ?_; apply Exists.intro; refine ⟨.inl ⟨by rfl, fun W hW => ?_⟩, ?_⟩; (next => (obtain ⟨hs1, hs2⟩ := hW; go_simp; first | done | rfl)); simp only [Act.put, List.setIfInBounds_toArray, List.set_cons_zero, List.set_cons_succ])
      (refine T_take (i := 4) rfl (by kernel_rfl) (fun _ _ _ _ h => h) hS ?_; apply Exists.intro; refine ⟨.inl ⟨by rfl, fun W hW => ?_⟩, ?_⟩; (next => (obtain ⟨hs1, hs2⟩ := hW; go_simp; first | done | rfl)); simp only [Act.put, List.setIfInBounds_toArray, List.set_cons_zero, List.set_cons_succ])
      (refine T_take (i := 5) rfl (by kernel_rfl) (fun _ _ _ _ h => h) hS ?_; apply Exists.intro; refine ⟨.inl ⟨by rfl, fun W hW => ?_⟩, ?_⟩; (next => (obtain ⟨hs1, hs2⟩ := hW; go_simp; first | done | rfl)); simp only [Act.put, List.setIfInBounds_toArray, List.set_cons_zero, List.set_cons_succ])
      (refine T_take (i := 6) rfl (by kernel_rfl) (fun _ _ _ _ h => h) hS ?_; apply Exists.intro; refine ⟨.inl ⟨by rfl, fun W hW => ?_⟩, ?_⟩; (next => (obtain ⟨hs1, hs2⟩ := hW; go_simp; first | done | rfl)); simp only [Act.put, List.setIfInBounds_toArray, List.set_cons_zero, List.set_cons_succ])
      (refine T_take (i := 7) rfl (by kernel_rfl) (fun _ _ _ _ h => h) hS ?_; apply Exists.intro; refine ⟨.inl ⟨by rfl, fun W hW => ?_⟩, ?_⟩; (next => (obtain ⟨hs1, hs2⟩ := hW; go_simp; first | done | rfl)); simp only [Act.put, List.setIfInBounds_toArray, List.set_cons_zero, List.set_cons_succ])
      (refine T_take (i := 8) rfl (by kernel_rfl) (fun _ _ _ _ h => h) hS ?_; apply Exists.intro; refine ⟨.inl ⟨by rfl, fun W hW => ?_⟩, ?_⟩; (next => (obtain ⟨hs1, hs2⟩ := hW; go_simp; first | done | rfl)); simp only [Act.put, List.setIfInBounds_toArray, List.set_cons_zero, List.set_cons_succ])
      (refine T_take (i := 9) rfl (by kernel_rfl) (fun _ _ _ _ h => h) hS ?_; apply Exists.intro; refine ⟨.inl ⟨by rfl, fun W hW => ?_⟩, ?_⟩; (next => (obtain ⟨hs1, hs2⟩ := hW; go_simp; first | done | rfl)); simp only [Act.put, List.setIfInBounds_toArray, List.set_cons_zero, List.set_cons_succ])
      (refine T_take (i := 10) rfl (by kernel_rfl) (fun _ _ _ _ h => h) hS ?_; apply Exists.intro; refine ⟨.inl ⟨by rfl, fun W hW => ?_⟩, ?_⟩; (next => (obtain ⟨hs1, hs2⟩ := hW; go_simp; first | done | rfl)); simp only [Act.put, List.setIfInBounds_toArray, List.set_cons_zero, List.set_cons_succ])
      (refine T_take (i := 11) rfl (by kernel_rfl) (fun _ _ _ _ h => h) hS ?_; apply Exists.intro; refine ⟨.inl ⟨by rfl, fun W hW => ?_⟩, ?_⟩; (next => (obtain ⟨hs1, hs2⟩ := hW; go_simp; first | done | rfl)); simp only [Act.put, List.setIfInBounds_toArray, List.set_cons_zero, List.set_cons_succ])
      (refine T_take (i := 12) rfl (by kernel_rfl) (fun _ _ _ _ h => h) hS ?_; apply Exists.intro; refine ⟨.inl ⟨by rfl, fun W hW => ?_⟩, ?_⟩; (next => (obtain ⟨hs1, hs2⟩ := hW; go_simp; first | done | rfl)); simp only [Act.put, List.setIfInBounds_toArray, List.set_cons_zero, List.set_cons_succ])
      (refine T_take (i := 13) rfl (by kernel_rfl) (fun _ _ _ _ h => h) hS ?_; apply Exists.intro; refine ⟨.inl ⟨by rfl, fun W hW => ?_⟩, ?_⟩; (next => (obtain ⟨hs1, hs2⟩ := hW; go_simp; first | done | rfl)); simp only [Act.put, List.setIfInBounds_toArray, List.set_cons_zero, List.set_cons_succ])
      (refine T_take (i := 14) rfl (by kernel_rfl) (fun _ _ _ _ h => h) hS ?_; apply Exists.intro; refine ⟨.inl ⟨by rfl, fun W hW => ?_⟩, ?_⟩; (next => (obtain ⟨hs1, hs2⟩ := hW; go_simp; first | done | rfl)); simp only [Act.put, List.setIfInBounds_toArray, List.set_cons_zero, List.set_cons_succ])
      (refine T_take (i := 15) rfl (by kernel_rfl) (fun _ _ _ _ h => h) hS ?_; apply Exists.intro; refine ⟨.inl ⟨by rfl, fun W hW => ?_⟩, ?_⟩; (next => (obtain ⟨hs1, hs2⟩ := hW; go_simp; first | done | rfl)); simp only [Act.put, List.setIfInBounds_toArray, List.set_cons_zero, List.set_cons_succ])
      (refine T_take (i := 16) rfl (by kernel_rfl) (fun _ _ _ _ h => h) hS ?_; apply Exists.intro; refine ⟨.inl ⟨by rfl, fun W hW => ?_⟩, ?_⟩; (next => (obtain ⟨hs1, hs2⟩ := hW; go_simp; first | done | rfl)); simp only [Act.put, List.setIfInBounds_toArray, List.set_cons_zero, List.set_cons_succ])
      refine T_all [17] (by kernel_rfl) (by decide) ?_
      intro j hj
      simp only [List.mem_cons, List.mem_nil_iff, or_false, List.not_mem_nil] at hj
      subst hj
      refine T_op rfl (by rfl) ?_
      refine wp_build1 26 33 _ (by rfl) (.agg #[.int .i64 0, .int .i64 0, .int .i64 0]) 3 Try.underlying26 (by kernel_rfl) ⟨by decide, by decide⟩ (.agg #[.int .i64 x.op, .int .i64 x.a, .int .i64 x.b]) (by rfl) #[.int .i64 x.op, .int .i64 x.a, .int .i64 x.b] (by kernel_rfl) ?_
      intro w4 hB hb4' hz4
      have hb4 : Below w.heap.size w w4 := hb1.trans (hb4'.mono hb1.size)
      refine ⟨.inr (HS.out _ hb4), ?_⟩
      simp only [Act.put, List.setIfInBounds_toArray, List.set_cons_zero, List.set_cons_succ]
      refine T_all [18] (by kernel_rfl) (by decide) ?_
      intro j hj
      simp only [List.mem_cons, List.mem_nil_iff, or_false, List.not_mem_nil] at hj
      subst hj
      refine T_op rfl (by rfl) ?_
      refine wp_append_rd _ _ _ (by rfl) w.heap.size 33 (.agg #[.int .i64 0, .int .i64 0, .int .i64 0]) 3 24 Try.underlying26 (by kernel_rfl) ⟨rfl, by decide⟩ vv acc.length _ (by rfl) (owns_ext hown1 hb4') (some ⟨w1.heap.size, 0, none⟩) 1 1 [x.cells] (by rfl) (rd_own hB (by simp [Edt.cells]) (n := 1) (by simp [Edt.cells])) ⟨rfl, by simp [Edt.cells, Value.oneCell']⟩ (by simp) ⟨by unfold maxLen; omega, by omega⟩ (by have := hb1.size; omega) ?_
      intro v5 w5 hown5 hb5' hz5 hk5
      have hb5 : Below w.heap.size w w5 := hb4.trans hb5'
      refine ⟨.inr (HS.out _ hb5), ?_⟩
      simp only [Act.put, List.setIfInBounds_toArray, List.set_cons_zero, List.set_cons_succ]
      have hS := HS.out _ hb5
      (refine T_take (i := 19) rfl (by kernel_rfl) (fun _ _ _ _ h => h) hS ?_; apply Exists.intro; refine ⟨.inl ⟨by rfl, fun W hW => ?_⟩, ?_⟩; (next => (obtain ⟨hs1, hs2⟩ := hW; go_simp; first | done | rfl)); simp only [Act.put, List.setIfInBounds_toArray, List.set_cons_zero, List.set_cons_succ])
      refine T_done (by kernel_rfl) ?_
      go_wp2_with fail
      go_roundw
      case rel => exact ⟨k + 1, _, rfl, by go_num, by omega, by rw [htk.out, List.length_append, flatE_app]; simpa [flatE] using hown5, hb5⟩
      case measure => simp [intOf]; omega
    · have ht : k = l.length := by omega
      subst ht
      rw [List.take_of_length_le (Nat.le_refl _)] at hown
      go_wp2_with fail
      go_ret
      exact ⟨_, rfl, hown, hb⟩
end
/-! ### the chapter's example -/
def msgI (k : Int) : Msg := ⟨0, 0, 0, 0, k, 0, 0, 0, 0⟩
theorem built_msg (k : Int) : Try.prog.built 40 [(4, .int .i64 k)] = some (msgI k).arr := by kernel_rfl
theorem built_e1 : Try.prog.built 34 [(0, .int .i64 1)] = some (Edt.arr ⟨1, 0, 0⟩) := by kernel_rfl
theorem built_e2 : Try.prog.built 34 [(1, .int .i64 1)] = some (Edt.arr ⟨0, 1, 0⟩) := by kernel_rfl
theorem built_e3 : Try.prog.built 34 [(0, .int .i64 2), (1, .int .i64 2), (2, .int .i64 1)] = some (Edt.arr ⟨2, 2, 1⟩) := by kernel_rfl
theorem edits_ex : edits [msgI 1, msgI 2] [msgI 2, msgI 3] = [⟨1, 0, 0⟩, ⟨0, 1, 0⟩, ⟨2, 2, 1⟩] := by
  simp [edits, ed, edAt, opAt, eqAt, T, lcs, eqM, msgI]
theorem wpList_load_midw {P : Program} {ops : Array Oper} {rest : List Oper} {op : Oper} {a : Act} {w : World} {Q : Exit → Act → World → Prop} (hgd : Region.wanted op (yielded ops a.tmps) = true) (ty : TypeId) (x : Operand) (ho : op.op = .load ty x)
    (b o : Nat) (hx : a.eval x = .pointer (some ⟨b, o, none⟩)) (cs : List Value) (d : TypeDesc) (hc : w.rangeAt b o cs) (hu : P.underlying ty = some d) (hd : d.isRow = true) (hi : (P.info? ty).map (·.size) = some cs.length)
    (h : wpList P ops Q rest (a.put op.dst (.agg cs.toArray)) w) : wpList P ops Q (op :: rest) a w :=
  wpList_step fun K hK => by
    rw [if_pos hgd]
    exact wp_load_mid ty x ho b o hx cs d hc hu hd hi (hK _ _ h)
theorem wpList_eqc {ops : Array Oper} {rest : List Oper} {o : Oper} {a : Act} {w : World} {Q : Exit → Act → World → Prop} (hgd : Region.wanted o (yielded ops a.tmps) = true) (x y : Operand) (u : TypeId) (ho : o.op = .binOp .eql 34 x y u)
    (p : Edt) (hx : a.eval x = .agg p.arr) (hy : a.eval y = .agg p.arr) (h : wpList Try.prog ops Q rest (a.put o.dst (.bool true)) w) : wpList Try.prog ops Q (o :: rest) a w :=
  wpList_step fun K hK => by
    rw [if_pos hgd]
    unfold Oper.wp execOp
    simp only [ho, hx, hy, Sem.run_bind, run_eqGuard_agg _ _ _ _ _ _ _ guardC, Result.andThen_ok, run_eql_struct, eqEC, eqE_refl]
    exact hK _ _ h
theorem ex_rows {w : World} {B : Nat} {v : Value} (h : w.ownsRow B 34 3 v (edits [msgI 1, msgI 2] [msgI 2, msgI 3]).length (flatE (edits [msgI 1, msgI 2] [msgI 2, msgI 3]))) :
    ∃ g cap, v = .slice (some ⟨g, 0, none⟩) 3 cap ∧ g < w.heap.size ∧ w.rangeAt g 0 (Edt.cells ⟨1, 0, 0⟩) ∧ w.rangeAt g 3 (Edt.cells ⟨0, 1, 0⟩) ∧ w.rangeAt g 6 (Edt.cells ⟨2, 2, 1⟩) := by
  rw [edits_ex] at h
  have h1 : w.ownsRow B 34 3 v 3 (flatE [⟨1, 0, 0⟩, ⟨0, 1, 0⟩, ⟨2, 2, 1⟩]) := h
  obtain ⟨g, cap, cur, rfl, hgb, hg, hcap, hcm, hcz, htk⟩ := owns_some h1 (by decide)
  have hr : Rd w 3 (some ⟨g, 0, none⟩) (([⟨1, 0, 0⟩, ⟨0, 1, 0⟩, ⟨2, 2, 1⟩] : List Edt).map Edt.cells) := rd_own hg (n := 3) (fun r hr => (edt_ok _ r hr).1) htk
  obtain ⟨b0, o0, e0, r0, m0⟩ := rd_edt hr (i := 0) (by decide)
  obtain ⟨b1, o1, e1, r1, m1⟩ := rd_edt hr (i := 1) (by decide)
  obtain ⟨b2, o2, e2, r2, m2⟩ := rd_edt hr (i := 2) (by decide)
  cases e0
  cases e1
  cases e2
  exact ⟨_, _, rfl, m0, r0, r1, r2⟩
theorem alive_any (w : World) : Calls Try.prog 6 #[] w fun e w' => e = .returned (.bool true) ∧ Below w.heap.size w w' := by
  have hz4 : ((((w.alloc (.cells #[.int .i64 0, .int .i64 0, .int .i64 0, .int .i64 0, .int .i64 1, .int .i64 0, .int .i64 0, .int .i64 0, .int .i64 0] 40)).alloc (.cells #[.int .i64 0, .int .i64 0, .int .i64 0, .int .i64 0, .int .i64 2, .int .i64 0, .int .i64 0, .int .i64 0, .int .i64 0] 40)).alloc (.cells #[.int .i64 0, .int .i64 0, .int .i64 0, .int .i64 0, .int .i64 3, .int .i64 0, .int .i64 0, .int .i64 0, .int .i64 0] 40)).alloc (.cells #[.int .i64 0, .int .i64 0, .int .i64 0, .int .i64 0, .int .i64 1, .int .i64 0, .int .i64 0, .int .i64 0, .int .i64 0, .int .i64 0, .int .i64 0, .int .i64 0, .int .i64 0, .int .i64 2, .int .i64 0, .int .i64 0, .int .i64 0, .int .i64 0] 40)).heap.size = w.heap.size + 1 + 1 + 1 + 1 := by simp only [sz_alloc]
  have hx : Blk ((((w.alloc (.cells #[.int .i64 0, .int .i64 0, .int .i64 0, .int .i64 0, .int .i64 1, .int .i64 0, .int .i64 0, .int .i64 0, .int .i64 0] 40)).alloc (.cells #[.int .i64 0, .int .i64 0, .int .i64 0, .int .i64 0, .int .i64 2, .int .i64 0, .int .i64 0, .int .i64 0, .int .i64 0] 40)).alloc (.cells #[.int .i64 0, .int .i64 0, .int .i64 0, .int .i64 0, .int .i64 3, .int .i64 0, .int .i64 0, .int .i64 0, .int .i64 0] 40)).alloc (.cells #[.int .i64 0, .int .i64 0, .int .i64 0, .int .i64 0, .int .i64 1, .int .i64 0, .int .i64 0, .int .i64 0, .int .i64 0, .int .i64 0, .int .i64 0, .int .i64 0, .int .i64 0, .int .i64 2, .int .i64 0, .int .i64 0, .int .i64 0, .int .i64 0] 40)) (w.heap.size + 1 + 1 + 1) 40 #[.int .i64 0, .int .i64 0, .int .i64 0, .int .i64 0, .int .i64 1, .int .i64 0, .int .i64 0, .int .i64 0, .int .i64 0, .int .i64 0, .int .i64 0, .int .i64 0, .int .i64 0, .int .i64 2, .int .i64 0, .int .i64 0, .int .i64 0, .int .i64 0] := Blk.new _ _ _ _ (by simp only [sz_alloc])
  have hx5 := hx.alloc (.cells #[.int .i64 0, .int .i64 0, .int .i64 0, .int .i64 0, .int .i64 2, .int .i64 0, .int .i64 0, .int .i64 0, .int .i64 0, .int .i64 0, .int .i64 0, .int .i64 0, .int .i64 0, .int .i64 3, .int .i64 0, .int .i64 0, .int .i64 0, .int .i64 0] 40)
  have hy5 := Blk.new ((((w.alloc (.cells #[.int .i64 0, .int .i64 0, .int .i64 0, .int .i64 0, .int .i64 1, .int .i64 0, .int .i64 0, .int .i64 0, .int .i64 0] 40)).alloc (.cells #[.int .i64 0, .int .i64 0, .int .i64 0, .int .i64 0, .int .i64 2, .int .i64 0, .int .i64 0, .int .i64 0, .int .i64 0] 40)).alloc (.cells #[.int .i64 0, .int .i64 0, .int .i64 0, .int .i64 0, .int .i64 3, .int .i64 0, .int .i64 0, .int .i64 0, .int .i64 0] 40)).alloc (.cells #[.int .i64 0, .int .i64 0, .int .i64 0, .int .i64 0, .int .i64 1, .int .i64 0, .int .i64 0, .int .i64 0, .int .i64 0, .int .i64 0, .int .i64 0, .int .i64 0, .int .i64 0, .int .i64 2, .int .i64 0, .int .i64 0, .int .i64 0, .int .i64 0] 40)) 40 #[.int .i64 0, .int .i64 0, .int .i64 0, .int .i64 0, .int .i64 2, .int .i64 0, .int .i64 0, .int .i64 0, .int .i64 0, .int .i64 0, .int .i64 0, .int .i64 0, .int .i64 0, .int .i64 3, .int .i64 0, .int .i64 0, .int .i64 0, .int .i64 0] _ hz4
  have hb5 : Below w.heap.size w (((((w.alloc (.cells #[.int .i64 0, .int .i64 0, .int .i64 0, .int .i64 0, .int .i64 1, .int .i64 0, .int .i64 0, .int .i64 0, .int .i64 0] 40)).alloc (.cells #[.int .i64 0, .int .i64 0, .int .i64 0, .int .i64 0, .int .i64 2, .int .i64 0, .int .i64 0, .int .i64 0, .int .i64 0] 40)).alloc (.cells #[.int .i64 0, .int .i64 0, .int .i64 0, .int .i64 0, .int .i64 3, .int .i64 0, .int .i64 0, .int .i64 0, .int .i64 0] 40)).alloc (.cells #[.int .i64 0, .int .i64 0, .int .i64 0, .int .i64 0, .int .i64 1, .int .i64 0, .int .i64 0, .int .i64 0, .int .i64 0, .int .i64 0, .int .i64 0, .int .i64 0, .int .i64 0, .int .i64 2, .int .i64 0, .int .i64 0, .int .i64 0, .int .i64 0] 40)).alloc (.cells #[.int .i64 0, .int .i64 0, .int .i64 0, .int .i64 0, .int .i64 2, .int .i64 0, .int .i64 0, .int .i64 0, .int .i64 0, .int .i64 0, .int .i64 0, .int .i64 0, .int .i64 0, .int .i64 3, .int .i64 0, .int .i64 0, .int .i64 0, .int .i64 0] 40)) := by (repeat (first | with_reducible exact Below.refl _ _ | (with_reducible assumption) | (with_reducible refine below_alloc ?_ _) | (with_reducible refine below_ext (w1 := ?_) ?_ ?_; rotate_left 2; (with_reducible assumption)) | (with_reducible refine Below.setCell ?_ ?_ _; rotate_left; ((try simp) <;> omega)) | (with_reducible refine Below.drew ?_) | (with_reducible refine below_drewN ?_ _) | fail))
  have hA : Rd (((((w.alloc (.cells #[.int .i64 0, .int .i64 0, .int .i64 0, .int .i64 0, .int .i64 1, .int .i64 0, .int .i64 0, .int .i64 0, .int .i64 0] 40)).alloc (.cells #[.int .i64 0, .int .i64 0, .int .i64 0, .int .i64 0, .int .i64 2, .int .i64 0, .int .i64 0, .int .i64 0, .int .i64 0] 40)).alloc (.cells #[.int .i64 0, .int .i64 0, .int .i64 0, .int .i64 0, .int .i64 3, .int .i64 0, .int .i64 0, .int .i64 0, .int .i64 0] 40)).alloc (.cells #[.int .i64 0, .int .i64 0, .int .i64 0, .int .i64 0, .int .i64 1, .int .i64 0, .int .i64 0, .int .i64 0, .int .i64 0, .int .i64 0, .int .i64 0, .int .i64 0, .int .i64 0, .int .i64 2, .int .i64 0, .int .i64 0, .int .i64 0, .int .i64 0] 40)).alloc (.cells #[.int .i64 0, .int .i64 0, .int .i64 0, .int .i64 0, .int .i64 2, .int .i64 0, .int .i64 0, .int .i64 0, .int .i64 0, .int .i64 0, .int .i64 0, .int .i64 0, .int .i64 0, .int .i64 3, .int .i64 0, .int .i64 0, .int .i64 0, .int .i64 0] 40)) 9 (some ⟨w.heap.size + 1 + 1 + 1, 0, none⟩) ([msgI 1, msgI 2].map Msg.cells) := rd_own hx5 (n := 2) (by simp [Msg.cells]) (by rfl)
  have hB : Rd (((((w.alloc (.cells #[.int .i64 0, .int .i64 0, .int .i64 0, .int .i64 0, .int .i64 1, .int .i64 0, .int .i64 0, .int .i64 0, .int .i64 0] 40)).alloc (.cells #[.int .i64 0, .int .i64 0, .int .i64 0, .int .i64 0, .int .i64 2, .int .i64 0, .int .i64 0, .int .i64 0, .int .i64 0] 40)).alloc (.cells #[.int .i64 0, .int .i64 0, .int .i64 0, .int .i64 0, .int .i64 3, .int .i64 0, .int .i64 0, .int .i64 0, .int .i64 0] 40)).alloc (.cells #[.int .i64 0, .int .i64 0, .int .i64 0, .int .i64 0, .int .i64 1, .int .i64 0, .int .i64 0, .int .i64 0, .int .i64 0, .int .i64 0, .int .i64 0, .int .i64 0, .int .i64 0, .int .i64 2, .int .i64 0, .int .i64 0, .int .i64 0, .int .i64 0] 40)).alloc (.cells #[.int .i64 0, .int .i64 0, .int .i64 0, .int .i64 0, .int .i64 2, .int .i64 0, .int .i64 0, .int .i64 0, .int .i64 0, .int .i64 0, .int .i64 0, .int .i64 0, .int .i64 0, .int .i64 3, .int .i64 0, .int .i64 0, .int .i64 0, .int .i64 0] 40)) 9 (some ⟨w.heap.size + 1 + 1 + 1 + 1, 0, none⟩) ([msgI 2, msgI 3].map Msg.cells) := rd_own hy5 (n := 2) (by simp [Msg.cells]) (by rfl)
  have HE := Lib.hid (edits_any (a := [msgI 1, msgI 2]) (b := [msgI 2, msgI 3]) (ca := 2) (cb := 2) (by decide) (by decide) hA hB)
  clear hA hB hx hx5 hy5 hz4
  go_enter Try.func6, Try.ntmps6
  go_wp2_with (first | (refine wpList_build_is (by rfl) _ _ (by rfl) _ ?_ ?_; (next => simp only [List.map_toArray, List.map_cons, List.map_nil, go_sem]; exact built_msg _)) | (go_at_call 11; refine HE.out.mono ?_; rintro e w6 ⟨v, rfl, hown0, hb6⟩; obtain ⟨g, cap, hv, m0, r0, r1, r2⟩ := ex_rows hown0; subst hv) | (refine wpList_load_midw (by rfl) _ _ (by rfl) _ _ (by rfl) _ _ (by assumption) Try.underlying34 rfl (by kernel_rfl) ?_) | (refine wpList_eqc (by rfl) _ _ _ (by rfl) _ (by rfl) (by rfl) ?_) | (refine wpList_build_is (by rfl) _ _ (by rfl) _ ?_ ?_; (next => simp only [List.map_toArray, List.map_cons, List.map_nil, go_sem]; first | exact built_e1 | exact built_e2 | exact built_e3)))
  go_ret
  exact ⟨rfl, below_ext hb5 hb6⟩
end Cmp
end Go.Proofs.Ytpopfjfmppmjdaa
