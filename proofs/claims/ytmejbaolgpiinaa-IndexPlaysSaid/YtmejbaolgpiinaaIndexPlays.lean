/- This text proves IndexPlays: whatever the input, the law returns true. It has no conditions. -/
import Derived.Test.YtmejbaolgpiinaaIdxAct
namespace Go.Proofs.Ytmejbaolgpiinaa
set_option linter.unusedVariables false
open Go.RowKit Go.Maps
namespace Idx
set_option maxHeartbeats 1000000
set_option maxRecDepth 10000
theorem act_at {w : World} {A : Option Addr} {xs : List Act} (h : Rd w 4 A (xs.map Act.cells)) {i : Nat} (hi : i < xs.length) : ∃ b off, A = some ⟨b, off, none⟩ ∧ w.cell? ⟨b, off + i * 4, none⟩ = some (.int .i64 xs[i].kind) ∧ w.cell? ⟨b, off + i * 4 + 1, none⟩ = some (.int .i64 xs[i].sym) ∧ w.cell? ⟨b, off + i * 4 + 2, none⟩ = some (.int .i64 xs[i].slot) ∧ w.cell? ⟨b, off + i * 4 + 3, none⟩ = some (.int .i64 xs[i].id) := by
  obtain ⟨b, off, e, hc⟩ := h.at hi
  have hr : w.rangeAt b (off + i * 4) xs[i].cells := fun j v hv => by rw [Nat.add_assoc]; exact hc j v hv
  exact ⟨b, off, e, hr 0 _ rfl, hr 1 _ rfl, hr 2 _ rfl, hr 3 _ rfl⟩
def SL (b o : Nat) (x : Act) (W : World) : Prop := (W.cell? ⟨b, o, none⟩ = some (.int .i64 x.kind) ∧ W.cell? ⟨b, o + 1, none⟩ = some (.int .i64 x.sym) ∧ W.cell? ⟨b, o + 2, none⟩ = some (.int .i64 x.slot) ∧ W.cell? ⟨b, o + 3, none⟩ = some (.int .i64 x.id)) ∧ True
theorem wp_enterE {P : Program} {Q : Exit → Go.Act → World → Prop} {o : Oper} {a : Go.Act} {w : World} {K : Go.Act → World → Prop} {F : FuncId} {args : Array Value} (hx : (execOp a.eval o).run P w = .ok (.enter F args) w)
    (h : Calls P F args w fun e w' => ∃ v, e = .returned v ∧ K (a.put o.dst v) w') : o.wp P a w K Q := by
  unfold Oper.wp
  rw [hx, Oper.upon_enter]
  refine h.mono ?_
  rintro e w' ⟨v, rfl, hk⟩
  exact hk
theorem plays_any (xs : List Act) (A : Option Addr) (cap : Nat) (w : World) (hr : Rd w 4 A (xs.map Act.cells)) (hml : xs.length ≤ maxLen) (hwf : ∀ x ∈ xs, x.wf) :
    Calls Try.prog 3 #[.slice A xs.length cap] w fun e w' => e = .returned (.bool true) ∧ Below w.heap.size w w' := by
  unfold maxLen at hml
  have HR := Lib.hid hr
  clear hr
  by_cases h60 : 200 < xs.length
  · go_enter Try.func3, Try.ntmps3
    go_wp2_with (first | (go_at_call 5; refine (alive_any _).mono ?_; rintro e w'' ⟨rfl, hb2⟩) | fail)
    go_ret
    exact ⟨rfl, by (repeat (first | with_reducible exact Below.refl _ _ | (with_reducible assumption) | (with_reducible refine below_alloc ?_ _) | (with_reducible refine below_ext (w1 := ?_) ?_ ?_; rotate_left 2; (with_reducible assumption)) | (with_reducible refine Below.setCell ?_ ?_ _; rotate_left; ((try simp) <;> omega)) | (with_reducible refine Below.drew ?_) | (with_reducible refine below_drewN ?_ _) | fail))⟩
  go_enter Try.func3, Try.ntmps3
  go_wp2_with fail
  refine (new_any _).mono ?_
  rintro e w1 ⟨xb, bs, bm, rfl, hlo, x1, hb1⟩
  have hz1 := hb1.size
  have hR0 : Blk (w1.alloc (.cells #[.slice none 0 0] 29)) w1.heap.size 29 #[.slice none 0 0] := Blk.new _ _ _ _ rfl
  have hb2 : Below w1.heap.size w1 (w1.alloc (.cells #[.slice none 0 0] 29)) := by (repeat (first | with_reducible exact Below.refl _ _ | (with_reducible assumption) | (with_reducible refine below_alloc ?_ _) | (with_reducible refine below_ext (w1 := ?_) ?_ ?_; rotate_left 2; (with_reducible assumption)) | (with_reducible refine Below.setCell ?_ ?_ _; rotate_left; ((try simp) <;> omega)) | (with_reducible refine Below.drew ?_) | (with_reducible refine below_drewN ?_ _) | fail))
  have B2 : Bx (w1.alloc (.cells #[.slice none 0 0] 29)) xb bs bm 0 w1.heap.size [] := ⟨x1.ext hb2, none, 0, hR0, fun h => absurd rfl h, Nat.le_refl _, fun _ => rfl, fun a e => (by cases e), by simp⟩
  have hB2 := below_ext hb1 hb2
  obtain ⟨rb, hrb⟩ : ∃ r, r = w1.heap.size := ⟨_, rfl⟩
  have hlr : w.heap.size ≤ rb := by omega
  go_wp2_with fail
  rw [← hrb] at B2 ⊢
  generalize w1.alloc (.cells #[.slice none 0 0] 29) = w2 at B2 hB2 ⊢
  clear hR0 hb2 hrb x1 hb1 hz1
  go_loopw [5] (fun i wr => ∃ (k n : Nat) (L : List R3), i = .int .i64 k ∧ k ≤ xs.length ∧ Bx wr xb bs bm n rb L ∧ L.length ≤ k ∧ n ≤ k ∧ Below w.heap.size w wr) (fun i _ => xs.length - (intOf i).toNat)
  case atStart => exact ⟨0, 0, [], rfl, Nat.zero_le _, B2, Nat.le_refl _, Nat.le_refl _, hB2⟩
  case round =>
    obtain ⟨k, n, L, rfl, hk, B, hL, hn, hb⟩ := hrel
    clear B2 hB2
    by_cases hlt : k < xs.length
    · obtain ⟨b, o, rfl, a0, a1, a2, a3⟩ := act_at HR.out hlt
      have hxw := hwf _ (List.getElem_mem hlt)
      have hbl := cell_lt a0
      have e1 : (k : Int) < (xs.length : Int) := by omega
      have HS : Hid (∀ W, Below w.heap.size w W → SL b (o + k * 4) xs[k] W) := Lib.hid (fun W hW => ⟨⟨(hW.cell (p := ⟨b, o + k * 4, none⟩) hbl).trans a0, (hW.cell (p := ⟨b, o + k * 4 + 1, none⟩) hbl).trans a1, (hW.cell (p := ⟨b, o + k * 4 + 2, none⟩) hbl).trans a2, (hW.cell (p := ⟨b, o + k * 4 + 3, none⟩) hbl).trans a3⟩, trivial⟩)
      clear a0 a1 a2 a3
      generalize xs[k] = x at *
      go_wp2_with fail
      refine wp_region_T (S := SL b (o + k * 4) x) 26 (by kernel_rfl) ?_
      have hbd := hb.drew
      have BD : Bx wr.drew xb bs bm n rb L := B.ext (Below.refl _ _).drew
      generalize wr.drew = wd at hbd BD ⊢
      have hS := HS.out _ hbd
      have HA := Lib.hid (act_any x hxw BD (m := k) hL hn (by omega))
      (refine T_take (i := 0) rfl (by kernel_rfl) (fun _ _ _ _ h => h) hS ?_; apply Exists.intro; refine ⟨.inl ⟨by rfl, fun W hW => ?_⟩, ?_⟩; (next => (obtain ⟨hs1, hs2⟩ := hW; go_simp; first | done | rfl)); simp only [Act.put, List.setIfInBounds_toArray, List.set_cons_zero, List.set_cons_succ])
      (refine T_take (i := 1) rfl (by kernel_rfl) (fun _ _ _ _ h => h) hS ?_; apply Exists.intro; refine ⟨.inl ⟨by rfl, fun W hW => ?_⟩, ?_⟩; (next => (obtain ⟨hs1, hs2⟩ := hW; go_simp; first | done | rfl)); simp only [Act.put, List.setIfInBounds_toArray, List.set_cons_zero, List.set_cons_succ])
      (refine T_take (i := 2) rfl (by kernel_rfl) (fun _ _ _ _ h => h) hS ?_; apply Exists.intro; refine ⟨.inl ⟨by rfl, fun W hW => ?_⟩, ?_⟩; (next => (obtain ⟨hs1, hs2⟩ := hW; go_simp; first | done | rfl)); simp only [Act.put, List.setIfInBounds_toArray, List.set_cons_zero, List.set_cons_succ])
      (refine T_take (i := 3) rfl (by kernel_rfl) (fun _ _ _ _ h => h) hS ?_; apply Exists.intro; refine ⟨.inl ⟨by rfl, fun W hW => ?_⟩, ?_⟩; (next => (obtain ⟨hs1, hs2⟩ := hW; go_simp; first | done | rfl)); simp only [Act.put, List.setIfInBounds_toArray, List.set_cons_zero, List.set_cons_succ])
      (refine T_take (i := 4) rfl (by kernel_rfl) (fun _ _ _ _ h => h) hS ?_; apply Exists.intro; refine ⟨.inl ⟨by rfl, fun W hW => ?_⟩, ?_⟩; (next => (obtain ⟨hs1, hs2⟩ := hW; go_simp; first | done | rfl)); simp only [Act.put, List.setIfInBounds_toArray, List.set_cons_zero, List.set_cons_succ])
      (refine T_take (i := 5) rfl (by kernel_rfl) (fun _ _ _ _ h => h) hS ?_; apply Exists.intro; refine ⟨.inl ⟨by rfl, fun W hW => ?_⟩, ?_⟩; (next => (obtain ⟨hs1, hs2⟩ := hW; go_simp; first | done | rfl)); simp only [Act.put, List.setIfInBounds_toArray, List.set_cons_zero, List.set_cons_succ])
      refine T_all [6] (by kernel_rfl) (by decide) ?_
      intro j hj
      simp only [List.mem_cons, List.mem_nil_iff, or_false, List.not_mem_nil] at hj
      subst hj
      refine T_op rfl (by rfl) (wp_enter (F := 7) (args := #[.pointer (some ⟨xb, 0, none⟩), .pointer (some ⟨rb, 0, none⟩), .agg x.arr]) (v := .bool true) (by go_simp; first | done | rfl) ?_)
      refine HA.out.mono ?_
      rintro e w4 ⟨rfl, ⟨n4, L4, B4, hL4, hn4⟩, hu4⟩
      have hb4 : Below w.heap.size w w4 := hbd.trans (hu4.below (by simp; omega) hbd.size)
      have hS := HS.out _ hb4
      refine ⟨rfl, .inr hS, ?_⟩
      simp only [Act.put, List.setIfInBounds_toArray, List.set_cons_zero, List.set_cons_succ]
      (refine T_take (i := 7) rfl (by kernel_rfl) (fun _ _ _ _ h => h) hS ?_; apply Exists.intro; refine ⟨.inl ⟨by rfl, fun W hW => ?_⟩, ?_⟩; (next => (obtain ⟨hs1, hs2⟩ := hW; go_simp; first | done | rfl)); simp only [Act.put, List.setIfInBounds_toArray, List.set_cons_zero, List.set_cons_succ])
      (refine T_take (i := 8) rfl (by kernel_rfl) (fun _ _ _ _ h => h) hS ?_; apply Exists.intro; refine ⟨.inl ⟨by rfl, fun W hW => ?_⟩, ?_⟩; (next => (obtain ⟨hs1, hs2⟩ := hW; go_simp; first | done | rfl)); simp only [Act.put, List.setIfInBounds_toArray, List.set_cons_zero, List.set_cons_succ])
      (refine T_take (i := 9) rfl (by kernel_rfl) (fun _ _ _ _ h => h) hS ?_; apply Exists.intro; refine ⟨.inl ⟨by rfl, fun W hW => ?_⟩, ?_⟩; (next => (obtain ⟨hs1, hs2⟩ := hW; go_simp; first | done | rfl)); simp only [Act.put, List.setIfInBounds_toArray, List.set_cons_zero, List.set_cons_succ])
      (refine T_take (i := 10) rfl (by kernel_rfl) (fun _ _ _ _ h => h) hS ?_; apply Exists.intro; refine ⟨.inl ⟨by rfl, fun W hW => ?_⟩, ?_⟩; (next => (obtain ⟨hs1, hs2⟩ := hW; go_simp; first | done | rfl)); simp only [Act.put, List.setIfInBounds_toArray, List.set_cons_zero, List.set_cons_succ])
      (refine T_take (i := 11) rfl (by kernel_rfl) (fun _ _ _ _ h => h) hS ?_; apply Exists.intro; refine ⟨.inl ⟨by rfl, fun W hW => ?_⟩, ?_⟩; (next => (obtain ⟨hs1, hs2⟩ := hW; go_simp; first | done | rfl)); simp only [Act.put, List.setIfInBounds_toArray, List.set_cons_zero, List.set_cons_succ])
      (refine T_take (i := 12) rfl (by kernel_rfl) (fun _ _ _ _ h => h) hS ?_; apply Exists.intro; refine ⟨.inl ⟨by rfl, fun W hW => ?_⟩, ?_⟩; (next => (obtain ⟨hs1, hs2⟩ := hW; go_simp; first | done | rfl)); simp only [Act.put, List.setIfInBounds_toArray, List.set_cons_zero, List.set_cons_succ])
      (refine T_take (i := 13) rfl (by kernel_rfl) (fun _ _ _ _ h => h) hS ?_; apply Exists.intro; refine ⟨.inl ⟨by rfl, fun W hW => ?_⟩, ?_⟩; (next => (obtain ⟨hs1, hs2⟩ := hW; go_simp; first | done | rfl)); simp only [Act.put, List.setIfInBounds_toArray, List.set_cons_zero, List.set_cons_succ])
      (refine T_take (i := 14) rfl (by kernel_rfl) (fun _ _ _ _ h => h) hS ?_; apply Exists.intro; refine ⟨.inl ⟨by rfl, fun W hW => ?_⟩, ?_⟩; (next => (obtain ⟨hs1, hs2⟩ := hW; go_simp; first | done | rfl)); simp only [Act.put, List.setIfInBounds_toArray, List.set_cons_zero, List.set_cons_succ])
      (refine T_take (i := 16) rfl (by kernel_rfl) (fun _ _ _ _ h => h) hS ?_; apply Exists.intro; refine ⟨.inl ⟨by rfl, fun W hW => ?_⟩, ?_⟩; (next => (obtain ⟨hs1, hs2⟩ := hW; go_simp; first | done | rfl)); simp only [Act.put, List.setIfInBounds_toArray, List.set_cons_zero, List.set_cons_succ])
      (refine T_take (i := 17) rfl (by kernel_rfl) (fun _ _ _ _ h => h) hS ?_; apply Exists.intro; refine ⟨.inl ⟨by rfl, fun W hW => ?_⟩, ?_⟩; (next => (obtain ⟨hs1, hs2⟩ := hW; go_simp; first | done | rfl)); simp only [Act.put, List.setIfInBounds_toArray, List.set_cons_zero, List.set_cons_succ])
      (refine T_take (i := 18) rfl (by kernel_rfl) (fun _ _ _ _ h => h) hS ?_; apply Exists.intro; refine ⟨.inl ⟨by rfl, fun W hW => ?_⟩, ?_⟩; (next => (obtain ⟨hs1, hs2⟩ := hW; go_simp; first | done | rfl)); simp only [Act.put, List.setIfInBounds_toArray, List.set_cons_zero, List.set_cons_succ])
      (refine T_take (i := 19) rfl (by kernel_rfl) (fun _ _ _ _ h => h) hS ?_; apply Exists.intro; refine ⟨.inl ⟨by rfl, fun W hW => ?_⟩, ?_⟩; (next => (obtain ⟨hs1, hs2⟩ := hW; go_simp; first | done | rfl)); simp only [Act.put, List.setIfInBounds_toArray, List.set_cons_zero, List.set_cons_succ])
      (refine T_take (i := 20) rfl (by kernel_rfl) (fun _ _ _ _ h => h) hS ?_; apply Exists.intro; refine ⟨.inl ⟨by rfl, fun W hW => ?_⟩, ?_⟩; (next => (obtain ⟨hs1, hs2⟩ := hW; go_simp; first | done | rfl)); simp only [Act.put, List.setIfInBounds_toArray, List.set_cons_zero, List.set_cons_succ])
      (refine T_take (i := 21) rfl (by kernel_rfl) (fun _ _ _ _ h => h) hS ?_; apply Exists.intro; refine ⟨.inl ⟨by rfl, fun W hW => ?_⟩, ?_⟩; (next => (obtain ⟨hs1, hs2⟩ := hW; go_simp; first | done | rfl)); simp only [Act.put, List.setIfInBounds_toArray, List.set_cons_zero, List.set_cons_succ])
      refine T_all [15] (by kernel_rfl) (by decide) ?_
      intro j hj
      simp only [List.mem_cons, List.mem_nil_iff, or_false, List.not_mem_nil] at hj
      subst hj
      refine T_op rfl (by rfl) (wp_enter (F := 8) (args := #[.pointer (some ⟨xb, 0, none⟩), .int .i64 x.sym]) (v := .int .i64 (cntS L4 x.sym)) (by go_simp; first | done | rfl) ?_)
      refine (len_any B4.1 hxw.1).mono ?_
      rintro e w5 ⟨rfl, rfl⟩
      refine ⟨rfl, .inr hS, ?_⟩
      simp only [Act.put, List.setIfInBounds_toArray, List.set_cons_zero, List.set_cons_succ]
      refine T_all [22] (by kernel_rfl) (by decide) ?_
      intro j hj
      simp only [List.mem_cons, List.mem_nil_iff, or_false, List.not_mem_nil] at hj
      subst hj
      obtain ⟨A4, cap4, q4⟩ := B4.2
      refine T_op rfl (by rfl) (wp_enterE (F := 9) (args := #[.pointer (some ⟨rb, 0, none⟩), .int .i64 x.sym]) (by go_simp; first | done | rfl) ?_)
      refine (rof_any q4 x.sym).mono ?_
      rintro e w6 ⟨⟨v, rfl, hown⟩, hb6⟩
      obtain ⟨A6, cap6, rfl, _⟩ := owns_r3 hown
      rw [of_len]
      have hb06 := below_ext hb4 hb6
      have hS := HS.out _ hb06
      refine ⟨_, rfl, .inr hS, ?_⟩
      simp only [Act.put, List.setIfInBounds_toArray, List.set_cons_zero, List.set_cons_succ]
      have B6 := B4.ext hb6
      clear hown
      (refine T_take (i := 23) rfl (by kernel_rfl) (fun _ _ _ _ h => h) hS ?_; apply Exists.intro; refine ⟨.inl ⟨by rfl, fun W hW => ?_⟩, ?_⟩; (next => (obtain ⟨hs1, hs2⟩ := hW; go_simp; first | done | rfl)); simp only [Act.put, List.setIfInBounds_toArray, List.set_cons_zero, List.set_cons_succ])
      (refine T_take (i := 24) rfl (by kernel_rfl) (fun _ _ _ _ h => h) hS ?_; apply Exists.intro; refine ⟨.inl ⟨by rfl, fun W hW => ?_⟩, ?_⟩; (next => (obtain ⟨hs1, hs2⟩ := hW; go_simp; first | done | rfl)); simp only [Act.put, List.setIfInBounds_toArray, List.set_cons_zero, List.set_cons_succ])
      (refine T_take (i := 25) rfl (by kernel_rfl) (fun _ _ _ _ h => h) hS ?_; apply Exists.intro; refine ⟨.inl ⟨by rfl, fun W hW => ?_⟩, ?_⟩; (next => (obtain ⟨hs1, hs2⟩ := hW; go_simp; first | done | rfl)); simp only [Act.put, List.setIfInBounds_toArray, List.set_cons_zero, List.set_cons_succ])
      refine T_done (by kernel_rfl) ?_
      go_wp2_with fail
      go_roundw
      case rel => exact ⟨k + 1, n4, L4, by go_num, by omega, B6, hL4, hn4, hb06⟩
      case measure => simp [intOf]; omega
    · go_wp2_with (first | (go_at_call 5; refine (alive_any _).mono ?_; rintro e w'' ⟨rfl, hb9⟩) | fail)
      go_ret
      exact ⟨rfl, below_ext hb hb9⟩
open Go.ChangeShapes Go.WideShapes Go.ChangeAt Go.Deep
theorem wfI {n : Int} (h : I64 n) : Wf n := WalkArith.wf_i64 h
theorem fitAct {vs : List Value} (h : fits (List.replicate 4 K) vs) : ∃ s : Act, vs = s.cells ∧ s.wf := by
  obtain ⟨a0, _, rfl, b0, h⟩ := fitInt h
  obtain ⟨a1, _, rfl, b1, h⟩ := fitInt h
  obtain ⟨a2, _, rfl, b2, h⟩ := fitInt h
  obtain ⟨a3, _, rfl, b3, h⟩ := fitInt h
  cases fitNil h
  exact ⟨⟨a0, a1, a2, a3⟩, rfl, wfI b1, wfI b2, wfI b3⟩
set_option maxRecDepth 100000 in
theorem argsIndexPlays (H : Type) (enc : TypeId × Value → H) (W : World) (args : Array Value) (hargs : Args Try.checked H enc [22] W args) :
    Calls Try.prog 3 args W fun e W' => e = .returned (.bool true) ∧ Below W.heap.size W W' := by
  obtain ⟨base, ds, p, hval, hA⟩ := hargs
  obtain ⟨v0, vs0, d0, ds0, p0, q0, hargs, rfl, rfl, h0, r0⟩ := trodAll_cons hA
  obtain ⟨rfl, rfl, rfl⟩ := trodAll_nil r0
  obtain rfl : args = #[v0] := by cases args; simp_all
  obtain ⟨A, la, ca, rows, rfl, hla, hlc, hca, hfa, ha⟩ := open_rows (ks := List.replicate 4 K) 6 Try.underlying22 (by kernel_rfl) (by kernel_rfl) (by decide) (hval 0 _ v0 rfl rfl) h0
  obtain ⟨xs, rfl, hw⟩ := rowsOf (fun vs h => fitAct h) rows hfa
  rw [List.length_map] at hla
  subst hla
  exact plays_any xs A ca W ha (by omega) hw
theorem ownIndexPlays : ownKnob Try.prog.godebug = none := by kernel_rfl
theorem laidIndexPlays : laidOutB Try.prog = true := by kernel_rfl
set_option maxRecDepth 100000 in
theorem liftedIndexPlays (os : Os) (started : os.Started) (H : Type) (enc : TypeId × Value → H) :
    ReturnsInHanded {} Try.checked os 3 .any (Rows.indexPlaysSpec.pre6 enc Try.prog Try.f3 Rows.indexPlaysRow.domain false) (Rows.indexPlaysSpec.post enc Try.prog Try.f3 false true false false) :=
  law_lifted (C := Try.checked) (ts := [22]) (tb := 4) ownIndexPlays laidIndexPlays started (by kernel_rfl) Try.func3 (by kernel_rfl)
    (ChangeSpec.witness6 (enc := enc) (C := Try.checked) false ⟨#[], #[.slice none 0 0], []⟩ 8 (by kernel_rfl) (by kernel_rfl) (by kernel_rfl) (by kernel_rfl))
    rfl (by kernel_rfl) Try.underlying4 (by kernel_rfl)
    (fun ds h => by
      match ds, h with
      | [d0], _ => rfl)
    (fun W args h => argsIndexPlays H enc W args h)
theorem provedIndexPlays : Rows.IndexPlaysSaid :=
  OpenClaim.holds_of_wide 3 Try.f3 rfl rfl rfl rfl rfl rfl rfl ⟨rfl, rfl, rfl, rfl, rfl⟩ rfl rfl rfl rfl rfl (by kernel_rfl) Try.func3 (by kernel_rfl)
    (of_decide_eq_true (by kernel_rfl)) (by unfold Func.isWrapper; first | (rw [if_pos (by decide +kernel)]; kernel_rfl) | (rw [if_neg (by decide +kernel)]; exact ⟨rfl, rfl⟩))
    (fun os started H enc _ => liftedIndexPlays os started H enc)
#print axioms provedIndexPlays
end Idx
end Go.Proofs.Ytmejbaolgpiinaa
