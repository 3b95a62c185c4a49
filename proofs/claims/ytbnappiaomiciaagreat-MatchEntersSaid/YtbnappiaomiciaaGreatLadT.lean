/- This text proves what Take makes of a level whose last order goes. It has no conditions but those that it states. (Under way.) -/
import Derived.Test.YtbnappiaomiciaaGreatLadA
import Derived.Test.YtbnappiaomiciaaGreatLadD
namespace Go.Proofs.YtbnappiaomiciaaGreat
set_option linter.unusedVariables false
open Go.RowKit
namespace Lad
set_option maxHeartbeats 300000
set_option maxRecDepth 10000
def clr (n r : Nat) : Nat := n &&& (18446744073709551615 - 2 ^ r)
theorem bits_andNot_u64_nat (a b : Nat) (ha : a < 18446744073709551616) (hb : b < 18446744073709551616) :
    bits .andNot .u64 (a : Int) (b : Int) = ((a &&& (18446744073709551615 - b) : Nat) : Int) := by
  have hx : a &&& (18446744073709551615 - b) < 2 ^ 64 := Nat.and_lt_two_pow _ (by omega)
  have h1 : (BitVec.ofInt 64 (a : Int)).toNat = a := by
    rw [BitVec.ofInt_natCast, BitVec.toNat_ofNat]; exact Nat.mod_eq_of_lt (by omega)
  have h2 : (BitVec.ofInt 64 (b : Int)).toNat = b := by
    rw [BitVec.ofInt_natCast, BitVec.toNat_ofNat]; exact Nat.mod_eq_of_lt (by omega)
  show IntKind.u64.wrap ((BitVec.ofInt 64 (a : Int) &&& ~~~ BitVec.ofInt 64 (b : Int)).toNat : Int) = _
  rw [BitVec.toNat_and, BitVec.toNat_not, h1, h2, IntKind.wrap_u64]
  have e : 2 ^ 64 - 1 - b = 18446744073709551615 - b := rfl
  rw [e]
  omega
theorem andNot_pow (n r : Nat) (hn : n < 2 ^ 64) (hr : r < 64) : bits .andNot .u64 (n : Int) (IntKind.u64.wrap (2 ^ r)) = ((clr n r : Nat) : Int) := by
  have h2 : 2 ^ r < 2 ^ 64 := Nat.pow_lt_pow_right (by decide) hr
  rw [Bit.wrap_pow hr, bits_andNot_u64_nat _ _ (by omega) (by omega)]
  rfl
attribute [irreducible] clr
section
variable {P : Program} {ops : Array Oper} {C : World → Prop} {Q : Act → Prop} {a : Act} {o : Oper} {rest : List Oper}
theorem run_quo {P : Program} (o : Oper) (a : Act) (x y : Operand) (t u : TypeId) (ho : o.op = .binOp .quo t x y u) (p g : Int) (hx : a.eval x = .int .i64 p) (hy : a.eval y = .int .i64 g)
    (ht : P.underlying t = some (.int .i64)) (hu : P.underlying u = some (.int .i64)) (hp : 0 ≤ p) (hp2 : p ≤ 9223372036854775807) (hg : 1 ≤ g) (hg2 : g ≤ 9223372036854775807) (w : World) :
    (execOp a.eval o).run P w = .ok (.value (.int .i64 (p / g))) w := by
  have h1 : ¬ g = 0 := by omega
  have h2 : p.tdiv g = p / g := Int.tdiv_eq_ediv_of_nonneg hp
  have h3 : 0 ≤ p / g := Int.ediv_nonneg hp (by omega)
  have h4 : p / g ≤ p := Int.ediv_le_self g hp
  have h5 : IntKind.i64.wrap (p / g) = p / g := IntWalk.i64_in _ (by omega)
  generalize hE : a.eval = E at hx hy ⊢
  simp [execOp, ho, hx, hy, go_sem, h1, h2, h5]
theorem q_quo (hgd : Region.wanted o (yielded ops a.tmps) = true) (x y : Operand) (t u : TypeId) (ho : o.op = .binOp .quo t x y u) (p g : Int) (hx : a.eval x = .int .i64 p) (hy : a.eval y = .int .i64 g)
    (ht : P.underlying t = some (.int .i64)) (hu : P.underlying u = some (.int .i64)) (hp : 0 ≤ p ∧ p ≤ 9223372036854775807 ∧ 1 ≤ g ∧ g ≤ 9223372036854775807) (z : Int) (hz : p / g = z) (h : wpQuiet P ops C Q rest (a.put o.dst (.int .i64 z))) : wpQuiet P ops C Q (o :: rest) a :=
  q_step hgd _ (fun w _ => by
    unfold Oper.quietAt
    rw [run_quo o a x y t u ho p g hx hy ht hu hp.1 hp.2.1 hp.2.2.1 hp.2.2.2 w, hz]
    exact ⟨rfl, rfl⟩) h
theorem q_remz (hgd : Region.wanted o (yielded ops a.tmps) = true) (x y : Operand) (t u : TypeId) (ho : o.op = .binOp .rem t x y u) (p g : Int) (hx : a.eval x = .int .i64 p) (hy : a.eval y = .int .i64 g)
    (ht : P.underlying t = some (.int .i64)) (hu : P.underlying u = some (.int .i64)) (hp : 0 ≤ p ∧ p ≤ 9223372036854775807 ∧ 1 ≤ g ∧ g ≤ 9223372036854775807) (z : Int) (hz : p % g = z) (h : wpQuiet P ops C Q rest (a.put o.dst (.int .i64 z))) : wpQuiet P ops C Q (o :: rest) a :=
  q_rem hgd x y t u ho p g hx hy ht hu hp (by rw [hz]; exact h)
end
def clrU (u : Nat → Nat) (q : Nat) : Nat → Nat := fun i => if i = q / 64 then clr (u i) (q % 64) else u i
section
variable {w : World} {g : Nat} {side most : Int} {v : Value} {ls : List Lvl} {u : Nat → Nat}
theorem take_last (L : La w g side most v ls u) (hup : Up side ls) (p q : Int) (hp : I64 p) {i : Nat} (hi : i < ls.length) (hst : Stands (keys side ls) ls.length (keyF side p) i) (hf : keys side ls i = keyF side p)
    {l : Lvl} (hl : ls[i]? = some l) (hq : 0 ≤ q ∧ q ≤ l.qty) (hlq : l.qty ≤ 9223372036854775807) (ho : l.orders = 1) (hu : ∀ j, j < 4 → u j < 2 ^ 64) (k r : Nat) (hk : k < 4) (hr : r < 64) (hqu : l.queue = ((k * 64 + r : Nat) : Int)) :
    Calls Tryz.prog 87 #[.pointer (some ⟨g, 0, none⟩), .int .i64 p, .int .i64 q, .bool true] w fun e w' => e = .returned (.tuple #[.int .i64 l.queue, .int .i64 0]) ∧ ∃ v', La w' g side most v' (ls.eraseIdx i) (clrU u (k * 64 + r)) ∧ LStep g v v' w w' := by
  have hPl := Lib.hid (place_any L hup p hp hst)
  rw [decide_eq_true ⟨hi, hf⟩] at hPl
  have hvl := L.own_lt
  obtain ⟨A, cap, rfl, hrd, _⟩ := L.rd
  have h1 : ¬ q < 0 := by omega
  have h2 : ¬ l.qty < q := by omega
  obtain ⟨rb, ro, rfl, _, _⟩ := rd_lvl hrd hi
  have HF : Hid (∀ w1, Below w.heap.size w w1 → _) := Lib.hid (fun w1 hb1 => lvl_facts (w1 := w1) L hl hb1)
  have hL := Lib.hid L
  have hl' := Lib.hid hl
  have e1 : (i : Int) < (ls.length : Int) := by omega
  have e2 : (0 : Int) ≤ (i : Int) := by omega
  obtain ⟨hq1, hq2⟩ := hq
  clear L hst hf hup hrd hl
  rw [ho, hqu] at HF
  rw [hqu]
  have hqu' := Lib.hid hqu
  clear hqu
  have k0 : ((k * 64 + r : Nat) : Int) / 64 = (k : Int) := by omega
  have k1 : ((k * 64 + r : Nat) : Int) % 64 = (r : Int) := by omega
  obtain ⟨qn, hqn⟩ : ∃ n : Int, n = ((k * 64 + r : Nat) : Int) := ⟨_, rfl⟩
  rw [← hqn] at k0 k1 HF ⊢
  have hqb : 0 ≤ qn ∧ qn ≤ 255 := by omega
  have hqn' := Lib.hid hqn
  have k2 : Int.tdiv qn 64 = (k : Int) := by rw [Int.tdiv_eq_ediv_of_nonneg hqb.1]; exact k0
  clear hqn
  go_enter Tryz.func87, Tryz.ntmps87
  go_wp2_with (first | (go_at_call 89; refine hPl.out.mono ?_; rintro e w1 ⟨rfl, hb1⟩; obtain ⟨c2, o1, o2, o3, f1⟩ := HF.out w1 hb1) | fail)
  have L3 := (hL.out.ext hb1).upd hl'.out (l.qty - q) 0
  have hs3 : LStep g (.slice (some ⟨rb, ro, none⟩) ls.length cap) (.slice (some ⟨rb, ro, none⟩) ls.length cap) w ((w1.setCell ⟨rb, ro + i * 4 + 1, none⟩ (.int .i64 (l.qty - q))).setCell ⟨rb, ro + i * 4 + 2, none⟩ (.int .i64 0)) := ((LStep.of_below hb1).trans (LStep.of_own rfl rfl) (fun b hb => (hvl b hb).2)).trans (LStep.of_own rfl rfl) (fun b hb => (hvl b hb).2)
  clear c2 o1 o2 o3 f1 HF hPl hL
  generalize (w1.setCell ⟨rb, ro + i * 4 + 1, none⟩ (.int .i64 (l.qty - q))).setCell ⟨rb, ro + i * 4 + 2, none⟩ (.int .i64 0) = w3 at *
  have hgl := L3.hd.lt
  have hl200 := L3.len
  rw [List.length_set] at hl200
  have e6 : (i : Int) < 200 := by omega
  have hHd : Hid (Blk w3 g 137 (hdArr side most (.slice (some ⟨rb, ro, none⟩) ls.length cap) u)) := Lib.hid L3.hd
  have ck : w3.cell? ⟨g, 3 + k, none⟩ = some (.int .u64 (u k)) := (L3.hd.cell _).trans (hd_word side most _ u k hk)
  have e3 : (k : Int) < 4 := by omega
  have e4 : (0 : Int) ≤ (r : Int) := by omega
  have hand := Lib.hid (andNot_pow (u k) r (hu k hk) hr)
  have hu' := Lib.hid hu
  have HL3 := Lib.hid L3
  clear hu L3
  obtain ⟨uk, huk⟩ : ∃ x, x = u k := ⟨_, rfl⟩
  rw [← huk] at ck hand
  have HUK := Lib.hid huk
  clear huk
  have hand2 := hand.out
  refine wp_region_below_tail 14 (by kernel_rfl) (by kernel_rfl) ?_
  simp only [List.take_succ_cons, List.take_zero, List.drop_succ_cons, List.drop_zero]
  repeat (first | go_big_quiet_skip | (go_big_quiet_want; go_big_quiet_op; go_big_quiet_on) | (refine q_quo (by rfl) _ _ _ _ (by rfl) _ _ (by rfl) (by rfl) (by kernel_rfl) (by kernel_rfl) ?_ _ k0 ?_; (next => omega); (try simp only [Act.put, List.setIfInBounds_toArray, List.set_cons_zero, List.set_cons_succ])) | (refine q_remz (by rfl) _ _ _ _ (by rfl) _ _ (by rfl) (by rfl) (by kernel_rfl) (by kernel_rfl) ?_ _ k1 ?_; (next => omega); (try simp only [Act.put, List.setIfInBounds_toArray, List.set_cons_zero, List.set_cons_succ])) | (refine q_load_fld (by rfl) _ _ (by rfl) (fun _ h => h) _ _ (by rfl) ?_ ?_ ?_ ?_ ?_ ?_; rotate_left; (next => (repeat (first | (with_reducible refine BlkAt.new _ _ _ _ ?_; ((try simp) <;> omega)) | (with_reducible assumption) | (with_reducible refine Blk.at (t := ?_) ?_; rotate_left; with_reducible assumption) | with_reducible refine BlkAt.alloc ?_ _ | with_reducible refine BlkAt.drew ?_ | (with_reducible refine BlkAt.setSame ?_ _ _) | (with_reducible refine BlkAt.setCell ?_ ?_ _; rotate_left; ((try simp) <;> omega)) | (with_reducible refine BlkAt.ext (w := ?_) ?_ ?_; rotate_left 2; (with_reducible assumption)) | fail))); rotate_left; (next => first | (simp only [go_sem]; rfl) | rfl); (next => kernel_rfl); (try simp only [Act.put, List.setIfInBounds_toArray, List.set_cons_zero, List.set_cons_succ])) | (refine q_rem (by rfl) _ _ _ _ (by rfl) _ _ (by rfl) (by rfl) (by kernel_rfl) (by kernel_rfl) ?_ ?_; (next => omega); (try simp only [Act.put, List.setIfInBounds_toArray, List.set_cons_zero, List.set_cons_succ])) | (refine q_step_ex (by rfl) ?_; apply Exists.intro; refine ⟨fun W hW => ?_, ?_⟩; (next => (have hWc := fun (b o : Nat) (h : b < _) => (Ext.out hW).cell (p := ⟨b, o, none⟩) h); (try have hLK := HLK.out W (Ext.out hW)); go_simp; first | rfl | fail | fail); (try simp only [Act.put, List.setIfInBounds_toArray, List.set_cons_zero, List.set_cons_succ])) | fail)
  refine wpQuiet_nil ?_
  intro w4 hb4
  have hH4 := hHd.out.ext hb4
  have hsz : (hdArr side most (.slice (some ⟨rb, ro, none⟩) ls.length cap) u).size = 7 := rfl
  obtain ⟨_, _, hro, _, _⟩ := own_blk (by simpa using HL3.out.row)
  subst hro
  obtain ⟨l0, hl0⟩ : ∃ l0 : Lvl, l0 = ⟨l.price, l.qty - q, 0, l.queue⟩ := ⟨_, rfl⟩
  rw [← hl0] at HL3
  have hgr := (hvl rb rfl).1
  have HP : Hid (∀ w5, Blk w5 g 137 ((hdArr side most (.slice (some ⟨rb, 0, none⟩) ls.length cap) u).setIfInBounds (3 + k) (.int .u64 (clr uk r : Nat))) → Upd g w4 w5 → La w5 g side most (.slice (some ⟨rb, 0, none⟩) ls.length cap) (ls.set i l0) (clrU u (k * 64 + r)) ∧ But g w3.heap.size w3 w5) := Lib.hid (fun w5 h5 hU5 => by
    have hBu : But g w3.heap.size w3 w5 := (But.of_below hb4).upd hU5
    refine ⟨HL3.out.word ?_ hBu, hBu⟩
    rw [hd_set _ _ _ _ _ _ hk] at h5
    have : (fun j => if j = k then clr uk r else u j) = clrU u (k * 64 + r) := by
      funext j
      unfold clrU
      rw [show (k * 64 + r) / 64 = k by omega, show (k * 64 + r) % 64 = r by omega]
      by_cases h : j = k
      · rw [if_pos h, if_pos h, HUK.out, h]
      · rw [if_neg h, if_neg h]
    rw [← this]
    exact h5)
  have HD : Hid (∀ w5, La w5 g side most (.slice (some ⟨rb, 0, none⟩) ls.length cap) (ls.set i l0) (clrU u (k * 64 + r)) → Calls Tryz.prog 107 #[.slice (some ⟨rb, 0, none⟩) ls.length cap, .int .i64 i, .int .i64 ((i : Int) + 1)] w5 fun e w' => e = .returned (.slice (some ⟨rb, 0, none⟩) (ls.length - 1) cap) ∧ w'.ownsRow (g + 1) 171 4 (.slice (some ⟨rb, 0, none⟩) (ls.length - 1) cap) (ls.length - 1) (flatL (ls.take i) ++ flatL (ls.drop (i + 1))) ∧ DelW rb w5 w') := Lib.hid (fun w5 h5 => by
    have hr5 := h5.row
    rw [List.length_set, List.set_eq_take_append_cons_drop, if_pos hi, flatL_app] at hr5
    have e : flatL (l0 :: ls.drop (i + 1)) = l0.cells ++ flatL (ls.drop (i + 1)) := rfl
    rw [e, ← List.append_assoc] at hr5
    have hln := h5.len
    rw [List.length_set] at hln
    exact delete_any (k := ls.length - (i + 1)) hr5 (Lib.hid (by omega)) hi (by rw [flatL_len, List.length_take]; omega) rfl (by rw [flatL_len, List.length_drop]) (flatL_one _) (by omega))
  clear hHd HUK hu'
  go_wp2_with (first | (((with_reducible show wpList _ _ _ (⟨_, .store _ _ _, _, _, _, _⟩ :: _) _ _); refine wpList_store_fld (by rfl) _ _ _ (by rfl) _ _ (by rfl) _ (by rfl) _ _ hH4 ?_ ?_ (by rfl) (by rfl) ?_; (next => first | omega | ((try simp) <;> omega)); (next => kernel_rfl); intro w5 hB5 hU5); obtain ⟨L5, hB35⟩ := HP.out w5 hB5 hU5; have c25 : w5.cell? ⟨g, 2, none⟩ = some (.slice (some ⟨rb, 0, none⟩) ls.length cap) := L5.hd.cell 2) | (go_at_call 107; refine (HD.out w5 L5).mono ?_; rintro e w6 ⟨rfl, hown6, hD6⟩; have hd6 : Blk w6 g 137 (hdArr side most (.slice (some ⟨rb, 0, none⟩) ls.length cap) (clrU u (k * 64 + r))) := (hD6.block g L5.hd.lt (by omega)).trans L5.hd; have hs6 : (hdArr side most (.slice (some ⟨rb, 0, none⟩) ls.length cap) (clrU u (k * 64 + r))).size = 7 := rfl) | ((with_reducible show wpList _ _ _ (⟨_, .store _ _ _, _, _, _, _⟩ :: _) _ _); refine wpList_store_fld (by rfl) _ _ _ (by rfl) _ _ (by rfl) _ (by rfl) _ _ hd6 ?_ ?_ (by rfl) (by rfl) ?_; (next => first | omega | ((try simp) <;> omega)); (next => kernel_rfl); intro w7 hd7 hU7) | fail)
  have hrow7 := owns_upd hown6 (Nat.lt_succ_self g) hU7
  rw [← flatL_app, ← List.eraseIdx_eq_take_drop_succ] at hrow7
  have hle : (ls.eraseIdx i).length = ls.length - 1 := List.length_eraseIdx_of_lt hi
  have hrng := L5.rng
  go_ret2
  refine ⟨rfl, _, ⟨hd7, by rw [hle]; exact hrow7, by omega, ?_⟩, ?_⟩
  · intro y hy
    rw [List.eraseIdx_eq_take_drop_succ] at hy
    refine hrng y ?_
    rw [List.set_eq_take_append_cons_drop, if_pos hi]
    rcases List.mem_append.1 hy with h | h
    · exact List.mem_append.2 (.inl h)
    · exact List.mem_append.2 (.inr (List.mem_cons_of_mem _ h))
  · have hv : ∀ b, (Value.slice (some ⟨rb, 0, none⟩) ls.length cap).ownBlock = some b → b < w.heap.size := fun b hb => (hvl b hb).2
    have s56 : LStep g (.slice (some ⟨rb, 0, none⟩) ls.length cap) (.slice (some ⟨rb, 0, none⟩) (ls.length - 1) cap) w5 w6 := ⟨hD6.os, hD6.tape, hD6.output, hD6.size, fun q hq _ h2 => hD6.block q hq (fun e => h2 (by rw [e]; rfl)), .inl rfl⟩
    exact (((hs3.trans (LStep.of_but hB35) hv).trans s56 hv).trans (LStep.of_upd hU7) hv)
end
end Lad
end Go.Proofs.YtbnappiaomiciaaGreat
