/- This text proves which queue a new level gets: the contract of the package ladder's queue. It has no conditions but those that it states. -/
import Derived.Test.YtacpjpkhmdcagaaGreatLad
import Derived.Test.YtacpjpkhmdcagaaGreatBitsL
namespace Go.Proofs.YtacpjpkhmdcagaaGreat
set_option linter.unusedVariables false
open Go.RowKit
namespace Lad
set_option maxHeartbeats 2000000
set_option maxRecDepth 10000
def busy (u : Nat → Nat) (q : Nat) : Bool := (u (q / 64)).testBit (q % 64)
def setU (u : Nat → Nat) (q : Nat) : Nat → Nat := fun i => if i = q / 64 then u i ||| 2 ^ (q % 64) else u i
def hdArr (side most : Int) (v : Value) (u : Nat → Nat) : Array Value := #[.int .i64 side, .int .i64 most, v, .int .u64 (u 0), .int .u64 (u 1), .int .u64 (u 2), .int .u64 (u 3)]
theorem hd_word (side most : Int) (v : Value) (u : Nat → Nat) (k : Nat) (hk : k < 4) : (hdArr side most v u)[3 + k]? = some (.int .u64 (u k)) := by
  match k, hk with
  | 0, _ => rfl
  | 1, _ => rfl
  | 2, _ => rfl
  | 3, _ => rfl
theorem hd_set (side most : Int) (v : Value) (u : Nat → Nat) (k x : Nat) (hk : k < 4) : (hdArr side most v u).setIfInBounds (3 + k) (.int .u64 x) = hdArr side most v (fun i => if i = k then x else u i) := by
  match k, hk with
  | 0, _ => rfl
  | 1, _ => rfl
  | 2, _ => rfl
  | 3, _ => rfl
theorem full_of {n : Nat} (hn : n < 2 ^ 64) (h : ∀ j, j < 64 → n.testBit j = true) : n = 18446744073709551615 := by
  apply Nat.eq_of_testBit_eq
  intro j
  rcases Nat.lt_or_ge j 64 with hj | hj
  · rw [h j hj]
    have h3 : ∀ j, j < 64 → (18446744073709551615 : Nat).testBit j = true := by decide +kernel
    rw [h3 j hj]
  · have h1 : 2 ^ 64 ≤ 2 ^ j := Nat.pow_le_pow_right (by decide) hj
    rw [Nat.testBit_lt_two_pow (by omega), Nat.testBit_lt_two_pow (by omega)]
theorem or_pow (n r : Nat) (hn : n < 2 ^ 64) (hr : r < 64) : bits .or .u64 (n : Int) (IntKind.u64.wrap (2 ^ r)) = ((n ||| 2 ^ r : Nat) : Int) := by
  have h2 : 2 ^ r < 2 ^ 64 := Nat.pow_lt_pow_right (by decide) hr
  rw [Bit.wrap_pow hr, bits_or_u64_nat _ _ (by omega) (by omega)]
section
variable {w : World} {g : Nat} {side most : Int} {v : Value} {ls : List Lvl} {u : Nat → Nat}
/-- The ladder's own words turn, its levels stay. -/
theorem La.word {w2 : World} {u' : Nat → Nat} (L : La w g side most v ls u) (hd : Blk w2 g 142 (hdArr side most v u')) (hU : But g w.heap.size w w2) : La w2 g side most v ls u' := by
  refine ⟨hd, ?_, L.len, L.rng⟩
  refine ⟨L.row.1, ?_⟩
  rcases L.row.2 with h0 | ⟨b, cap, cur, rfl, hb, hg, r⟩
  · exact .inl h0
  · exact .inr ⟨b, cap, cur, rfl, hb, (hU.block b (show Blk w b 156 cur from hg).lt (by omega)).trans hg, r⟩
def QPost (g : Nat) (side most : Int) (v : Value) (ls : List Lvl) (u : Nat → Nat) (q : Nat) (w : World) (e : Ending) (w' : World) : Prop :=
  e = .returned (.int .i64 q) ∧ La w' g side most v ls (setU u q) ∧ But g w.heap.size w w'
theorem queue_any (L : La w g side most v ls u) (hu : ∀ i, i < 4 → u i < 2 ^ 64) (q : Nat) (hq : q < 256) (hlow : ∀ j, j < q → busy u j = true) (hfree : busy u q = false) :
    Calls Tryz.prog 73 #[.pointer (some ⟨g, 0, none⟩)] w (QPost g side most v ls u q w) := by
  have hgl := L.hd.lt
  replace hu := Lib.hid hu
  replace hlow := Lib.hid hlow
  replace hfree := Lib.hid hfree
  have hLd := Lib.hid L
  have hwd : Hid (∀ k, k < 4 → w.cell? ⟨g, 3 + k, none⟩ = some (.int .u64 (u k))) := Lib.hid (fun k hk => (L.hd.cell _).trans (hd_word side most v u k hk))
  clear L
  go_enter Tryz.func73, Tryz.ntmps73
  go_wp2_with fail
  go_loop [6] (fun i => ∃ k : Nat, i = .int .i64 k ∧ k * 64 ≤ q) (fun i => 4 - (intOf i).toNat)
  case atStart => exact ⟨0, rfl, by omega⟩
  case round =>
    obtain ⟨k, rfl, hkq⟩ := hrel
    have hk4 : k < 4 := by omega
    have e1 : (k : Int) < 4 := by omega
    have ck := hwd.out k hk4
    have hul := hu.out k hk4
    have hand := fun b => Bit.and_one (u k) b hul
    replace hand := Lib.hid hand
    by_cases hful : u k = 18446744073709551615
    · have hb : ((u k : Int) == (18446744073709551615 : Int)) = true := by rw [hful]; rfl
      have hq2 : (k + 1) * 64 ≤ q := by
        rcases Nat.lt_or_ge q ((k + 1) * 64) with h | h
        · have := hfree.out
          unfold busy at this
          rw [show q / 64 = k by omega, hful] at this
          have h3 : ∀ j, j < 64 → (18446744073709551615 : Nat).testBit j = true := by decide +kernel
          rw [h3 (q % 64) (Nat.mod_lt _ (by decide))] at this
          cases this
        · exact h
      generalize u k = uk at *
      clear hful hul
      go_wp2_with fail
      go_round
      case rel => exact ⟨k + 1, by go_num, hq2⟩
      case measure => simp [intOf]; omega
    · obtain ⟨r, hr⟩ : ∃ r, q = k * 64 + r := ⟨q - k * 64, by omega⟩
      subst hr
      have hb : ((u k : Int) == (18446744073709551615 : Int)) = false := by rw [beq_eq_false_iff_ne]; omega
      have hr64 : r < 64 := by
        rcases Nat.lt_or_ge r 64 with h | h
        · exact h
        · refine absurd (full_of hul (fun j hj => ?_)) hful
          have := hlow.out (k * 64 + j) (by omega)
          unfold busy at this
          rw [show (k * 64 + j) / 64 = k by omega, show (k * 64 + j) % 64 = j by omega] at this
          exact this
      have hset : Hid (∀ j, j < r → (u k).testBit j = true) := Lib.hid (fun j hj => by
        have := hlow.out (k * 64 + j) (by omega)
        unfold busy at this
        rw [show (k * 64 + j) / 64 = k by omega, show (k * 64 + j) % 64 = j by omega] at this
        exact this)
      have hclr : Hid ((u k).testBit r = false) := Lib.hid (by
        have := hfree.out
        unfold busy at this
        rw [show (k * 64 + r) / 64 = k by omega, show (k * 64 + r) % 64 = r by omega] at this
        exact this)
      have hor := Lib.hid (or_pow (u k) r hul hr64)
      have hP : Hid (∀ w2, Blk w2 g 142 ((hdArr side most v u).setIfInBounds (3 + k) (.int .u64 (u k ||| 2 ^ r : Nat))) → But g w.heap.size w w2 → QPost g side most v ls u (k * 64 + r) w (.returned (.int .i64 (k * 64 + r : Nat))) w2) := Lib.hid (fun w2 h1 h2 => by
        rw [hd_set _ _ _ _ _ _ hk4] at h1
        refine ⟨rfl, hLd.out.word ?_ h2, h2⟩
        have : (fun i => if i = k then u k ||| 2 ^ r else u i) = setU u (k * 64 + r) := by
          funext i
          unfold setU
          rw [show (k * 64 + r) / 64 = k by omega, show (k * 64 + r) % 64 = r by omega]
          by_cases h : i = k
          · subst h; rfl
          · rw [if_neg h, if_neg h]
        rw [← this]
        exact h1)
      have hHd : Hid (Blk w g 142 (hdArr side most v u)) := Lib.hid hLd.out.hd
      clear hlow hfree hful hwd hLd hu
      generalize u k = uk at *
      go_wp2_with fail
      go_loop [5] (fun b => ∃ c : Nat, b = .int .i64 c ∧ c ≤ r) (fun b => 64 - (intOf b).toNat)
      case atStart => exact ⟨0, rfl, Nat.zero_le _⟩
      case round =>
        obtain ⟨c, rfl, hcr⟩ := hrel
        have hbit := hand.out c
        by_cases hc : c = r
        · subst hc
          rw [hclr.out] at hbit
          have hor2 := hor.out
          have e2 : (0 : Int) ≤ (c : Int) := by omega
          go_wp2_with fail
          refine wp_region_below_tail 12 (by kernel_rfl) (by kernel_rfl) ?_
          simp only [List.take_succ_cons, List.take_zero, List.drop_succ_cons, List.drop_zero]
          repeat (first | go_big_quiet_skip | (go_big_quiet_want; go_big_quiet_op; go_big_quiet_on) | (refine q_load_fld (by rfl) _ _ (by rfl) (fun _ h => h) _ _ (by rfl) ?_ ?_ ?_ ?_ ?_ ?_; rotate_left; (next => (repeat (first | (with_reducible refine BlkAt.new _ _ _ _ ?_; ((try simp) <;> omega)) | (with_reducible assumption) | (with_reducible refine Blk.at (t := ?_) ?_; rotate_left; with_reducible assumption) | with_reducible refine BlkAt.alloc ?_ _ | with_reducible refine BlkAt.drew ?_ | (with_reducible refine BlkAt.setSame ?_ _ _) | (with_reducible refine BlkAt.setCell ?_ ?_ _; rotate_left; ((try simp) <;> omega)) | (with_reducible refine BlkAt.ext (w := ?_) ?_ ?_; rotate_left 2; (with_reducible assumption)) | fail))); rotate_left; (next => first | (simp only [go_sem]; rfl) | rfl); (next => kernel_rfl); (try simp only [Act.put, List.setIfInBounds_toArray, List.set_cons_zero, List.set_cons_succ])) | (refine q_rem (by rfl) _ _ _ _ (by rfl) _ _ (by rfl) (by rfl) (by kernel_rfl) (by kernel_rfl) ?_ ?_; (next => omega); (try simp only [Act.put, List.setIfInBounds_toArray, List.set_cons_zero, List.set_cons_succ])) | (refine q_step_ex (by rfl) ?_; apply Exists.intro; refine ⟨fun W hW => ?_, ?_⟩; (next => (have hWc := fun (b o : Nat) (h : b < _) => (Ext.out hW).cell (p := ⟨b, o, none⟩) h); (try have hLK := HLK.out W (Ext.out hW)); go_simp; first | rfl | fail | fail); (try simp only [Act.put, List.setIfInBounds_toArray, List.set_cons_zero, List.set_cons_succ])) | fail)
          refine wpQuiet_nil ?_
          intro w2 hb2
          have hH2 := hHd.out.ext hb2
          have hsz : (hdArr side most v u).size = 7 := rfl
          go_wp2_with (first | ((with_reducible show wpList _ _ _ (⟨_, .store _ _ _, _, _, _, _⟩ :: _) _ _); refine wpList_store_fld (by rfl) _ _ _ (by rfl) _ _ (by rfl) _ (by rfl) _ _ hH2 ?_ ?_ (by rfl) (by rfl) ?_; (next => first | omega | ((try simp) <;> omega)); (next => kernel_rfl); intro w3 hB3 hU3) | fail)
          go_ret
          obtain ⟨_, p2, p3⟩ := hP.out w3 hB3 ((But.of_below hb2).upd hU3)
          have e : (64 * (k : Int) + (c : Int)) = ((k * 64 + c : Nat) : Int) := by omega
          exact ⟨by show Ending.returned (.int .i64 (64 * (k : Int) + (c : Int))) = _; rw [e], p2, p3⟩
        · rw [hset.out c (by omega)] at hbit
          go_wp2_with fail
          go_round
          case rel => exact ⟨c + 1, by go_num, by omega⟩
          case measure => simp [intOf]; omega
end
end Lad
end Go.Proofs.YtacpjpkhmdcagaaGreat
