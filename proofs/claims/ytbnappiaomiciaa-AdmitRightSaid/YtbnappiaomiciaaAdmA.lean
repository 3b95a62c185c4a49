/- This text proves the chapter's example: contracts of damperlaw07.Plain, of one symbol, and of damperlaw25.alive. It has no conditions but those that it states. -/
import Derived.Test.YtbnappiaomiciaaAdmR
namespace Go.Proofs.Ytbnappiaomiciaa
set_option linter.unusedVariables false
open Go.RowKit
namespace Adm
set_option maxHeartbeats 1000000
set_option maxRecDepth 10000
def plain : Sym := ⟨5, 1000, 2000, 500, 20, 100, 3, 10, 5, 2, 500, 500, 1, 40, 12, 1000⟩
def cfgC (w : World) (v : Value) : Array Value := #[v, .slice (some ⟨w.heap.size + 1 + 1, 0, none⟩) 3 3, .int .i64 10000, .int .i64 700, .int .i64 1300, .int .i64 2000, .int .i64 15, .int .i64 30]
def cfgZ : Array Value := #[.slice none 0 0, .slice none 0 0, .int .i64 0, .int .i64 0, .int .i64 0, .int .i64 0, .int .i64 0, .int .i64 0]
theorem owns_slice {w : World} {B : Nat} {e : TypeId} {k n : Nat} {v : Value} {xs : List Value} (h : w.ownsRow B e k v n xs) : ∃ A cap, v = .slice A n cap := by
  rcases h.2 with ⟨rfl, h0⟩ | ⟨g, cap, cur, rfl, _⟩
  · exact ⟨none, 0, by rw [h0]⟩
  · exact ⟨_, _, rfl⟩
theorem owns_upd {w w' : World} {B g : Nat} {e : TypeId} {k n : Nat} {v : Value} {xs : List Value} (h : w.ownsRow B e k v n xs) (hg : g < B) (u : Upd g w w') : w'.ownsRow B e k v n xs := by
  refine ⟨h.1, ?_⟩
  rcases h.2 with ⟨rfl, h0⟩ | ⟨g', cap, cur, rfl, hb, hh, r⟩
  · exact .inl ⟨rfl, h0⟩
  · exact .inr ⟨g', cap, cur, rfl, hb, (u.block g' (by omega)).trans hh, r⟩
theorem owns_mono' {w : World} {B B' : Nat} {e : TypeId} {k n : Nat} {v : Value} {xs : List Value} (h : w.ownsRow B e k v n xs) (hb : B' ≤ B) : w.ownsRow B' e k v n xs := by
  refine ⟨h.1, ?_⟩
  rcases h.2 with ⟨rfl, h0⟩ | ⟨g', cap, cur, rfl, hb', r⟩
  · exact .inl ⟨rfl, h0⟩
  · exact .inr ⟨g', cap, cur, rfl, by omega, r⟩
theorem cfg_one (w : World) (A : Option Addr) (n c : Nat) : (cfgC w (.slice A n c)).all (·.oneCell') = true := by simp [cfgC, Value.oneCell']
theorem plain_one : ∀ u ∈ plain.cells, u.oneCell' = true := by
  intro u hu
  simp [Sym.cells, plain] at hu
  rcases hu with rfl | rfl | rfl | rfl | rfl | rfl | rfl | rfl | rfl | rfl | rfl | rfl | rfl | rfl | rfl <;> rfl
def PlainPost (w : World) (e : Ending) (w' : World) : Prop := ∃ v, e = .returned (.agg (cfgC w v)) ∧ w'.ownsRow w.heap.size 23 16 v 1 plain.cells ∧ Below w.heap.size w w'
/-- What the walk of Plain keeps: the result's cell, the symbol's, the configuration's. -/
structure PR (w : World) (k : Nat) (v : Value) (wr : World) : Prop where
  res : Blk wr w.heap.size 53 cfgZ
  sym : Blk wr (w.heap.size + 1) 23 plain.arr
  cfg : Blk wr (w.heap.size + 1 + 1 + 1) 53 (cfgC w v)
  nil : k = 0 → v = .slice none 0 0
  own : k = 1 → wr.ownsRow (w.heap.size + 1 + 1 + 1 + 1) 23 16 v 1 plain.cells
  below : Below w.heap.size w wr
theorem plain_any (w : World) : Calls Try.prog 22 #[.int .i64 1] w (PlainPost w) := by
  go_enter Try.func22, Try.ntmps22
  go_wp2_with fail
  go_loopw [5] (fun i wr => ∃ (k : Nat) (v : Value), i = .int .i64 k ∧ k ≤ 1 ∧ PR w k v wr) (fun i _ => 1 - (intOf i).toNat)
  case atStart =>
    refine ⟨0, .slice none 0 0, rfl, by decide, ⟨?_, ?_, ?_, fun _ => rfl, (fun h => by cases h), ?_⟩⟩
    · exact (((Blk.new _ _ _ _ rfl).alloc _).alloc _).alloc _
    · exact ((Blk.new _ _ _ _ (by simp only [sz_alloc])).alloc _).alloc _
    · exact Blk.new _ _ _ _ (by simp only [sz_alloc])
    · exact below_alloc (below_alloc (below_alloc (below_alloc (Below.refl _ _) _) _) _) _
  case round =>
    obtain ⟨k, v, rfl, hk, hR⟩ := hrel
    by_cases hlt : k < 1
    · have hk0 : k = 0 := by omega
      subst hk0
      have hv := hR.nil rfl
      subst hv
      obtain ⟨h1, h2, h3, _, _, h6⟩ := hR
      have c0 : wr.cell? ⟨w.heap.size + 1 + 1 + 1, 0, none⟩ = some (.slice none 0 0) := h3.cell 0
      have hz := h3.lt
      have hcz : (cfgC w (.slice none 0 0)).size = 8 := rfl
      go_wp2_with (first
        | ((with_reducible show wpList _ _ _ (⟨_, .load 23 _, _, _, _, _⟩ :: _) _ _); refine wpList_load_ho 23 _ (by rfl) (by rfl) ?_ (.pointer (some ⟨_, 0, none⟩)) (by rfl) ?_ _ Try.underlying23 rfl ?_ ?_; rotate_left; (next => (repeat (first | (with_reducible refine BlkAt.new _ _ _ _ ?_; ((try simp) <;> omega)) | (with_reducible assumption) | (with_reducible refine Blk.at (t := ?_) ?_; rotate_left; with_reducible assumption) | with_reducible refine BlkAt.alloc ?_ _ | with_reducible refine BlkAt.drew ?_ | (with_reducible refine BlkAt.setSame ?_ _ _) | (with_reducible refine BlkAt.setCell ?_ ?_ _; rotate_left; ((try simp) <;> omega)) | (with_reducible refine BlkAt.ext (w := ?_) ?_ ?_; rotate_left 2; (with_reducible assumption)) | fail))); (next => kernel_rfl))
        | ((with_reducible show wpList _ _ _ (⟨_, .buildSlice _ _ _, _, _, _, _⟩ :: _) _ _); refine wpList_build1 (by rfl) 48 23 _ (by rfl) (.agg #[.int .i64 0, .int .i64 0, .int .i64 0, .int .i64 0, .int .i64 0, .int .i64 0, .int .i64 0, .int .i64 0, .int .i64 0, .int .i64 0, .int .i64 0, .int .i64 0, .int .i64 0, .int .i64 0, .int .i64 0, .int .i64 0]) 16 Try.underlying48 (by kernel_rfl) ⟨by decide, by decide⟩ (.agg plain.arr) (by rfl) plain.arr (by kernel_rfl) ?_; intro w2 hB2 hb2 hz2'; have hz2 := Lib.hid hz2'; clear hz2'; have g1 := h1.ext hb2; have g2 := h2.ext hb2; have g3 := h3.ext hb2; have hb02 := below_ext h6 hb2)
        | ((with_reducible show wpList _ _ _ (⟨_, .call ⟨.builtin .append, _, _⟩, _, _, _, _⟩ :: _) _ _); refine wpList_append_rd (by rfl) _ _ _ (by rfl) w2.heap.size 23 (.agg #[.int .i64 0, .int .i64 0, .int .i64 0, .int .i64 0, .int .i64 0, .int .i64 0, .int .i64 0, .int .i64 0, .int .i64 0, .int .i64 0, .int .i64 0, .int .i64 0, .int .i64 0, .int .i64 0, .int .i64 0, .int .i64 0]) 16 128 Try.underlying48 (by kernel_rfl) ⟨rfl, by decide⟩ _ 0 [] (by rfl) (World.ownsRow_nil _ _ _ _) (some ⟨wr.heap.size, 0, none⟩) 1 1 [plain.cells] (by rfl) ?_ ⟨rfl, ?_⟩ (by simp) ⟨by decide, by decide⟩ (Nat.le_refl _) ?_; (next => exact rd_own hB2 (fun r hr => by rw [List.mem_singleton.1 hr]; rfl) (n := 1) (by rfl)); (next => exact fun r hr => by rw [List.mem_singleton.1 hr]; exact ⟨rfl, plain_one⟩); intro v3 w3 hown3 hb3 hz3 hk3; obtain ⟨A3, c3, rfl⟩ := owns_slice hown3; have f1 := g1.ext hb3; have f2 := g2.ext hb3; have f3 := g3.ext hb3; have hb03 := below_ext hb02 hb3)
        | (((with_reducible show wpList _ _ _ (⟨_, .store _ _ _, _, _, _, _⟩ :: _) _ _); refine wpList_store_fld (by rfl) _ _ _ (by rfl) _ _ (by rfl) _ (by rfl) _ _ f3 ?_ ?_ (by rfl) (by rfl) ?_; (next => first | omega | ((try simp) <;> omega)); (next => kernel_rfl); intro w4 f4 hU4); have e1 := f1.upd (by omega) hU4; have e2 := f2.upd (by omega) hU4; have hb04 := below_upd hb03 (by omega) hU4)
        | fail)
      go_roundw
      case rel =>
        have hs2 := hz2.out
        exact ⟨1, .slice A3 1 c3, by go_num, by decide, ⟨e1, e2, f4, (fun h => by cases h), (fun _ => owns_mono' (owns_upd (by simpa using hown3) (by omega) hU4) (by omega)), hb04⟩⟩
      case measure => simp [intOf]
    · have hk1 : k = 1 := by omega
      subst hk1
      obtain ⟨h1, h2, h3, _, h5, h6⟩ := hR
      have hown := h5 rfl
      obtain ⟨A3, c3, rfl⟩ := owns_slice hown
      clear h5
      replace hown := Lib.hid hown
      go_wp2_with (first
        | ((with_reducible show wpList _ _ _ (⟨_, .load 53 _, _, _, _, _⟩ :: _) _ _); refine wpList_load_ho 53 _ (by rfl) (by rfl) ?_ (.pointer (some ⟨_, 0, none⟩)) (by rfl) ?_ _ Try.underlying53 rfl ?_ ?_; rotate_left; (next => (repeat (first | (with_reducible refine BlkAt.new _ _ _ _ ?_; ((try simp) <;> omega)) | (with_reducible assumption) | (with_reducible refine Blk.at (t := ?_) ?_; rotate_left; with_reducible assumption) | with_reducible refine BlkAt.alloc ?_ _ | with_reducible refine BlkAt.drew ?_ | (with_reducible refine BlkAt.setSame ?_ _ _) | (with_reducible refine BlkAt.setCell ?_ ?_ _; rotate_left; ((try simp) <;> omega)) | (with_reducible refine BlkAt.ext (w := ?_) ?_ ?_; rotate_left 2; (with_reducible assumption)) | fail))); (next => kernel_rfl))
        | ((with_reducible show wpList _ _ _ (⟨_, .store _ _ _, _, _, _, _⟩ :: _) _ _); refine wpList_store_blk (by rfl) 53 _ _ (by rfl) _ _ (by rfl) (by rfl) _ _ h1 (by kernel_rfl) (by rfl) (cfg_one w A3 1 c3) ?_; intro w5 hB5 hU5)
        | fail)
      simp only [Act.put, List.setIfInBounds_toArray, List.set_cons_zero, List.set_cons_succ]
      refine bodyPost_ret (v := .agg (cfgC w (.slice A3 1 c3))) (results_cell_row rfl _ _ _ _ _ _ _ (by rfl) hB5 Try.underlying53 rfl (by kernel_rfl)) rfl ⟨_, rfl, ?_, below_upd h6 (Nat.le_refl _) hU5⟩
      exact owns_mono' (owns_upd hown.out (by omega) hU5) (by omega)
theorem owns_plain {w : World} {B : Nat} {v : Value} (h : w.ownsRow B 23 16 v 1 plain.cells) : ∃ g cap, v = .slice (some ⟨g, 0, none⟩) 1 cap ∧ w.rangeAt g 0 plain.cells ∧ g < w.heap.size := by
  rcases h.2 with ⟨_, h0⟩ | ⟨g, cap, cur, rfl, hb, hg, hc, _, _, ht⟩
  · cases h0
  · have hB : Blk w g 23 cur := hg
    refine ⟨g, cap, rfl, fun j u hu => ?_, hB.lt⟩
    rw [Nat.zero_add, hB.cell]
    have h1 : j < 16 := by
      have h2 := (List.getElem?_eq_some_iff.1 hu).1
      have h3 : plain.cells.length = 16 := rfl
      omega
    rw [← ht] at hu
    rw [List.getElem?_take, if_pos (by simpa using h1)] at hu
    simpa using hu
def cmdA : Cmd := ⟨1, 0, 0, 0, 0, 2, 0, 1, 0⟩
theorem new_a3 : newF cmdA 3 plain.grid (Sho.mayF false 0 (ordOf cmdA 0)) = 10 := by decide +kernel
theorem new_a2 : newF cmdA 2 plain.grid (Sho.mayF false 0 (ordOf cmdA 0)) = 0 := by decide +kernel
theorem alive_any (w : World) : Calls Try.prog 5 #[] w fun e w' => e = .returned (.bool true) ∧ Below w.heap.size w w' := by
  have hN3 := Lib.hid (fun W => new_any plain 3 false 0 cmdA ⟨by decide, by decide⟩ ⟨by decide, by decide⟩ ⟨by decide, by decide⟩ W)
  have hN2 := Lib.hid (fun W => new_any plain 2 false 0 cmdA ⟨by decide, by decide⟩ ⟨by decide, by decide⟩ ⟨by decide, by decide⟩ W)
  rw [new_a3] at hN3
  rw [new_a2] at hN2
  have hfd : ∀ (g cap : Nat) (W : World), (Instr.field 53 (.agg #[.slice (some ⟨g, 0, none⟩) 1 cap, .slice (some ⟨w.heap.size + 1 + 1, 0, none⟩) 3 3, .int .i64 10000, .int .i64 700, .int .i64 1300, .int .i64 2000, .int .i64 15, .int .i64 30]) 0).run Try.prog W = .ok (.slice (some ⟨g, 0, none⟩) 1 cap) W := fun _ _ _ => by kernel_rfl
  go_enter Try.func5, Try.ntmps5
  go_wp2_with (first | (go_at_call 22; refine (plain_any _).mono ?_; rintro e w1 ⟨v, rfl, hown, hb1⟩; obtain ⟨g, cap, rfl, hr, hg⟩ := owns_plain hown; unfold cfgC; clear hown) | ((with_reducible show wpList _ _ _ (⟨_, .load 23 _, _, _, _, _⟩ :: _) _ w1); refine wpList_load_midw (by rfl) _ _ (by rfl) _ _ (by rfl) _ _ hr Try.underlying23 rfl (by kernel_rfl) ?_) | ((with_reducible show wpList _ _ _ (⟨_, .store 23 _ _, _, _, _, _⟩ :: _) _ _); refine wpList_store_blk (by rfl) 23 _ _ (by rfl) _ _ (by rfl) (by rfl) _ _ (Blk.new w1 _ _ _ rfl) (by kernel_rfl) (by rfl) (by kernel_rfl) ?_; intro w2 hS2 hU2; have hb2 := below_upd (below_alloc hb1 _) hb1.size hU2; have hz2 := hU2.size) | ((with_reducible show wpList _ _ _ (⟨_, .load 23 _, _, _, _, _⟩ :: _) _ _); refine wpList_load_ho 23 _ (by rfl) (by rfl) ?_ (.pointer (some ⟨_, 0, none⟩)) (by rfl) ?_ _ Try.underlying23 rfl ?_ ?_; rotate_left; (next => (repeat (first | (with_reducible refine BlkAt.new _ _ _ _ ?_; ((try simp) <;> omega)) | (with_reducible assumption) | (with_reducible refine Blk.at (t := ?_) ?_; rotate_left; with_reducible assumption) | with_reducible refine BlkAt.alloc ?_ _ | with_reducible refine BlkAt.drew ?_ | (with_reducible refine BlkAt.setSame ?_ _ _) | (with_reducible refine BlkAt.setCell ?_ ?_ _; rotate_left; ((try simp) <;> omega)) | (with_reducible refine BlkAt.ext (w := ?_) ?_ ?_; rotate_left 2; (with_reducible assumption)) | fail))); (next => kernel_rfl)) | ((with_reducible show wpList _ _ _ (⟨_, .load 27 _, _, _, _, _⟩ :: _) _ _); refine wpList_load_ho 27 _ (by rfl) (by rfl) ?_ (.pointer (some ⟨_, 0, none⟩)) (by rfl) ?_ _ Try.underlying27 rfl ?_ ?_; rotate_left; (next => (repeat (first | (with_reducible refine BlkAt.new _ _ _ _ ?_; ((try simp) <;> omega)) | (with_reducible assumption) | (with_reducible refine Blk.at (t := ?_) ?_; rotate_left; with_reducible assumption) | with_reducible refine BlkAt.alloc ?_ _ | with_reducible refine BlkAt.drew ?_ | (with_reducible refine BlkAt.setSame ?_ _ _) | (with_reducible refine BlkAt.setCell ?_ ?_ _; rotate_left; ((try simp) <;> omega)) | (with_reducible refine BlkAt.ext (w := ?_) ?_ ?_; rotate_left 2; (with_reducible assumption)) | fail))); (next => kernel_rfl)) | fail)
  have hz3 : w2.heap.size = w1.heap.size + 1 := by rw [hz2, sz_alloc]
  refine (hN3.out _).mono ?_
  rintro e w3 ⟨rfl, hb3⟩
  have hS3 := (hS2.alloc _).ext hb3
  have hC3 : Blk w3 (w1.heap.size + 1) 27 #[.int .i64 1, .int .i64 0, .int .i64 0, .int .i64 0, .int .i64 0, .int .i64 2, .int .i64 0, .int .i64 1, .int .i64 0] := (Blk.new w2 _ _ _ hz3).ext hb3
  have hb03 := below_ext (below_alloc hb2 _) hb3
  go_wp2_with (first | ((with_reducible show wpList _ _ _ (⟨_, .load 23 _, _, _, _, _⟩ :: _) _ _); refine wpList_load_ho 23 _ (by rfl) (by rfl) ?_ (.pointer (some ⟨_, 0, none⟩)) (by rfl) ?_ _ Try.underlying23 rfl ?_ ?_; rotate_left; (next => (repeat (first | (with_reducible refine BlkAt.new _ _ _ _ ?_; ((try simp) <;> omega)) | (with_reducible assumption) | (with_reducible refine Blk.at (t := ?_) ?_; rotate_left; with_reducible assumption) | with_reducible refine BlkAt.alloc ?_ _ | with_reducible refine BlkAt.drew ?_ | (with_reducible refine BlkAt.setSame ?_ _ _) | (with_reducible refine BlkAt.setCell ?_ ?_ _; rotate_left; ((try simp) <;> omega)) | (with_reducible refine BlkAt.ext (w := ?_) ?_ ?_; rotate_left 2; (with_reducible assumption)) | fail))); (next => kernel_rfl)) | ((with_reducible show wpList _ _ _ (⟨_, .load 27 _, _, _, _, _⟩ :: _) _ _); refine wpList_load_ho 27 _ (by rfl) (by rfl) ?_ (.pointer (some ⟨_, 0, none⟩)) (by rfl) ?_ _ Try.underlying27 rfl ?_ ?_; rotate_left; (next => (repeat (first | (with_reducible refine BlkAt.new _ _ _ _ ?_; ((try simp) <;> omega)) | (with_reducible assumption) | (with_reducible refine Blk.at (t := ?_) ?_; rotate_left; with_reducible assumption) | with_reducible refine BlkAt.alloc ?_ _ | with_reducible refine BlkAt.drew ?_ | (with_reducible refine BlkAt.setSame ?_ _ _) | (with_reducible refine BlkAt.setCell ?_ ?_ _; rotate_left; ((try simp) <;> omega)) | (with_reducible refine BlkAt.ext (w := ?_) ?_ ?_; rotate_left 2; (with_reducible assumption)) | fail))); (next => kernel_rfl)) | fail)
  refine (hN2.out _).mono ?_
  rintro e w4 ⟨rfl, hb4⟩
  have hb04 := below_ext hb03 hb4
  go_wp2_with (first | (go_at_call 23; refine (matches_any _ _).mono ?_; rintro e w' ⟨rfl, rfl⟩) | (go_at_call 24; refine (rests_any _ _).mono ?_; rintro e w' ⟨rfl, rfl⟩) | fail)
  go_ret
  exact ⟨ret_bool (by rfl), hb04⟩
section
variable {ops : Array Oper} {C : World → Prop} {Q : Act → Prop} {a : Act} {o : Oper} {rest : List Oper}
theorem q_eqo (hgd : Region.wanted o (yielded ops a.tmps) = true) (x y : Operand) (u : TypeId) (ho : o.op = .binOp .eql 35 x y u) (p : Ord) (hx : a.eval x = .agg p.arr) (hy : a.eval y = .agg p.arr)
    (h : wpQuiet Try.prog ops C Q rest (a.put o.dst (.bool true))) : wpQuiet Try.prog ops C Q (o :: rest) a :=
  q_eq_ord hgd x y u ho p p hx hy (by rw [show ordEq p p = true from by simp [ordEq]]; exact h)
end
theorem fitCmd {vs : List Value} (h : fits (List.replicate 9 K) vs) : ∃ c : Cmd, vs = c.cells ∧ I64 c.price ∧ I64 c.qty := by
  obtain ⟨a0, _, rfl, b0, h⟩ := fitInt h
  obtain ⟨a1, _, rfl, b1, h⟩ := fitInt h
  obtain ⟨a2, _, rfl, b2, h⟩ := fitInt h
  obtain ⟨a3, _, rfl, b3, h⟩ := fitInt h
  obtain ⟨a4, _, rfl, b4, h⟩ := fitInt h
  obtain ⟨a5, _, rfl, b5, h⟩ := fitInt h
  obtain ⟨a6, _, rfl, b6, h⟩ := fitInt h
  obtain ⟨a7, _, rfl, b7, h⟩ := fitInt h
  obtain ⟨a8, _, rfl, b8, h⟩ := fitInt h
  obtain rfl := fitNil h
  exact ⟨⟨a0, a1, a2, a3, a4, a5, a6, a7, a8⟩, rfl, b6, b7⟩
end Adm
end Go.Proofs.Ytbnappiaomiciaa
