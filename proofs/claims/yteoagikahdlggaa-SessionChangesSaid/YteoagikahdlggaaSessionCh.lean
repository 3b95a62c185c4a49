/- This text proves contracts of damperref08's Changes and of session's Changes, an iterator. They have no conditions but those that they state. -/
import Derived.Test.YteoagikahdlggaaSessionChP
import Derived.Test.YteoagikahdlggaaOwn
import Derived.Test.YteoagikahdlggaaRangeB
import Derived.Test.YteoagikahdlggaaRound
import Derived.OwnWalkIn
import Derived.TacticsInMore
import Derived.LoopNIn
import Derived.LoopIn
import Derived.Laws.StructEq
namespace Go.Proofs.Yteoagikahdlggaa
set_option linter.unusedVariables false
open Go.RowKit
namespace Ses
set_option maxHeartbeats 1000000
set_option maxRecDepth 10000
theorem rd_range {α : Type} {c : α → List Value} {w : World} {k : Nat} {A : Option Addr} {xs : List α} (h : Rd w k A (xs.map c)) {i : Nat} (hi : i < xs.length) :
    ∃ b off, A = some ⟨b, off, none⟩ ∧ w.rangeAt b (off + i * k) (c xs[i]) := by
  obtain ⟨b, off, e, hc⟩ := h.at hi
  exact ⟨b, off, e, fun j v hv => by rw [Nat.add_assoc]; exact hc j v hv⟩
def rows (l : List Row) : List Value := (l.map Row.cells).flatten
theorem rows_snoc (l : List Row) (x : Row) : rows (l ++ [x]) = rows l ++ [x.cells].flatten := by simp [rows]
theorem row_at {w : World} {A : Option Addr} {xs : List Row} (h : Rd w 2 A (xs.map Row.cells)) {i : Nat} (hi : i < xs.length) : ∃ b off, A = some ⟨b, off, none⟩ ∧ w.rangeAt b (off + i * 2) xs[i].cells ∧ w.cell? ⟨b, off + i * 2, none⟩ = some (.int .i64 xs[i].tick) ∧ w.cell? ⟨b, off + i * 2 + 1, none⟩ = some (.int .i64 xs[i].phase) := by
  obtain ⟨b, off, e, hc⟩ := rd_range h hi
  exact ⟨b, off, e, hc, hc 0 _ rfl, hc 1 _ rfl⟩
theorem rchg_any (xs : List Row) (A : Option Addr) (cap : Nat) (w : World) (hml : xs.length ≤ 60) (hr : Rd w 2 A (xs.map Row.cells)) :
    Calls Try.prog 17 #[.slice A xs.length cap] w fun e w' => ∃ v, e = .returned v ∧ w'.ownsRow w.heap.size 35 2 v (chgF 0 xs).length (rows (chgF 0 xs)) ∧ Below w.heap.size w w' := by
  have HR := Lib.hid hr
  clear hr
  go_enter Try.func17, Try.ntmps17
  go_wp2_with fail
  go_loopw [3, 4, 5] (fun v p i wr => ∃ (k : Nat) (vv : Value), v = vv ∧ i = .int .i64 k ∧ k ≤ xs.length ∧ p = .int .i64 (lastP 0 (xs.take k)) ∧ wr.ownsRow w.heap.size 35 2 v (chgF 0 (xs.take k)).length (rows (chgF 0 (xs.take k))) ∧ Below w.heap.size w wr) (fun _ _ i _ => xs.length - (intOf i).toNat)
  case atStart => exact ⟨0, _, rfl, rfl, Nat.zero_le _, rfl, World.ownsRow_nil _ _ _ _, Below.refl _ _⟩
  case round =>
    obtain ⟨k, vv, rfl, rfl, hk, rfl, hown, hb⟩ := hrel
    by_cases hlt : k < xs.length
    · obtain ⟨b, off, rfl, hrg, hc0, hc1⟩ := row_at (HR.out.below hb) hlt
      have htk : xs.take (k + 1) = xs.take k ++ [xs[k]] := by rw [List.take_succ_eq_append_getElem hlt]
      have hln := chgF_len 0 (xs.take k)
      have hln2 : (chgF 0 (xs.take k)).length ≤ 60 := by simp at hln; omega
      by_cases hp : xs[k].phase = lastP 0 (xs.take k)
      · have h1 := chgF_same hp
        have h2 := lastP_snoc 0 (xs.take k) xs[k]
        rw [← htk] at h1 h2
        have H1 := Lib.hid h1
        have H2 := Lib.hid h2
        rw [hp] at hc1
        clear h1 h2 htk hrg hc0
        go_wp2_with fail
        go_roundw
        case rel => exact ⟨k + 1, _, rfl, by go_num, by omega, by rw [H2.out, hp], by rw [H1.out]; exact hown, hb⟩
        case measure => simp [intOf]; omega
      · have h1 := chgF_new hp
        have h2 := lastP_snoc 0 (xs.take k) xs[k]
        rw [← htk] at h1 h2
        have H1 := Lib.hid h1
        have H2 := Lib.hid h2
        clear h1 h2 htk
        obtain ⟨b', off', e', hrg0⟩ := rd_range HR.out hlt
        cases e'
        have hc9 : w.cell? ⟨b, off + k * 2 + 1, none⟩ = some (.int .i64 xs[k].phase) := hrg0 1 _ rfl
        have hbl := cell_lt hc9
        generalize xs[k] = x at *
        generalize lastP 0 (xs.take k) = ph at *
        generalize hL : chgF 0 (xs.take k) = L at *
        go_wp2_with (first | (refine wpList_build1 (by rfl) 22 35 _ (by rfl) (.agg #[.int .i64 0, .int .i64 0]) 2 Try.underlying22 (by kernel_rfl) ⟨by decide, by decide⟩ (.agg #[.int .i64 x.tick, .int .i64 x.phase]) (by rfl) #[.int .i64 x.tick, .int .i64 x.phase] (by kernel_rfl) ?_; intro w5 hB5 hb5 hz5'; have hz5 := Lib.hid hz5'; clear hz5'; have hown5 := owns_ext hown hb5; have hc5 := (hb5.cell (p := ⟨b, off + k * 2 + 1, none⟩) (cell_lt hc1)).trans hc1) | (refine wpList_append_rd (by rfl) _ _ _ (by rfl) w.heap.size 35 (.agg #[.int .i64 0, .int .i64 0]) 2 16 Try.underlying22 (by kernel_rfl) ⟨rfl, by decide⟩ _ L.length _ (by rfl) hown5 (some ⟨wr.heap.size, 0, none⟩) 1 1 [x.cells] (by rfl) ?_ ⟨rfl, by simp [Row.cells, Value.oneCell']⟩ (by simp) ?_ ?_ ?_; (next => exact rd_own hB5 (by simp [Row.cells]) (n := 1) (by simp [Row.cells])); (next => unfold maxLen; omega); (next => have h1 := hz5.out; have h2 := hb.size; omega); intro v6 w6 hown6 hb6 hz6 hk6; have hb06 : Below w.heap.size w w6 := (hb.trans (hb5.mono hb.size)).trans hb6; have hc6 := (hb06.cell (p := ⟨b, off + k * 2 + 1, none⟩) hbl).trans hc9) | fail)
        go_roundw
        case rel => exact ⟨k + 1, _, rfl, by go_num, by omega, by rw [H2.out], by rw [H1.out, List.length_append, rows_snoc]; exact hown6, hb06⟩
        case measure => simp [intOf]; omega
    · go_wp2_with fail
      go_ret
      have : xs.take k = xs := List.take_of_length_le (by omega)
      rw [this] at hown
      exact ⟨_, rfl, hown, hb⟩
def encR (x : Row) : Array Value := #[.int .i64 x.tick, .int .i64 x.phase]
attribute [local go_sem] Oper.semAt_some in
theorem each_in (l : Nat) (xs : List Row) (A : Option Addr) (cap : Nat) {w : World} (hml : xs.length ≤ 60) (bt : Nat) (ht : Blk w bt 22 #[.slice A xs.length cap]) (nb : List Nat) (hnb : bt ∉ nb) (hr : ∀ W, ButL nb w.heap.size w W → Rd W 2 A (xs.map Row.cells))
    (J Jx : List Row → World → Prop) (hJo : ∀ pre (W : World) o, J pre W → J pre (W.alloc o))
    (hY : ∀ pre x W, J pre W → pre.length < (chgF 0 xs).length → YieldAt Fence.wide 7 Try.prog l (encR x) W fun e W' =>
      (e = .returned (.bool true) ∧ J (pre ++ [x]) W' ∧ ButL nb w.heap.size W W') ∨ (e = .returned (.bool false) ∧ Jx (pre ++ [x]) W'))
    (W : World) (hW : Below w.heap.size w W) (h0 : J [] W) :
    CallsIn Fence.wide 8 Try.prog 22 #[.func (.yield l) #[] #[], .pointer (some ⟨bt, 0, none⟩)] W fun e W' => (∃ v, e = .returned v) ∧
      ((∃ ys, ys = chgF 0 xs ∧ J ys W') ∨ (∃ pre, pre <+: chgF 0 xs ∧ Jx pre W')) := by
  refine callsIn_of_wp Try.func22 rfl trivial ?_ rfl
  simp only [Try.ntmps22, List.size_toArray, List.length_cons, List.length_nil, Nat.reduceAdd, Nat.reduceSub, Array.replicate_succ, Array.replicate_zero, List.push_toArray, List.append_toArray, List.nil_append, List.cons_append]
  have cq : W.cell? ⟨bt, 0, none⟩ = some (.slice A xs.length cap) := (ht.ext hW).cell 0
  gi_wp2_with fail
  gi_loopw [3, 8] (fun p i wr => ∃ k : Nat, i = .int .i64 k ∧ k ≤ xs.length ∧ p = .int .i64 (lastP 0 (xs.take k)) ∧ J (chgF 0 (xs.take k)) wr ∧ ButL nb w.heap.size W wr) (fun _ i wr => xs.length - (intOf i).toNat)
  case atStart => exact ⟨0, rfl, Nat.zero_le _, rfl, h0, ButL.refl _ _ _⟩
  case round =>
    obtain ⟨k, rfl, hk, rfl, hJ, hB⟩ := hrel
    have hwr : ButL nb w.heap.size w wr := (ButL.of_below hW).trans hB
    by_cases hlt : k < xs.length
    · obtain ⟨b, off, rfl, hrg, hc0, hc1⟩ := row_at (hr wr hwr) hlt
      have htk : xs.take (k + 1) = xs.take k ++ [xs[k]] := by rw [List.take_succ_eq_append_getElem hlt]
      have e1 : (k : Int) < (xs.length : Int) := by omega
      clear hrg
      by_cases hp : xs[k].phase = lastP 0 (xs.take k)
      · have h1 := chgF_same hp
        have h2 := lastP_snoc 0 (xs.take k) xs[k]
        rw [← htk] at h1 h2
        have H1 := Lib.hid h1
        have H2 := Lib.hid h2
        rw [hp] at hc1
        have hbA : Below wr.heap.size wr (wr.alloc (.cells #[.int .i64 xs[k].tick, .int .i64 (lastP 0 (xs.take k))] 35)) := by (repeat (first | with_reducible exact Below.refl _ _ | (with_reducible assumption) | (with_reducible refine below_alloc ?_ _) | (with_reducible refine below_ext (w1 := ?_) ?_ ?_; rotate_left 2; (with_reducible assumption)) | (with_reducible refine Below.setCell ?_ ?_ _; rotate_left; ((try simp) <;> omega)) | (with_reducible refine Below.drew ?_) | (with_reducible refine below_drewN ?_ _) | fail))
        clear h1 h2 htk
        gi_wp2_with fail
        go_roundw
        case rel => exact ⟨k + 1, by go_num, by omega, by rw [H2.out, hp], by rw [H1.out]; exact hJo _ _ _ hJ, hB.trans (ButL.of_below (hbA.mono (by have := hwr.size; omega)))⟩
        case measure => simp [intOf]; omega
      · have h1 := chgF_new hp
        have h2 := lastP_snoc 0 (xs.take k) xs[k]
        have h3 := (chgF_pre 0 (xs.take (k + 1)) (xs.drop (k + 1)))
        rw [List.take_append_drop] at h3
        rw [← htk] at h1 h2
        rw [h1] at h3
        have H1 := Lib.hid h1
        have H2 := Lib.hid h2
        have H3 := Lib.hid h3
        have hlen : (chgF 0 (xs.take k)).length < (chgF 0 xs).length := by have := h3.length_le; simp at this; omega
        clear h1 h2 h3 htk
        generalize xs[k] = x at *
        generalize lastP 0 (xs.take k) = ph at *
        generalize hL : chgF 0 (xs.take k) = L at *
        have hbA : Below wr.heap.size wr (wr.alloc (.cells #[.int .i64 x.tick, .int .i64 x.phase] 35)) := by (repeat (first | with_reducible exact Below.refl _ _ | (with_reducible assumption) | (with_reducible refine below_alloc ?_ _) | (with_reducible refine below_ext (w1 := ?_) ?_ ?_; rotate_left 2; (with_reducible assumption)) | (with_reducible refine Below.setCell ?_ ?_ _; rotate_left; ((try simp) <;> omega)) | (with_reducible refine Below.drew ?_) | (with_reducible refine below_drewN ?_ _) | fail))
        obtain ⟨fn, tmps, assign, body, hy, hR⟩ := hY L x (wr.alloc (.cells #[.int .i64 x.tick, .int .i64 x.phase] 35)) (hJo _ _ _ hJ) hlen
        unfold encR at hy
        gi_wp2_with fail
        refine hR.mono ?_
        rintro e W3 (⟨rfl, hJ3, hk3⟩ | ⟨rfl, hJx3⟩)
        · gi_wp2_with fail
          go_roundw
          case rel => exact ⟨k + 1, by go_num, by omega, by rw [H2.out], by rw [H1.out]; exact hJ3, (hB.trans (ButL.of_below (hbA.mono (by have := hwr.size; omega)))).trans hk3⟩
          case measure => simp [intOf]; omega
        · gi_wp2_with fail
          refine bodyPost_ret (results_none rfl _ _ _) rfl ?_
          exact ⟨⟨_, rfl⟩, .inr ⟨_, H3.out, hJx3⟩⟩
    · obtain rfl : k = xs.length := by omega
      gi_wp2_with fail
      go_end0
      rw [List.take_length] at hJ
      exact ⟨⟨_, rfl⟩, .inl ⟨_, rfl, hJ⟩⟩
theorem each_any (A : Option Addr) (n cap : Nat) (w : World) : Calls Try.prog 18 #[.slice A n cap] w fun e w' => e = .returned (.func (.func 22) #[] #[.pointer (some ⟨w.heap.size, 0, none⟩)]) ∧ Blk w' w.heap.size 22 #[.slice A n cap] ∧ Below w.heap.size w w' := by
  go_enter Try.func18, Try.ntmps18
  go_wp2_with fail
  go_ret
  exact ⟨rfl, Blk.new _ _ _ _ rfl, by (repeat (first | with_reducible exact Below.refl _ _ | (with_reducible assumption) | (with_reducible refine below_alloc ?_ _) | (with_reducible refine below_ext (w1 := ?_) ?_ ?_; rotate_left 2; (with_reducible assumption)) | (with_reducible refine Below.setCell ?_ ?_ _; rotate_left; ((try simp) <;> omega)) | (with_reducible refine Below.drew ?_) | (with_reducible refine below_drewN ?_ _) | fail))⟩
theorem each_stops (xs : List Row) (A : Option Addr) (cap : Nat) {w : World} (hml : xs.length ≤ 60) (bt : Nat) (ht : Blk w bt 22 #[.slice A xs.length cap]) (nb : List Nat) (hnb : bt ∉ nb) (hr : ∀ W, ButL nb w.heap.size w W → Rd W 2 A (xs.map Row.cells)) :
    SeqStopsK Fence.wide 8 Try.prog 22 #[.pointer (some ⟨bt, 0, none⟩)] encR (ButL nb w.heap.size) (fun ys => ys = chgF 0 xs) (fun pre => pre <+: chgF 0 xs) (chgF 0 xs).length w := fun l J Jx W hW hJ _ hY h0 =>
  each_in l xs A cap hml bt ht nb hnb hr J Jx (fun pre W o h => hJ pre W _ none h (World.grownBy_alloc W o none) (fun r e => by cases e)) hY W hW h0
theorem owns_rows {w : World} {B : Nat} {e : TypeId} {v : Value} {l : List Row} (h : w.ownsRow B e 2 v l.length (rows l)) : ∃ A cap, v = .slice A l.length cap ∧ Rd w 2 A (l.map Row.cells) ∧ ∀ a, A = some a → B ≤ a.block ∧ a.block < w.heap.size := by
  rcases h.2 with ⟨rfl, h0⟩ | ⟨g, cap, cur, rfl, hb, hg, _, _, _, ht⟩
  · rw [h0]
    have : l = [] := List.eq_nil_of_length_eq_zero h0
    subst this
    exact ⟨none, 0, rfl, fun hne => absurd rfl hne, fun a e => by cases e⟩
  · refine ⟨some ⟨g, 0, none⟩, cap, rfl, rd_own (show Blk w g e cur from hg) (n := l.length) (fun r hr => ?_) ht, fun a e => ?_⟩
    · obtain ⟨x, _, rfl⟩ := List.mem_map.1 hr
      rfl
    · cases e
      exact ⟨hb, heap_lt hg⟩
theorem guardRow : Try.prog.eqGuardType Try.prog.depth 35 = false := by kernel_rfl
theorem eqRow (a b a' b' : Int) (w : World) : (Op.equalIn 10000 35 (.agg #[.int .i64 a, .int .i64 b]) (.agg #[.int .i64 a', .int .i64 b'])).run Try.prog w = .ok (a == a' && b == b') w := by
  have u3 := Try.underlying3
  have a3 := Try.isAgg3
  have z3 := Try.sizeOf3
  have u2 := Try.underlying2
  have a2 := Try.isAgg2
  have z2 := Try.sizeOf2
  have hS : Try.prog.underlying 35 = some (.struct (Try.prog.fieldsOf 35)) := by kernel_rfl
  have hp : Try.prog.stoodInHeld 35 = false := by kernel_rfl
  rw [show (10000 : Nat) = 9999 + 1 from rfl, run_equalIn_agg w 9999 35 _ _ hS hp]
  simp only [Program.fieldsOf, Try.underlying35]
  go_simp
  by_cases h1 : a = a'
  · by_cases h2 : b = b' <;> simp [h1, h2]
  · simp [h1]
theorem wpList_nes {P : Program} {ops : Array Oper} {rest : List Oper} {o : Oper} {a : Act} {w : World} {Q : Exit → Act → World → Prop} (hgd : Region.wanted o (yielded ops a.tmps) = true) (T : TypeId) (x y : Operand) (u : TypeId) (ho : o.op = .binOp .neq T x y u) (hG : P.eqGuardType P.depth T = false) (xs ys : Array Value) (b : Bool)
    (hx : a.eval x = .agg xs) (hy : a.eval y = .agg ys) (hE : ∀ w, (Op.equalIn 10000 T (.agg xs) (.agg ys)).run P w = .ok b w) (h : wpList P ops Q rest (a.put o.dst (.bool (!b))) w) : wpList P ops Q (o :: rest) a w :=
  wpList_step fun K hK => by
    rw [if_pos hgd]
    unfold Oper.wp execOp
    simp only [ho, hx, hy, Sem.run_bind, run_eqGuard_agg _ _ _ _ _ _ _ hG, Result.andThen_ok, run_neq_struct, hE]
    exact hK _ _ h
end Ses
end Go.Proofs.Yteoagikahdlggaa
