/- This text proves contracts of the package fifo: New, Push, Front, Pop, Remove, Of, Len, over links that are held as data. It has no conditions but those that they state. -/
import Derived.Test.YtacpjpkhmdcagaaGreatOwn
import Derived.Test.YtacpjpkhmdcagaaGreatFifoLaw
import Derived.Deep.RegionWith
import Derived.Deep.RegionHeld3
namespace Go.Proofs.YtacpjpkhmdcagaaGreat
set_option linter.unusedVariables false
open Go.RowKit
namespace Fif
set_option maxHeartbeats 400000
set_option maxRecDepth 10000
/-- Rows of three numbers. -/
def Tri (cs : Array Value) (n : Nat) (f g h : Nat → Int) : Prop :=
  cs.size = n * 3 ∧ ∀ k, k < n → cs[k * 3]? = some (.int .i64 (f k)) ∧ cs[k * 3 + 1]? = some (.int .i64 (g k)) ∧ cs[k * 3 + 2]? = some (.int .i64 (h k))
theorem Tri.set0 {cs : Array Value} {n : Nat} {f g h : Nat → Int} (t : Tri cs n f g h) {k : Nat} (hk : k < n) (v : Int) : Tri (cs.setIfInBounds (k * 3) (.int .i64 v)) n (up f k v) g h := by
  obtain ⟨h1, h2⟩ := t
  refine ⟨by simp [h1], fun i hi => ?_⟩
  obtain ⟨a, b, c⟩ := h2 i hi
  rw [Array.getElem?_setIfInBounds_ne (show k * 3 ≠ i * 3 + 1 by omega), Array.getElem?_setIfInBounds_ne (show k * 3 ≠ i * 3 + 2 by omega)]
  refine ⟨?_, b, c⟩
  by_cases e : i = k
  · subst e
    rw [Array.getElem?_setIfInBounds_self_of_lt (by omega), up_same]
  · rw [Array.getElem?_setIfInBounds_ne (by omega), up_ne _ _ e]
    exact a
theorem Tri.set1 {cs : Array Value} {n : Nat} {f g h : Nat → Int} (t : Tri cs n f g h) {k : Nat} (hk : k < n) (v : Int) : Tri (cs.setIfInBounds (k * 3 + 1) (.int .i64 v)) n f (up g k v) h := by
  obtain ⟨h1, h2⟩ := t
  refine ⟨by simp [h1], fun i hi => ?_⟩
  obtain ⟨a, b, c⟩ := h2 i hi
  rw [Array.getElem?_setIfInBounds_ne (show k * 3 + 1 ≠ i * 3 by omega), Array.getElem?_setIfInBounds_ne (show k * 3 + 1 ≠ i * 3 + 2 by omega)]
  refine ⟨a, ?_, c⟩
  by_cases e : i = k
  · subst e
    rw [Array.getElem?_setIfInBounds_self_of_lt (by omega), up_same]
  · rw [Array.getElem?_setIfInBounds_ne (by omega), up_ne _ _ e]
    exact b
theorem Tri.set2 {cs : Array Value} {n : Nat} {f g h : Nat → Int} (t : Tri cs n f g h) {k : Nat} (hk : k < n) (v : Int) : Tri (cs.setIfInBounds (k * 3 + 2) (.int .i64 v)) n f g (up h k v) := by
  obtain ⟨h1, h2⟩ := t
  refine ⟨by simp [h1], fun i hi => ?_⟩
  obtain ⟨a, b, c⟩ := h2 i hi
  rw [Array.getElem?_setIfInBounds_ne (show k * 3 + 2 ≠ i * 3 by omega), Array.getElem?_setIfInBounds_ne (show k * 3 + 2 ≠ i * 3 + 1 by omega)]
  refine ⟨a, b, ?_⟩
  by_cases e : i = k
  · subst e
    rw [Array.getElem?_setIfInBounds_self_of_lt (by omega), up_same]
  · rw [Array.getElem?_setIfInBounds_ne (by omega), up_ne _ _ e]
    exact c
theorem Tri.all {cs : Array Value} {n : Nat} {f g h : Nat → Int} (t : Tri cs n f g h) {k : Nat} (hk : k < n) (a b c : Int) : Tri (putC cs (k * 3) [.int .i64 a, .int .i64 b, .int .i64 c]) n (up f k a) (up g k b) (up h k c) := by
  have := ((t.set0 hk a).set1 hk b).set2 hk c
  exact this
theorem Tri.eq {cs : Array Value} {n : Nat} {f g h f' g' h' : Nat → Int} (t : Tri cs n f g h) (e1 : f = f') (e2 : g = g') (e3 : h = h') : Tri cs n f' g' h' := by subst e1 e2 e3; exact t
/-- The queues in memory. -/
structure FH (w : World) (g bn be N Q : Nat) (s : Fs) (cn ce : Array Value) : Prop where
  hd : Blk w g 146 #[.slice (some ⟨bn, 0, none⟩) N N, .slice (some ⟨be, 0, none⟩) Q Q]
  fbn : Blk w bn 148 cn
  fbe : Blk w be 151 ce
  tn : Tri cn N s.na s.nb s.nq
  te : Tri ce Q s.ef s.el s.en
  ne : g ≠ bn ∧ g ≠ be ∧ bn ≠ be
  lim : N ≤ 500 ∧ Q ≤ 400
theorem FH.ext {w w' : World} {g bn be N Q : Nat} {s : Fs} {cn ce : Array Value} (h : FH w g bn be N Q s cn ce) (hb : Below w.heap.size w w') : FH w' g bn be N Q s cn ce := ⟨h.hd.ext hb, h.fbn.ext hb, h.fbe.ext hb, h.tn, h.te, h.ne, h.lim⟩
section
variable {w : World} {g bn be N Q : Nat} {s : Fs} {cn ce : Array Value}
theorem FH.h (f : FH w g bn be N Q s cn ce) : w.cell? ⟨g, 0, none⟩ = some (.slice (some ⟨bn, 0, none⟩) N N) ∧ w.cell? ⟨g, 1, none⟩ = some (.slice (some ⟨be, 0, none⟩) Q Q) := ⟨f.hd.cell 0, f.hd.cell 1⟩
theorem FH.n (f : FH w g bn be N Q s cn ce) {k : Nat} (hk : k < N) : w.cell? ⟨bn, k * 3, none⟩ = some (.int .i64 (s.na k)) ∧ w.cell? ⟨bn, k * 3 + 1, none⟩ = some (.int .i64 (s.nb k)) ∧ w.cell? ⟨bn, k * 3 + 2, none⟩ = some (.int .i64 (s.nq k)) := by
  rw [f.fbn.cell, f.fbn.cell, f.fbn.cell]
  exact f.tn.2 k hk
theorem FH.e (f : FH w g bn be N Q s cn ce) {k : Nat} (hk : k < Q) : w.cell? ⟨be, k * 3, none⟩ = some (.int .i64 (s.ef k)) ∧ w.cell? ⟨be, k * 3 + 1, none⟩ = some (.int .i64 (s.el k)) ∧ w.cell? ⟨be, k * 3 + 2, none⟩ = some (.int .i64 (s.en k)) := by
  rw [f.fbe.cell, f.fbe.cell, f.fbe.cell]
  exact f.te.2 k hk
theorem queue_yes (f : Blk w g 146 #[.slice (some ⟨bn, 0, none⟩) N N, .slice (some ⟨be, 0, none⟩) Q Q]) (hl : N ≤ 500 ∧ Q ≤ 400) (i : Nat) (hi : i < Q) :
    Calls Tryz.prog 76 #[.pointer (some ⟨g, 0, none⟩), .int .i64 i] w fun e w' => e = .returned (.pointer (some ⟨be, i * 3, none⟩)) ∧ w = w' := by
  have c0 := f.cell 0
  have c1 := f.cell 1
  simp only [List.getElem?_toArray, List.getElem?_cons_zero, List.getElem?_cons_succ] at c0 c1
  clear f
  have e1 : (i : Int) < (Q : Int) := by omega
  go_enter Tryz.func76, Tryz.ntmps76
  go_wp2_with fail
  go_ret
  exact ⟨rfl, rfl⟩
theorem queue_no (f : Blk w g 146 #[.slice (some ⟨bn, 0, none⟩) N N, .slice (some ⟨be, 0, none⟩) Q Q]) (hl : N ≤ 500 ∧ Q ≤ 400) (i : Int) (hi : i < 0 ∨ (Q : Int) ≤ i) :
    Calls Tryz.prog 76 #[.pointer (some ⟨g, 0, none⟩), .int .i64 i] w fun e w' => e = .returned (.pointer none) ∧ w = w' := by
  have c0 := f.cell 0
  have c1 := f.cell 1
  simp only [List.getElem?_toArray, List.getElem?_cons_zero, List.getElem?_cons_succ] at c0 c1
  clear f
  by_cases h0 : i < 0
  · clear hi
    go_enter Tryz.func76, Tryz.ntmps76
    go_wp2_with fail
    go_ret
    exact ⟨rfl, rfl⟩
  · have h1 : (Q : Int) ≤ i := by omega
    clear hi
    go_enter Tryz.func76, Tryz.ntmps76
    go_wp2_with fail
    go_ret
    exact ⟨rfl, rfl⟩
theorem node_yes (f : Blk w g 146 #[.slice (some ⟨bn, 0, none⟩) N N, .slice (some ⟨be, 0, none⟩) Q Q]) (hl : N ≤ 500 ∧ Q ≤ 400) (i : Nat) (hi : i < N) :
    Calls Tryz.prog 77 #[.pointer (some ⟨g, 0, none⟩), .int .i64 i] w fun e w' => e = .returned (.pointer (some ⟨bn, i * 3, none⟩)) ∧ w = w' := by
  have c0 := f.cell 0
  have c1 := f.cell 1
  simp only [List.getElem?_toArray, List.getElem?_cons_zero, List.getElem?_cons_succ] at c0 c1
  clear f
  have e1 : (i : Int) < (N : Int) := by omega
  go_enter Tryz.func77, Tryz.ntmps77
  go_wp2_with fail
  go_ret
  exact ⟨rfl, rfl⟩
theorem node_no (f : Blk w g 146 #[.slice (some ⟨bn, 0, none⟩) N N, .slice (some ⟨be, 0, none⟩) Q Q]) (hl : N ≤ 500 ∧ Q ≤ 400) (i : Int) (hi : i < 0 ∨ (N : Int) ≤ i) :
    Calls Tryz.prog 77 #[.pointer (some ⟨g, 0, none⟩), .int .i64 i] w fun e w' => e = .returned (.pointer none) ∧ w = w' := by
  have c0 := f.cell 0
  have c1 := f.cell 1
  simp only [List.getElem?_toArray, List.getElem?_cons_zero, List.getElem?_cons_succ] at c0 c1
  clear f
  by_cases h0 : i < 0
  · clear hi
    go_enter Tryz.func77, Tryz.ntmps77
    go_wp2_with fail
    go_ret
    exact ⟨rfl, rfl⟩
  · have h1 : (N : Int) ≤ i := by omega
    clear hi
    go_enter Tryz.func77, Tryz.ntmps77
    go_wp2_with fail
    go_ret
    exact ⟨rfl, rfl⟩
end
theorem queue_nil (i : Int) (w : World) : Calls Tryz.prog 76 #[.pointer none, .int .i64 i] w fun e w' => e = .returned (.pointer none) ∧ w = w' := by
  go_enter Tryz.func76, Tryz.ntmps76
  go_wp2_with fail
  go_ret
  exact ⟨rfl, rfl⟩
theorem node_nil (i : Int) (w : World) : Calls Tryz.prog 77 #[.pointer none, .int .i64 i] w fun e w' => e = .returned (.pointer none) ∧ w = w' := by
  go_enter Tryz.func77, Tryz.ntmps77
  go_wp2_with fail
  go_ret
  exact ⟨rfl, rfl⟩
theorem loose_any (w : World) : Calls Tryz.prog 68 #[] w fun e w' => e = .returned (.agg #[.int .i64 (-1), .int .i64 (-1), .int .i64 (-1)]) ∧ Below w.heap.size w w' := by
  go_enter Tryz.func68, Tryz.ntmps68
  go_wp2_with fail
  refine bodyPost_ret (v := .agg #[.int .i64 (-1), .int .i64 (-1), .int .i64 (-1)]) (by simp [results, Tryz.results68, go_sem]; first | done | rfl | exact ⟨rfl, rfl⟩) rfl ⟨rfl, by (repeat (first | with_reducible exact Below.refl _ _ | (with_reducible assumption) | (with_reducible refine below_alloc ?_ _) | (with_reducible refine below_ext (w1 := ?_) ?_ ?_; rotate_left 2; (with_reducible assumption)) | (with_reducible refine Below.setCell ?_ ?_ _; rotate_left; ((try simp) <;> omega)) | (with_reducible refine Below.drew ?_) | (with_reducible refine below_drewN ?_ _) | fail))⟩
theorem empty_any (w : World) : Calls Tryz.prog 69 #[] w fun e w' => e = .returned (.agg #[.int .i64 (-1), .int .i64 (-1), .int .i64 0]) ∧ Below w.heap.size w w' := by
  go_enter Tryz.func69, Tryz.ntmps69
  go_wp2_with fail
  refine bodyPost_ret (v := .agg #[.int .i64 (-1), .int .i64 (-1), .int .i64 0]) (by simp [results, Tryz.results69, go_sem]; first | done | rfl | exact ⟨rfl, rfl⟩) rfl ⟨rfl, by (repeat (first | with_reducible exact Below.refl _ _ | (with_reducible assumption) | (with_reducible refine below_alloc ?_ _) | (with_reducible refine below_ext (w1 := ?_) ?_ ?_; rotate_left 2; (with_reducible assumption)) | (with_reducible refine Below.setCell ?_ ?_ _; rotate_left; ((try simp) <;> omega)) | (with_reducible refine Below.drew ?_) | (with_reducible refine below_drewN ?_ _) | fail))⟩
theorem guardLink : Tryz.prog.eqGuardType Tryz.prog.depth 148 = false := by kernel_rfl
theorem eqLink (a b c a' b' c' : Int) (w : World) : (Op.equalIn 10000 148 (.agg #[.int .i64 a, .int .i64 b, .int .i64 c]) (.agg #[.int .i64 a', .int .i64 b', .int .i64 c'])).run Tryz.prog w = .ok (a == a' && (b == b' && c == c')) w := by
  have u3 := Tryz.underlying3
  have a3 := Tryz.isAgg3
  have z3 := Tryz.sizeOf3
  have hS : Tryz.prog.underlying 148 = some (.struct (Tryz.prog.fieldsOf 148)) := by kernel_rfl
  have hp : Tryz.prog.stoodInHeld 148 = false := by kernel_rfl
  rw [show (10000 : Nat) = 9999 + 1 from rfl, run_equalIn_agg w 9999 148 _ _ hS hp]
  simp only [Program.fieldsOf, Tryz.underlying148]
  go_simp
  by_cases h1 : a = a'
  · by_cases h2 : b = b'
    · by_cases h3 : c = c' <;> simp [h1, h2, h3]
    · simp [h1, h2]
  · simp [h1]
theorem guardEnds : Tryz.prog.eqGuardType Tryz.prog.depth 151 = false := by kernel_rfl
theorem eqEnds (a b c a' b' c' : Int) (w : World) : (Op.equalIn 10000 151 (.agg #[.int .i64 a, .int .i64 b, .int .i64 c]) (.agg #[.int .i64 a', .int .i64 b', .int .i64 c'])).run Tryz.prog w = .ok (a == a' && (b == b' && c == c')) w := by
  have u3 := Tryz.underlying3
  have a3 := Tryz.isAgg3
  have z3 := Tryz.sizeOf3
  have hS : Tryz.prog.underlying 151 = some (.struct (Tryz.prog.fieldsOf 151)) := by kernel_rfl
  have hp : Tryz.prog.stoodInHeld 151 = false := by kernel_rfl
  rw [show (10000 : Nat) = 9999 + 1 from rfl, run_equalIn_agg w 9999 151 _ _ hS hp]
  simp only [Program.fieldsOf, Tryz.underlying151]
  go_simp
  by_cases h1 : a = a'
  · by_cases h2 : b = b'
    · by_cases h3 : c = c' <;> simp [h1, h2, h3]
    · simp [h1, h2]
  · simp [h1]

section
variable {P : Program} {ops : Array Oper} {C : World → Prop} {Q : Act → Prop} {a : Act} {o : Oper} {rest : List Oper}
theorem q_eqs (hgd : Region.wanted o (yielded ops a.tmps) = true) (T : TypeId) (x y : Operand) (u : TypeId) (ho : o.op = .binOp .eql T x y u) (hG : P.eqGuardType P.depth T = false) (xs ys : Array Value) (b : Bool)
    (hx : a.eval x = .agg xs) (hy : a.eval y = .agg ys) (hE : ∀ w, (Op.equalIn 10000 T (.agg xs) (.agg ys)).run P w = .ok b w) (h : wpQuiet P ops C Q rest (a.put o.dst (.bool b))) : wpQuiet P ops C Q (o :: rest) a :=
  q_step hgd _ (fun w _ => by
    unfold Oper.quietAt execOp
    simp only [ho, hx, hy, Sem.run_bind, run_eqGuard_agg _ _ _ _ _ _ _ hG, Result.andThen_ok, run_eql_struct, hE]
    exact ⟨rfl, rfl⟩) h
theorem q_nes (hgd : Region.wanted o (yielded ops a.tmps) = true) (T : TypeId) (x y : Operand) (u : TypeId) (ho : o.op = .binOp .neq T x y u) (hG : P.eqGuardType P.depth T = false) (xs ys : Array Value) (b : Bool)
    (hx : a.eval x = .agg xs) (hy : a.eval y = .agg ys) (hE : ∀ w, (Op.equalIn 10000 T (.agg xs) (.agg ys)).run P w = .ok b w) (h : wpQuiet P ops C Q rest (a.put o.dst (.bool (!b)))) : wpQuiet P ops C Q (o :: rest) a :=
  q_step hgd _ (fun w _ => by
    unfold Oper.quietAt execOp
    simp only [ho, hx, hy, Sem.run_bind, run_eqGuard_agg _ _ _ _ _ _ _ hG, Result.andThen_ok, run_neq_struct, hE]
    exact ⟨rfl, rfl⟩) h
end

/-! ### what is asked -/
section
variable {w : World} {g bn be N Q : Nat} {s : Fs} {cn ce : Array Value}
theorem FH.re (f : FH w g bn be N Q s cn ce) {k : Nat} (hk : k < Q) : w.rangeAt be (k * 3) [.int .i64 (s.ef k), .int .i64 (s.el k), .int .i64 (s.en k)] := fun j v hv => by
  obtain ⟨a, b, c⟩ := f.e hk
  match j with
  | 0 => simp at hv; subst hv; exact a
  | 1 => simp at hv; subst hv; exact b
  | 2 => simp at hv; subst hv; exact c
  | j + 3 => simp at hv
theorem FH.rn (f : FH w g bn be N Q s cn ce) {k : Nat} (hk : k < N) : w.rangeAt bn (k * 3) [.int .i64 (s.na k), .int .i64 (s.nb k), .int .i64 (s.nq k)] := fun j v hv => by
  obtain ⟨a, b, c⟩ := f.n hk
  match j with
  | 0 => simp at hv; subst hv; exact a
  | 1 => simp at hv; subst hv; exact b
  | 2 => simp at hv; subst hv; exact c
  | j + 3 => simp at hv
end
/-! ### Push -/
section
variable {w : World} {g bn be N Q : Nat} {s : Fs} {cn ce : Array Value} {L : Nat → List Nat}
theorem rfl3 (a b c : Value) : (#[a, b, c] : Array Value).size = 3 := rfl
theorem push_first (f : FH w g bn be N Q s cn ce) (I : Inv N Q s L) (i n : Nat) (hi : i < Q) (hn : n < N) (hl : ∀ j, j < Q → n ∉ L j) (hL : L i = []) (hlen : (L i).length ≤ 500) : Calls Tryz.prog 51 #[.pointer (some ⟨g, 0, none⟩), .int .i64 i, .int .i64 n] w fun e w' => e = .returned (.bool true) ∧ (∃ cn' ce', FH w' g bn be N Q (pushS s L i n) cn' ce') ∧ ButL [bn, be] w.heap.size w w' := by
  obtain ⟨l1, l2, l3⟩ := I.loose n hn hl
  have hmid := f.rn hn
  rw [l1, l2, l3] at hmid
  have hel : s.el i = (-1) := by rw [I.el i hi, hL]; rfl
  have hen : s.en i = ((L i).length : Int) := I.en i hi
  obtain ⟨_, e1, e2⟩ := f.e hi
  rw [hel] at e1
  rw [hen] at e2
  have hce := f.te.1
  have hcn := f.tn.1
  have hlim := f.lim
  have hne := f.ne
  have hhd := f.hd
  have hlt := f.hd.lt
  have hltn := f.fbn.lt
  have hlte := f.fbe.lt
  have hni : i * 3 + 2 < ce.size := by omega
  have hnn : n * 3 + 2 < cn.size := by omega
  have HL := Lib.hid hL
  have HE := Lib.hid hel
  have HN := Lib.hid hen
  clear hL hel hen l1 l2 l3 hl I
  have hbn := f.fbn
  have hbe := f.fbe
  go_enter Tryz.func51, Tryz.ntmps51
  go_wp2_with (first | (go_at_call 76; refine (queue_yes f.hd f.lim i hi).mono ?_; rintro e w' ⟨rfl, rfl⟩) | (go_at_call 77; refine (node_yes f.hd f.lim n hn).mono ?_; rintro e w' ⟨rfl, rfl⟩) | fail)
  refine wp_region_below_lit (by kernel_rfl) (by kernel_rfl) ?_
  repeat (first | go_big_quiet_skip | (go_big_quiet_want; go_big_quiet_op; go_big_quiet_on) | (refine q_load_mid (by rfl) _ _ (by rfl) (fun _ h => h) _ _ (by rfl) _ _ hmid Tryz.underlying148 rfl (by kernel_rfl) ?_; (try simp only [Act.put, List.setIfInBounds_toArray, List.set_cons_zero, List.set_cons_succ])) | (refine q_nes (by rfl) _ _ _ _ (by rfl) guardLink _ _ _ (by rfl) (by rfl) (fun w => eqLink _ _ _ _ _ _ w) ?_; (try simp only [Act.put, List.setIfInBounds_toArray, List.set_cons_zero, List.set_cons_succ])) | (refine q_load_fld (by rfl) _ _ (by rfl) (fun _ h => h) _ _ (by rfl) ?_ ?_ ?_ ?_ ?_ ?_; rotate_left; (next => (repeat (first | (with_reducible refine BlkAt.new _ _ _ _ ?_; ((try simp) <;> omega)) | (with_reducible assumption) | (with_reducible refine Blk.at (t := ?_) ?_; rotate_left; with_reducible assumption) | with_reducible refine BlkAt.alloc ?_ _ | with_reducible refine BlkAt.drew ?_ | (with_reducible refine BlkAt.setSame ?_ _ _) | (with_reducible refine BlkAt.setCell ?_ ?_ _; rotate_left; ((try simp) <;> omega)) | (with_reducible refine BlkAt.ext (w := ?_) ?_ ?_; rotate_left 2; (with_reducible assumption)) | fail))); rotate_left; (next => first | (simp only [go_sem]; rfl) | rfl); (next => kernel_rfl); (try simp only [Act.put, List.setIfInBounds_toArray, List.set_cons_zero, List.set_cons_succ])) | (refine q_rem (by rfl) _ _ _ _ (by rfl) _ _ (by rfl) (by rfl) (by kernel_rfl) (by kernel_rfl) ?_ ?_; (next => omega); (try simp only [Act.put, List.setIfInBounds_toArray, List.set_cons_zero, List.set_cons_succ])) | (refine q_step_ex (by rfl) ?_; apply Exists.intro; refine ⟨fun W hW => ?_, ?_⟩; (next => (have hWc := fun (b o : Nat) (h : b < _) => (Ext.out hW).cell (p := ⟨b, o, none⟩) h); (try have hLK := HLK.out W (Ext.out hW)); go_simp; first | rfl | (go_at_call 68; refine (loose_any _).mono ?_; rintro e w'' ⟨rfl, hb3⟩; exact ⟨rfl, below_ext hW hb3⟩) | fail); (try simp only [Act.put, List.setIfInBounds_toArray, List.set_cons_zero, List.set_cons_succ])) | fail)
  refine wpQuiet_nil ?_
  intro wq hbq
  have hbnq := hbn.ext hbq
  have hbeq := hbe.ext hbq
  have hhdq := hhd.ext hbq
  have d1 : wq.cell? ⟨be, i * 3 + 1, none⟩ = some (.int .i64 (-1)) := (hbq.cell (p := ⟨be, i * 3 + 1, none⟩) hlte).trans e1
  have d2 : wq.cell? ⟨be, i * 3 + 2, none⟩ = some (.int .i64 ((L i).length : Int)) := (hbq.cell (p := ⟨be, i * 3 + 2, none⟩) hlte).trans e2
  go_wp2_with (first | (((with_reducible show wpList _ _ _ (⟨_, .store _ _ _, _, _, _, _⟩ :: _) _ _); refine wpList_store_put (by rfl) _ _ _ (by rfl) _ _ _ (by rfl) (by rfl) _ _ hbnq ?_ ?_ ?_ ?_; (next => kernel_rfl); (next => rw [rfl3]; omega); (next => first | exact slotArr_one _ _ | exact ordArr_one _ | (simp [Value.oneCell']; done)); intro w2 hbn2 hU2); replace hbn2 : Blk w2 bn 148 (putC cn (n * 3) [.int .i64 (-1), .int .i64 (-1), .int .i64 i]) := hbn2; have hbe2 := hbeq.upd (Ne.symm hne.2.2) hU2; have hhd2 := hhdq.upd hne.1 hU2; have f1 : w2.cell? ⟨be, i * 3 + 1, none⟩ = some (.int .i64 (-1)) := (World.cell?_of_block (a := ⟨be, i * 3 + 1, none⟩) (hU2.block be (Ne.symm hne.2.2))).trans d1; have f2 : w2.cell? ⟨be, i * 3 + 2, none⟩ = some (.int .i64 ((L i).length : Int)) := (World.cell?_of_block (a := ⟨be, i * 3 + 2, none⟩) (hU2.block be (Ne.symm hne.2.2))).trans d2) | fail)
  refine (node_no hhd2 hlim (-1) (.inl (by decide))).mono ?_
  rintro e w' ⟨rfl, rfl⟩
  have t1 := (f.te.set0 hi n).set1 hi n
  have z1 := ((t1.2 i hi).2.2).trans (by rw [HN.out] : _ = some (Value.int .i64 ((L i).length : Int)))
  have hs1 := t1.1
  go_wp2_with (first | (((with_reducible show wpList _ _ _ (⟨_, .store _ _ _, _, _, _, _⟩ :: _) _ _); refine wpList_store_fld (by rfl) _ _ _ (by rfl) _ _ (by rfl) _ (by rfl) _ _ hbe2 ?_ ?_ (by rfl) (by rfl) ?_; (next => first | omega | ((try simp) <;> omega)); (next => kernel_rfl); intro w3 hbe3 hU3); replace hbe3 : Blk w3 be 151 (ce.setIfInBounds (i * 3) (.int .i64 n)) := hbe3; have hb3 := (f.te.set0 hi (n : Int)).1) | (((with_reducible show wpList _ _ _ (⟨_, .store _ _ _, _, _, _, _⟩ :: _) _ _); refine wpList_store_fld (by rfl) _ _ _ (by rfl) _ _ (by rfl) _ (by rfl) _ _ hbe3 ?_ ?_ (by rfl) (by rfl) ?_; (next => first | omega | ((try simp) <;> omega)); (next => kernel_rfl); intro w4 hbe4 hU4); replace hbe4 : Blk w4 be 151 ((ce.setIfInBounds (i * 3) (.int .i64 n)).setIfInBounds (i * 3 + 1) (.int .i64 n)) := hbe4; have f4 : w4.cell? ⟨be, i * 3 + 2, none⟩ = some (.int .i64 ((L i).length : Int)) := (hbe4.cell _).trans z1) | ((with_reducible show wpList _ _ _ (⟨_, .store _ _ _, _, _, _, _⟩ :: _) _ _); refine wpList_store_fld (by rfl) _ _ _ (by rfl) _ _ (by rfl) _ (by rfl) _ _ hbe4 ?_ ?_ (by rfl) (by rfl) ?_; (next => first | omega | ((try simp) <;> omega)); (next => kernel_rfl); intro w5 hbe5 hU5) | fail)
  go_ret
  have hbn5 := ((hbn2.upd hne.2.2 hU3).upd hne.2.2 hU4).upd hne.2.2 hU5
  have hhd5 := ((hhd2.upd hne.2.1 hU3).upd hne.2.1 hU4).upd hne.2.1 hU5
  have hz := hbq.size
  have hL := HL.out
  refine ⟨rfl, ⟨_, _, ⟨hhd5, hbn5, hbe5, (f.tn.all hn (-1) (-1) i).eq ?_ ?_ ?_, (t1.set2 hi (((L i).length : Int) + 1)).eq ?_ ?_ ?_, hne, hlim⟩⟩, ((((ButL.of_below hbq).upd (by simp) hU2).upd (by simp) hU3).upd (by simp) hU4).upd (by simp) hU5⟩
  · simp [pushS, hL, la_nil]
  · simp [pushS, hL]
  · simp [pushS]
  · simp [pushS, hL]
  · simp [pushS]
  · simp [pushS, HN.out]
theorem push_more (f : FH w g bn be N Q s cn ce) (I : Inv N Q s L) (i n : Nat) (hi : i < Q) (hn : n < N) (hl : ∀ j, j < Q → n ∉ L j) (p : Nat) (l0 : List Nat) (hL : L i = l0 ++ [p]) (hlen : (L i).length ≤ 500) : Calls Tryz.prog 51 #[.pointer (some ⟨g, 0, none⟩), .int .i64 i, .int .i64 n] w fun e w' => e = .returned (.bool true) ∧ (∃ cn' ce', FH w' g bn be N Q (pushS s L i n) cn' ce') ∧ ButL [bn, be] w.heap.size w w' := by
  obtain ⟨l1, l2, l3⟩ := I.loose n hn hl
  have hmid := f.rn hn
  rw [l1, l2, l3] at hmid
  have hel : s.el i = p := by rw [I.el i hi, hL]; exact la_snoc _ _
  have hen : s.en i = ((L i).length : Int) := I.en i hi
  have hp : p < N := I.lt i hi p (by rw [hL]; simp)
  obtain ⟨_, e1, e2⟩ := f.e hi
  rw [hel] at e1
  rw [hen] at e2
  have hce := f.te.1
  have hcn := f.tn.1
  have hlim := f.lim
  have hne := f.ne
  have hhd := f.hd
  have hlt := f.hd.lt
  have hltn := f.fbn.lt
  have hlte := f.fbe.lt
  have hni : i * 3 + 2 < ce.size := by omega
  have hnn : n * 3 + 2 < cn.size := by omega
  have hnp : p * 3 + 2 < cn.size := by omega
  have HL := Lib.hid hL
  have HE := Lib.hid hel
  have HN := Lib.hid hen
  clear hL hel hen l1 l2 l3 hl I
  have hbn := f.fbn
  have hbe := f.fbe
  go_enter Tryz.func51, Tryz.ntmps51
  go_wp2_with (first | (go_at_call 76; refine (queue_yes f.hd f.lim i hi).mono ?_; rintro e w' ⟨rfl, rfl⟩) | (go_at_call 77; refine (node_yes f.hd f.lim n hn).mono ?_; rintro e w' ⟨rfl, rfl⟩) | fail)
  refine wp_region_below_lit (by kernel_rfl) (by kernel_rfl) ?_
  repeat (first | go_big_quiet_skip | (go_big_quiet_want; go_big_quiet_op; go_big_quiet_on) | (refine q_load_mid (by rfl) _ _ (by rfl) (fun _ h => h) _ _ (by rfl) _ _ hmid Tryz.underlying148 rfl (by kernel_rfl) ?_; (try simp only [Act.put, List.setIfInBounds_toArray, List.set_cons_zero, List.set_cons_succ])) | (refine q_nes (by rfl) _ _ _ _ (by rfl) guardLink _ _ _ (by rfl) (by rfl) (fun w => eqLink _ _ _ _ _ _ w) ?_; (try simp only [Act.put, List.setIfInBounds_toArray, List.set_cons_zero, List.set_cons_succ])) | (refine q_load_fld (by rfl) _ _ (by rfl) (fun _ h => h) _ _ (by rfl) ?_ ?_ ?_ ?_ ?_ ?_; rotate_left; (next => (repeat (first | (with_reducible refine BlkAt.new _ _ _ _ ?_; ((try simp) <;> omega)) | (with_reducible assumption) | (with_reducible refine Blk.at (t := ?_) ?_; rotate_left; with_reducible assumption) | with_reducible refine BlkAt.alloc ?_ _ | with_reducible refine BlkAt.drew ?_ | (with_reducible refine BlkAt.setSame ?_ _ _) | (with_reducible refine BlkAt.setCell ?_ ?_ _; rotate_left; ((try simp) <;> omega)) | (with_reducible refine BlkAt.ext (w := ?_) ?_ ?_; rotate_left 2; (with_reducible assumption)) | fail))); rotate_left; (next => first | (simp only [go_sem]; rfl) | rfl); (next => kernel_rfl); (try simp only [Act.put, List.setIfInBounds_toArray, List.set_cons_zero, List.set_cons_succ])) | (refine q_rem (by rfl) _ _ _ _ (by rfl) _ _ (by rfl) (by rfl) (by kernel_rfl) (by kernel_rfl) ?_ ?_; (next => omega); (try simp only [Act.put, List.setIfInBounds_toArray, List.set_cons_zero, List.set_cons_succ])) | (refine q_step_ex (by rfl) ?_; apply Exists.intro; refine ⟨fun W hW => ?_, ?_⟩; (next => (have hWc := fun (b o : Nat) (h : b < _) => (Ext.out hW).cell (p := ⟨b, o, none⟩) h); (try have hLK := HLK.out W (Ext.out hW)); go_simp; first | rfl | (go_at_call 68; refine (loose_any _).mono ?_; rintro e w'' ⟨rfl, hb3⟩; exact ⟨rfl, below_ext hW hb3⟩) | fail); (try simp only [Act.put, List.setIfInBounds_toArray, List.set_cons_zero, List.set_cons_succ])) | fail)
  refine wpQuiet_nil ?_
  intro wq hbq
  have hbnq := hbn.ext hbq
  have hbeq := hbe.ext hbq
  have hhdq := hhd.ext hbq
  have d1 : wq.cell? ⟨be, i * 3 + 1, none⟩ = some (.int .i64 p) := (hbq.cell (p := ⟨be, i * 3 + 1, none⟩) hlte).trans e1
  have d2 : wq.cell? ⟨be, i * 3 + 2, none⟩ = some (.int .i64 ((L i).length : Int)) := (hbq.cell (p := ⟨be, i * 3 + 2, none⟩) hlte).trans e2
  go_wp2_with (first | (((with_reducible show wpList _ _ _ (⟨_, .store _ _ _, _, _, _, _⟩ :: _) _ _); refine wpList_store_put (by rfl) _ _ _ (by rfl) _ _ _ (by rfl) (by rfl) _ _ hbnq ?_ ?_ ?_ ?_; (next => kernel_rfl); (next => rw [rfl3]; omega); (next => first | exact slotArr_one _ _ | exact ordArr_one _ | (simp [Value.oneCell']; done)); intro w2 hbn2 hU2); replace hbn2 : Blk w2 bn 148 (putC cn (n * 3) [.int .i64 p, .int .i64 (-1), .int .i64 i]) := hbn2; have hbe2 := hbeq.upd (Ne.symm hne.2.2) hU2; have hhd2 := hhdq.upd hne.1 hU2; have f1 : w2.cell? ⟨be, i * 3 + 1, none⟩ = some (.int .i64 p) := (World.cell?_of_block (a := ⟨be, i * 3 + 1, none⟩) (hU2.block be (Ne.symm hne.2.2))).trans d1; have f2 : w2.cell? ⟨be, i * 3 + 2, none⟩ = some (.int .i64 ((L i).length : Int)) := (World.cell?_of_block (a := ⟨be, i * 3 + 2, none⟩) (hU2.block be (Ne.symm hne.2.2))).trans d2) | fail)
  refine (node_yes hhd2 hlim p hp).mono ?_
  rintro e w' ⟨rfl, rfl⟩
  have t1 := f.te.set1 hi n
  have z1 := ((t1.2 i hi).2.2).trans (by rw [HN.out] : _ = some (Value.int .i64 ((L i).length : Int)))
  have hs1 := t1.1
  have hs2 := (f.tn.all hn (p : Int) (-1) (i : Int)).1
  go_wp2_with (first | (((with_reducible show wpList _ _ _ (⟨_, .store _ _ _, _, _, _, _⟩ :: _) _ _); refine wpList_store_fld (by rfl) _ _ _ (by rfl) _ _ (by rfl) _ (by rfl) _ _ hbn2 ?_ ?_ (by rfl) (by rfl) ?_; (next => first | omega | ((try simp) <;> omega)); (next => kernel_rfl); intro w3 hbn3 hU3); replace hbn3 : Blk w3 bn 148 ((putC cn (n * 3) [.int .i64 p, .int .i64 (-1), .int .i64 i]).setIfInBounds (p * 3 + 1) (.int .i64 n)) := hbn3; have hbe3 := hbe2.upd (Ne.symm hne.2.2) hU3) | (((with_reducible show wpList _ _ _ (⟨_, .store _ _ _, _, _, _, _⟩ :: _) _ _); refine wpList_store_fld (by rfl) _ _ _ (by rfl) _ _ (by rfl) _ (by rfl) _ _ hbe3 ?_ ?_ (by rfl) (by rfl) ?_; (next => first | omega | ((try simp) <;> omega)); (next => kernel_rfl); intro w4 hbe4 hU4); replace hbe4 : Blk w4 be 151 (ce.setIfInBounds (i * 3 + 1) (.int .i64 n)) := hbe4; have f4 : w4.cell? ⟨be, i * 3 + 2, none⟩ = some (.int .i64 ((L i).length : Int)) := (hbe4.cell _).trans z1) | ((with_reducible show wpList _ _ _ (⟨_, .store _ _ _, _, _, _, _⟩ :: _) _ _); refine wpList_store_fld (by rfl) _ _ _ (by rfl) _ _ (by rfl) _ (by rfl) _ _ hbe4 ?_ ?_ (by rfl) (by rfl) ?_; (next => first | omega | ((try simp) <;> omega)); (next => kernel_rfl); intro w5 hbe5 hU5) | fail)
  go_ret
  have hbn5 := (hbn3.upd hne.2.2 hU4).upd hne.2.2 hU5
  have hhd5 := ((hhd2.upd hne.1 hU3).upd hne.2.1 hU4).upd hne.2.1 hU5
  have hz := hbq.size
  have hL := HL.out
  refine ⟨rfl, ⟨_, _, ⟨hhd5, hbn5, hbe5, ((f.tn.all hn p (-1) i).set1 hp n).eq ?_ ?_ ?_, (t1.set2 hi (((L i).length : Int) + 1)).eq ?_ ?_ ?_, hne, hlim⟩⟩, ((((ButL.of_below hbq).upd (by simp) hU2).upd (by simp) hU3).upd (by simp) hU4).upd (by simp) hU5⟩
  · simp [pushS, hL, la_snoc]
  · simp [pushS, hL, la_snoc]
  · simp [pushS]
  · simp [pushS, hL]
  · simp [pushS]
  · simp [pushS, HN.out]
/-- A node that is in no queue is pushed. -/
theorem push_yes (f : FH w g bn be N Q s cn ce) (I : Inv N Q s L) (i n : Nat) (hi : i < Q) (hn : n < N) (hl : ∀ j, j < Q → n ∉ L j) (hlen : (L i).length ≤ 500) : Calls Tryz.prog 51 #[.pointer (some ⟨g, 0, none⟩), .int .i64 i, .int .i64 n] w fun e w' => e = .returned (.bool true) ∧ (∃ cn' ce', FH w' g bn be N Q (pushS s L i n) cn' ce') ∧ ButL [bn, be] w.heap.size w w' := by
  by_cases e : L i = []
  · exact push_first f I i n hi hn hl e hlen
  · obtain ⟨l0, p, h⟩ := snoc_of e
    exact push_more f I i n hi hn hl p l0 h hlen
end
end Fif
end Go.Proofs.YtacpjpkhmdcagaaGreat
