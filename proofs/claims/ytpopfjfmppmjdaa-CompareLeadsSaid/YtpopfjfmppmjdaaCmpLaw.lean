/- This text proves the plain law of two lists of messages: how much they have in common, and which edits lead from the one to the other one. It has no conditions of its own. -/
import Derived.Test.YtpopfjfmppmjdaaOwn
import Derived.Laws.StructEq
namespace Go.Proofs.Ytpopfjfmppmjdaa
set_option linter.unusedVariables false
open Go.RowKit
namespace Cmp
set_option maxHeartbeats 1000000
set_option maxRecDepth 10000
def eqM (x y : Msg) : Bool := x.kind == y.kind && (x.sym == y.sym && (x.seq == y.seq && (x.tick == y.tick && (x.id == y.id && (x.wth == y.wth && (x.price == y.price && (x.qty == y.qty && x.code == y.code)))))))
theorem eqM_iff (x y : Msg) : eqM x y = true ↔ x = y := by
  obtain ⟨a, b, c, d, e, f, g, h, i⟩ := x
  obtain ⟨a', b', c', d', e', f', g', h', i'⟩ := y
  simp [eqM]
theorem eqM_refl (x : Msg) : eqM x x = true := (eqM_iff x x).2 rfl
theorem guardMsg : Try.prog.eqGuardType Try.prog.depth 40 = false := by kernel_rfl
theorem eqMsg (x y : Msg) (w : World) : (Op.equalIn 10000 40 (.agg x.arr) (.agg y.arr)).run Try.prog w = .ok (eqM x y) w := by
  have u3 := Try.underlying3
  have a3 := Try.isAgg3
  have z3 := Try.sizeOf3
  have u2 := Try.underlying2
  have a2 := Try.isAgg2
  have z2 := Try.sizeOf2
  have hS : Try.prog.underlying 40 = some (.struct (Try.prog.fieldsOf 40)) := by kernel_rfl
  have hp : Try.prog.stoodInHeld 40 = false := by kernel_rfl
  obtain ⟨a, b, c, d, e, f, g, h, i⟩ := x
  obtain ⟨a', b', c', d', e', f', g', h', i'⟩ := y
  rw [show (10000 : Nat) = 9999 + 1 from rfl, run_equalIn_agg w 9999 40 _ _ hS hp]
  simp only [Program.fieldsOf, Try.underlying40]
  show _ = Result.ok (a == a' && (b == b' && (c == c' && (d == d' && (e == e' && (f == f' && (g == g' && (h == h' && i == i')))))))) w
  have hx : (Msg.arr ⟨a, b, c, d, e, f, g, h, i⟩) = #[.int .i64 a, .int .i64 b, .int .i64 c, .int .i64 d, .int .i64 e, .int .i64 f, .int .i64 g, .int .i64 h, .int .i64 i] := rfl
  have hy : (Msg.arr ⟨a', b', c', d', e', f', g', h', i'⟩) = #[.int .i64 a', .int .i64 b', .int .i64 c', .int .i64 d', .int .i64 e', .int .i64 f', .int .i64 g', .int .i64 h', .int .i64 i'] := rfl
  rw [hx, hy]
  go_simp
  by_cases h1 : a = a'
  · by_cases h2 : b = b'
    · by_cases h3 : c = c'
      · by_cases h4 : d = d'
        · by_cases h5 : e = e'
          · by_cases h6 : f = f'
            · by_cases h7 : g = g'
              · by_cases h8 : h = h'
                · by_cases h9 : i = i' <;> simp [h1, h2, h3, h4, h5, h6, h7, h8, h9]
                · simp [h1, h2, h3, h4, h5, h6, h7, h8]
              · simp [h1, h2, h3, h4, h5, h6, h7]
            · simp [h1, h2, h3, h4, h5, h6]
          · simp [h1, h2, h3, h4, h5]
        · simp [h1, h2, h3, h4]
      · simp [h1, h2, h3]
    · simp [h1, h2]
  · simp [h1]
section
variable {P : Program} {ops : Array Oper} {C : World → Prop} {Q : Act → Prop} {a : Act} {o : Oper} {rest : List Oper}
theorem q_eqm (hgd : Region.wanted o (yielded ops a.tmps) = true) (x y : Operand) (u : TypeId) (ho : o.op = .binOp .eql 40 x y u) (p q : Msg)
    (hx : a.eval x = .agg p.arr) (hy : a.eval y = .agg q.arr) (h : wpQuiet Try.prog ops C Q rest (a.put o.dst (.bool (eqM p q)))) : wpQuiet Try.prog ops C Q (o :: rest) a :=
  q_step hgd _ (fun w _ => by
    unfold Oper.quietAt execOp
    simp only [ho, hx, hy, Sem.run_bind, run_eqGuard_agg _ _ _ _ _ _ _ guardMsg, Result.andThen_ok, run_eql_struct, eqMsg]
    exact ⟨rfl, rfl⟩) h
theorem q_eqmv (hgd : Region.wanted o (yielded ops a.tmps) = true) (x y : Operand) (u : TypeId) (ho : o.op = .binOp .eql 40 x y u) (p q : Msg)
    (hx : a.eval x = .agg p.arr) (hy : a.eval y = .agg q.arr) (c : Bool) (hc : Hid (eqM p q = c)) (h : wpQuiet Try.prog ops C Q rest (a.put o.dst (.bool c))) : wpQuiet Try.prog ops C Q (o :: rest) a :=
  q_eqm hgd x y u ho p q hx hy (by rw [hc.out]; exact h)
end
/-! ### how much two lists have in common -/
def lcs : List Msg → List Msg → Nat
  | [], _ => 0
  | _ :: _, [] => 0
  | x :: a, y :: b => if eqM x y = true then lcs a b + 1 else max (lcs a (y :: b)) (lcs (x :: a) b)
termination_by a b => a.length + b.length
def T (a b : List Msg) (i k : Nat) : Nat := lcs (a.drop i) (b.drop k)
theorem T_end (a b : List Msg) (i k : Nat) (h : a.length ≤ i ∨ b.length ≤ k) : T a b i k = 0 := by
  unfold T
  rcases h with h | h
  · rw [List.drop_eq_nil_of_le h, lcs]
  · rw [List.drop_eq_nil_of_le h]
    cases a.drop i with
    | nil => rw [lcs]
    | cons x l => rw [lcs]
theorem T_step (a b : List Msg) (i k : Nat) (hi : i < a.length) (hk : k < b.length) : T a b i k = if eqM a[i] b[k] = true then T a b (i + 1) (k + 1) + 1 else max (T a b (i + 1) k) (T a b i (k + 1)) := by
  unfold T
  rw [List.drop_eq_getElem_cons hi, List.drop_eq_getElem_cons hk, lcs]
theorem lcs_le : ∀ (n : Nat) (a b : List Msg), a.length + b.length ≤ n → lcs a b ≤ a.length
  | n, [], b, _ => by rw [lcs]; exact Nat.zero_le _
  | n, x :: a, [], _ => by rw [lcs]; exact Nat.zero_le _
  | 0, x :: a, y :: b, h => by simp at h
  | n + 1, x :: a, y :: b, h => by
    simp at h
    rw [lcs]
    split
    · have := lcs_le n a b (by omega)
      simp
      omega
    · have h1 := lcs_le n a (y :: b) (by simp; omega)
      have h2 := lcs_le n (x :: a) b (by simp; omega)
      simp at h1 h2 ⊢
      omega
theorem T_le (a b : List Msg) (i k : Nat) : T a b i k ≤ a.length := by
  have := lcs_le _ (a.drop i) (b.drop k) (Nat.le_refl _)
  unfold T
  simp at this
  omega
/-! ### the edits -/
def eqAt (a b : List Msg) (i k : Nat) : Bool := match a[i]?, b[k]? with
  | some x, some y => eqM x y
  | _, _ => false
def opAt (a b : List Msg) (i k : Nat) : Nat := if eqAt a b i k = true then 0 else if k = b.length then 1 else if i < a.length ∧ T a b i (k + 1) ≤ T a b (i + 1) k then 1 else 2
def edAt (a b : List Msg) (i k : Nat) : Edt := ⟨opAt a b i k, i, k⟩
def ed (a b : List Msg) : Nat → Nat → Nat → List Edt
  | 0, _, _ => []
  | f + 1, i, k => if i = a.length ∧ k = b.length then [] else edAt a b i k :: ed a b f (if opAt a b i k = 2 then i else i + 1) (if opAt a b i k = 1 then k else k + 1)
def edits (a b : List Msg) : List Edt := ed a b (a.length + b.length) 0 0
theorem ed_end (a b : List Msg) (f : Nat) : ed a b f a.length b.length = [] := by
  cases f with
  | zero => rfl
  | succ f => simp [ed]
theorem ed_step (a b : List Msg) (f i k : Nat) (h : ¬ (i = a.length ∧ k = b.length)) : ed a b (f + 1) i k = edAt a b i k :: ed a b f (if opAt a b i k = 2 then i else i + 1) (if opAt a b i k = 1 then k else k + 1) := by
  rw [ed, if_neg h]
theorem opAt_lt (a b : List Msg) (i k : Nat) : opAt a b i k ≤ 2 := by
  unfold opAt
  split
  · omega
  · split
    · omega
    · split <;> omega
/-- What a step leaves within the lists. -/
theorem step_in (a b : List Msg) {i k : Nat} (hi : i ≤ a.length) (hk : k ≤ b.length) (h : ¬ (i = a.length ∧ k = b.length)) :
    (opAt a b i k = 0 ∧ i < a.length ∧ k < b.length) ∨ (opAt a b i k = 1 ∧ i < a.length) ∨ (opAt a b i k = 2 ∧ k < b.length) := by
  unfold opAt
  by_cases e : eqAt a b i k = true
  · rw [if_pos e]
    left
    unfold eqAt at e
    split at e
    · rename_i x y hx hy
      exact ⟨rfl, (List.getElem?_eq_some_iff.1 hx).1, (List.getElem?_eq_some_iff.1 hy).1⟩
    · cases e
  · rw [if_neg e]
    by_cases h1 : k = b.length
    · rw [if_pos h1]
      right; left
      exact ⟨rfl, by omega⟩
    · rw [if_neg h1]
      by_cases h2 : i < a.length ∧ T a b i (k + 1) ≤ T a b (i + 1) k
      · rw [if_pos h2]
        right; left
        exact ⟨rfl, h2.1⟩
      · rw [if_neg h2]
        right; right
        exact ⟨rfl, by omega⟩
end Cmp
end Go.Proofs.Ytpopfjfmppmjdaa
