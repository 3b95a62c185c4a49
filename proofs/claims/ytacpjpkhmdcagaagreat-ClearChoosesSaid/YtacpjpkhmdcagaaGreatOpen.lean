/- This text proves a law for a region whose order is open and whose end is open too: the operations ahead of number n are walked in the order of the text in every world of a class, whatever order they come in; from there on the rest stands as the walk of any order. It has no conditions but those that it states. -/
import Derived.Test.YtacpjpkhmdcagaaGreatQuiet
namespace Go.Proofs.YtacpjpkhmdcagaaGreat
set_option linter.unusedVariables false
open Go.RowKit
section
variable {P : Program} {ops : Array Oper} {md : Region.Mode} {C : World → Prop}
/-- For so many rounds only operations ahead of n are ready, whatever is picked. -/
def reachB (md : Region.Mode) (ops : Array Oper) (n : Nat) : Nat → Array Bool → Bool
  | 0, _ => true
  | f + 1, done => (Region.ready md ops done).all fun i => decide (i < n) && reachB md ops n f (done.setIfInBounds i true)
def lexR (md : Region.Mode) (ops : Array Oper) (D : Array Bool) : Nat → Nat → Array Bool → Bool
  | 0, _, done => decide (done = D)
  | f + 1, k, done => (Region.ready md ops done).contains k && (Region.free md ops done k && lexR md ops D f (k + 1) (done.setIfInBounds k true))
theorem reach_in {n f i : Nat} {done : Array Bool} (h : reachB md ops n (f + 1) done = true) (hi : i ∈ Region.ready md ops done) : i < n ∧ reachB md ops n f (done.setIfInBounds i true) = true := by
  unfold reachB at h
  have := List.all_eq_true.1 h i hi
  simpa using this
theorem headR_first {n i : Nat} {oi : Oper} {v : Value} {L : Array Bool → Act → Prop} (hi : ops[i]? = some oi) (hsel : Region.noSelect ops = true) (hdone : ∀ done a, L done a → ∀ j ∈ Region.ready md ops done, n ≤ j) :
    ∀ (f : Nat) (done : Array Bool) (a : Act), reachB md ops n (f + 1) done = true →
      (∀ j oj, ops[j]? = some oj → j ≠ i → done.getD j true = false → (∀ e ∈ oj.after, Region.binds md e = true → e.on ≠ i) → oi.apart ops oj = true) →
      i ∈ Region.ready md ops done → YieldsIn P ops C oi v a →
      headQ P md ops C n L f (done.setIfInBounds i true) (a.put oi.dst v) → headQ P md ops C n L (f + 1) done a := by
  have sel := Region.noSelect_spec hsel
  intro f
  induction f with
  | zero =>
    intro done a hR _ hr hy H
    refine ⟨fun h => (by rw [h] at hr; cases hr), fun j hj => ?_⟩
    have hjn := (reach_in hR hj).1
    refine ⟨hjn, ?_⟩
    by_cases hji : j = i
    · subst hji
      exact hy.qOp hi H
    · exact absurd (hdone _ _ H j (ready_mono hj hji)) (by omega)
  | succ f ih =>
    intro done a hR hfree hr hy H
    refine ⟨fun h => (by rw [h] at hr; cases hr), fun j hj => ?_⟩
    have hun := (mem_ready.1 hr).1
    obtain ⟨hjn, hR'⟩ := reach_in hR hj
    refine ⟨hjn, ?_⟩
    by_cases hji : j = i
    · subst hji
      exact hy.qOp hi H
    · obtain ⟨hju, oj, hoj, hall⟩ := mem_ready.1 hj
      have hno : ∀ e ∈ oj.after, Region.binds md e = true → e.on ≠ i := by
        rintro e he hb rfl
        have h1 := hall e he hb
        rw [getD_both hun] at h1
        cases h1
      have h2 := qOp_put hoj (hfree j oj hoj hji hju hno) (fun cs b => sel i oi cs b hi) (fun cs b => sel j oj cs b hoj) hy (H.2 j (ready_mono hj hji)).2
      refine qOp_mono (fun a' h3 => ih (done.setIfInBounds j true) a' hR' (fun k ok hk hki hu hw => hfree k ok hk hki ?_ hw) (ready_mono hr (Ne.symm hji)) h3.1 ?_) h2
      · by_cases hjk : j = k
        · subst hjk
          exact hju
        · rwa [getD_set_ne true hjk] at hu
      · rw [Array.setIfInBounds_comm _ _ hji]
        exact h3.2
theorem headR_lex {n : Nat} {D : Array Bool} {Lq : Act → Prop} (hsel : Region.noSelect ops = true) (hD : ∀ j ∈ Region.ready md ops D, n ≤ j) :
    ∀ (l : List Oper) (k : Nat) (done : Array Bool) (a : Act), (∀ j, j < l.length → l[j]? = ops[k + j]?) → reachB md ops n l.length done = true →
    lexR md ops D l.length k done = true → wpQuiet P ops C Lq l a → headQ P md ops C n (fun done' a' => done' = D ∧ Lq a') l.length done a
  | [], k, done, a, _, _, hB, h => ⟨by simpa [lexR] using hB, h⟩
  | o :: l, k, done, a, hl, hR, hB, h => by
    simp only [List.length_cons] at hR
    have h0 : ops[k]? = some o := by simpa using (hl 0 (by simp)).symm
    simp only [List.length_cons, lexR, Bool.and_eq_true] at hB
    have hr : k ∈ Region.ready md ops done := by simpa using hB.1
    have hq : qOp P ops C k (wpQuiet P ops C Lq l) a := by unfold qOp; simp only [h0]; exact h
    obtain ⟨v, hy, hK⟩ := yieldsIn_of_qOp h0 hq
    have rest := headR_lex hsel hD l (k + 1) (done.setIfInBounds k true) (a.put o.dst v) (fun j hj => by
      have := hl (j + 1) (by simp; omega)
      rw [show k + (j + 1) = k + 1 + j by omega] at this
      simpa using this) (reach_in hR hr).2 hB.2.2 hK
    exact headR_first h0 hsel (fun done' a' hL => hL.1 ▸ hD) l.length done a hR (Region.free_spec h0 hB.2.1) hr hy rest
/-- The region: its first n operations in every world of the class; the rest from D on. -/
theorem wp_region_open {id : Nat} {Q : Exit → Act → World → Prop} {a : Act} {w : World} {l : List Oper} (n : Nat) (D : Array Bool) (hm : P.follows .mixedOrders = true)
    (hB : (Region.noSelect l.toArray && (decide (n ≤ l.length) && (reachB .any l.toArray n n (Array.replicate l.toArray.size false) && (lexR .any l.toArray D n 0 (Array.replicate l.toArray.size false) && (Region.ready .any l.toArray D).all fun j => decide (n ≤ j))))) = true)
    (hC : C { w with drawn := w.drawn + 1 }) (h : wpQuiet P l.toArray C (fun a' => ∀ w', C w' → wpAny P .any l.toArray Q (l.length - n) D a' w') (l.take n) a) : (Code.region id l.toArray true).wp P Q a w := by
  simp only [Bool.and_eq_true, decide_eq_true_eq] at hB
  obtain ⟨hsel, hn, hR, hL, hD⟩ := hB
  have htl : (l.take n).length = n := by simp; omega
  have H := headR_lex (P := P) (C := C) (md := .any) (n := n) (D := D) hsel (fun j hj => by simpa using List.all_eq_true.1 hD j hj) (l.take n) 0 _ a (fun j hj => by
    rw [htl] at hj
    simp [hj]) (by rw [htl]; exact hR) (by rw [htl]; exact hL) h
  have K := headQ_wp (Q := Q) (g := l.length - n) (fun done a' w' hw' hL => by
    obtain ⟨rfl, h1⟩ := hL
    exact h1 w' hw') _ _ a _ hC H
  rw [htl, show n + (l.length - n) = l.toArray.size by simp; omega] at K
  exact wp_region_any hm K
end
/-- An operation that only takes a part of what is there: whatever the world. -/
theorem yields_extract {P : Program} {ops : Array Oper} {o : Oper} {a : Act} (x : Operand) (i : Nat) (ho : o.op = .extract x i) (vs : Array Value) (v : Value) (hw : Region.wanted o (yielded ops a.tmps) = true) (hx : a.eval x = .tuple vs) (hv : vs[i]? = some v) : Yields P ops o v a :=
  .inl ⟨hw, fun w => by
    unfold execOp
    simp only [ho, hx]
    simp [go_sem, hv]⟩
theorem op_at {P : Program} {ops : Array Oper} {Q : Exit → Act → World → Prop} {i : Nat} {o : Oper} {K : Act → World → Prop} {a : Act} {w : World} (hi : ops[i]? = some o) (hw : Region.wanted o (yielded ops a.tmps) = true) (h : o.wp P a w K Q) : wpOp P ops Q i K a w := by
  unfold wpOp
  simp only [hi, hw, if_true]
  exact .inl h
end Go.Proofs.YtacpjpkhmdcagaaGreat
