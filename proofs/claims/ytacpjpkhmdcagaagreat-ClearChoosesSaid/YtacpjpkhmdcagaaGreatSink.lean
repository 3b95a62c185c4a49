/- This text proves laws for a region whose order is open and whose last operation waits for all others: a condition on the world is held behind every operation but that one. It has no conditions but those that it states. -/
import Derived.Test.YtacpjpkhmdcagaaGreatOwn
import Derived.OrdersHeld
namespace Go.Proofs.YtacpjpkhmdcagaaGreat
set_option linter.unusedVariables false
open Go.RowKit
section
variable {P : Program} {ops : Array Oper} {Q : Exit → Act → World → Prop} {md : Region.Mode} {S : World → Prop} {n : Nat}
/-- Whatever order is picked from here on, and S holds behind every operation but number n. -/
def wpAnyT (P : Program) (md : Region.Mode) (ops : Array Oper) (Q : Exit → Act → World → Prop) (S : World → Prop) (n : Nat) : Nat → Array Bool → Act → World → Prop
  | 0, listed, a, w => Region.ready md ops listed = [] ∧ Q .normal a w
  | fuel + 1, listed, a, w =>
    (Region.ready md ops listed = [] → Q .normal a w) ∧
    ∀ i ∈ Region.ready md ops listed, wpOp P ops Q i (fun a' w' => (i = n ∨ S w') ∧ wpAnyT P md ops Q S n fuel (listed.setIfInBounds i true) a' w') a w
theorem wpAny_of_T : ∀ (fuel : Nat) (listed : Array Bool) (a : Act) (w : World), wpAnyT P md ops Q S n fuel listed a w → wpAny P md ops Q fuel listed a w
  | 0, _, _, _, h => h
  | fuel + 1, _, _, _, h => ⟨h.1, fun i hi => wpOp_mono (fun a' w' h' => wpAny_of_T fuel _ a' w' h'.2) (h.2 i hi)⟩
/-- The list's entry, by steps that reduce to the entry itself. -/
def nth : List Oper → Nat → Option Oper
  | [], _ => none
  | x :: _, 0 => some x
  | _ :: l, n + 1 => nth l n
theorem nth_eq : ∀ (l : List Oper) (i : Nat), nth l i = l[i]?
  | [], _ => rfl
  | _ :: _, 0 => rfl
  | _ :: l, i + 1 => by simpa [nth] using nth_eq l i
theorem at_of_nth {ops : Array Oper} {i : Nat} {o : Oper} (h : nth ops.toList i = some o) : ops[i]? = some o := by
  rw [← Array.getElem?_toList, ← nth_eq]
  exact h
/-- Number n waits for number k. -/
def sinkAt (md : Region.Mode) (ops : Array Oper) (n k : Nat) : Bool := k == n || decide (ops.size ≤ n) || ((ops[n]?).map fun o => o.after.any fun e => Region.binds md e && e.on == k).getD false
theorem wpAnyT_first {i : Nat} {oi : Oper} {v : Value} (hi : ops[i]? = some oi) (hsk : sinkAt md ops n i = true) (hin : i ≠ n) (hsel : ∀ (j : Nat) (o : Oper) cs b, ops[j]? = some o → o.op ≠ .select cs b)
    (hQ : ∀ c a w, Q (.panic c) (a.put oi.dst v) w → Q (.panic c) a w) :
    ∀ (fuel : Nat) (listed : Array Bool) (a : Act) (w : World),
      (∀ j oj, ops[j]? = some oj → j ≠ i → listed.getD j true = false → (∀ e ∈ oj.after, Region.binds md e = true → e.on ≠ i) → oi.apart ops oj = true) →
      i ∈ Region.ready md ops listed → YieldsIf P ops S oi v a → S w →
      wpAnyT P md ops Q S n fuel (listed.setIfInBounds i true) (a.put oi.dst v) w → wpAnyT P md ops Q S n (fuel + 1) listed a w := by
  intro fuel
  induction fuel with
  | zero =>
    intro listed a w _ hr hy hS H
    refine ⟨fun h => (by rw [h] at hr; cases hr), fun j hj => ?_⟩
    by_cases hji : j = i
    · subst hji; exact hy.wpOp hi hS ⟨.inr hS, H⟩
    · have := ready_mono hj hji
      rw [H.1] at this
      cases this
  | succ fuel ih =>
    intro listed a w hfree hr hy hS H
    refine ⟨fun h => (by rw [h] at hr; cases hr), fun j hj => ?_⟩
    by_cases hji : j = i
    · subst hji; exact hy.wpOp hi hS ⟨.inr hS, H⟩
    · have h1 := H.2 j (ready_mono hj hji)
      obtain ⟨hjun, oj, hoj, hall⟩ := mem_ready.1 hj
      have hnot : ∀ e ∈ oj.after, Region.binds md e = true → e.on ≠ i := fun e he hb heq => by
        have h1 := hall e he hb
        have h0 := (mem_ready.1 hr).1
        rw [heq] at h1
        rcases Nat.lt_or_ge i listed.size with h' | h'
        · simp [h'] at h0 h1; rw [h0] at h1; cases h1
        · simp [Array.getElem?_eq_none h'] at h1
      have hjn : j ≠ n := fun e => by
        subst e
        have h2 := hsk
        simp only [sinkAt, hoj, Option.map_some, Option.getD_some, Bool.or_eq_true, beq_iff_eq, Array.any_eq_true, Bool.and_eq_true, decide_eq_true_eq] at h2
        rcases h2 with (h2 | h2) | ⟨x, hx, h2, h3⟩
        · exact hin h2
        · exact absurd (Array.getElem?_eq_some_iff.1 hoj).1 (by omega)
        · exact hnot _ (Array.getElem_mem hx) h2 h3
      have h2 := wpOp_putIf hoj (hfree j oj hoj hji hjun hnot) (fun cs b => hsel i oi cs b hi) (fun cs b => hsel j oj cs b hoj) hQ hy h1
      have hfree' : ∀ k ok, ops[k]? = some ok → k ≠ i → (listed.setIfInBounds j true).getD k true = false →
          (∀ e ∈ ok.after, Region.binds md e = true → e.on ≠ i) → oi.apart ops ok = true := fun k ok hk hki hun hno => by
        refine hfree k ok hk hki ?_ hno
        by_cases hjk : j = k
        · subst hjk; exact hjun
        · rw [getD_set_ne true hjk] at hun; exact hun
      refine wpOp_mono (fun a' w' h3 => ⟨h3.2.1, ih (listed.setIfInBounds j true) a' w' hfree' (ready_mono hr (Ne.symm hji)) h3.1 (h3.2.1.resolve_left hjn) ?_⟩) h2
      rw [Array.setIfInBounds_comm _ _ hji]
      exact h3.2.2
theorem T_take {i : Nat} {oi : Oper} {fuel : Nat} {listed : Array Bool} {a : Act} {w : World} (hn : nth ops.toList i = some oi) (hc : (sinkAt md ops n i && (i != n && (Region.noSelect ops && (Region.free md ops listed i && (Region.ready md ops listed).contains i)))) = true)
    (hQ : ∀ v c a w, Q (.panic c) (a.put oi.dst v) w → Q (.panic c) a w) (hS : S w)
    (h : ∃ v, YieldsIf P ops S oi v a ∧ wpAnyT P md ops Q S n fuel (listed.setIfInBounds i true) (a.put oi.dst v) w) : wpAnyT P md ops Q S n (fuel + 1) listed a w := by
  have hi := at_of_nth hn
  simp only [Bool.and_eq_true, bne_iff_ne] at hc
  obtain ⟨h1, h2, h3, h4, h5⟩ := hc
  obtain ⟨v, hy, h⟩ := h
  exact wpAnyT_first hi h1 h2 (Region.noSelect_spec h3) (hQ v) fuel listed a w (Region.free_spec hi h4) (by simpa using h5) hy hS h
theorem T_all (rs : List Nat) {fuel : Nat} {listed : Array Bool} {a : Act} {w : World} (hr : Region.ready md ops listed = rs) (hne : rs ≠ [])
    (h : ∀ i ∈ rs, wpOp P ops Q i (fun a' w' => (i = n ∨ S w') ∧ wpAnyT P md ops Q S n fuel (listed.setIfInBounds i true) a' w') a w) : wpAnyT P md ops Q S n (fuel + 1) listed a w :=
  ⟨fun h0 => absurd (hr ▸ h0) hne, hr ▸ h⟩
theorem T_done {listed : Array Bool} {a : Act} {w : World} (hr : Region.ready md ops listed = []) (h : Q .normal a w) : wpAnyT P md ops Q S n 0 listed a w := ⟨hr, h⟩
theorem T_op {i : Nat} {o : Oper} {K : Act → World → Prop} {a : Act} {w : World} (hn : nth ops.toList i = some o) (hw : Region.wanted o (yielded ops a.tmps) = true) (h : o.wp P a w K Q) : wpOp P ops Q i K a w := by
  have hi := at_of_nth hn
  unfold wpOp
  simp only [hi, hw, if_true]
  exact .inl h
theorem y_slice {o : Oper} {a : Act} {v : Value} (t : TypeId) (x : Operand) (lo hi mx : Option Operand) (ho : o.op = .slice t x lo hi mx) (hw : Region.wanted o (yielded ops a.tmps) = true)
    (h : ∀ w, S w → (Instr.sliceAt t (a.eval x) (lo.map a.eval) (hi.map a.eval) (mx.map a.eval)).run P w = .ok v w) : YieldsIf P ops S o v a :=
  .inl ⟨hw, fun w hS => by
    unfold execOp
    simp only [ho, Sem.run_bind, Sem.run_pure, h w hS, Result.andThen_ok]⟩
theorem wp_region_T {id : Nat} {a : Act} {w : World} (n : Nat) (hm : P.follows .mixedOrders = true)
    (h : wpAnyT P .any ops Q S n ops.size (Array.replicate ops.size false) a w.drew) : (Code.region id ops true).wp P Q a w :=
  wp_region_any hm (wpAny_of_T _ _ _ _ h)

/-! ### the operations, one by one -/
theorem wp_build0 {o : Oper} {a : Act} {w : World} {K : Act → World → Prop} (t e : TypeId) (ho : o.op = .buildSlice t 0 #[]) (size : Nat) (hu : P.underlying t = some (.slice e)) (hi : (P.info? e).map (·.size) = some size) (base : Nat) (hb : base ≤ w.heap.size)
    (h : ∀ w2, w2.ownsRow base e size (.slice (some ⟨w.heap.size, 0, none⟩) 0 0) 0 [] → Below w.heap.size w w2 → w2.heap.size = w.heap.size + 1 → K (a.put o.dst (.slice (some ⟨w.heap.size, 0, none⟩) 0 0)) w2) : o.wp P a w K Q := by
  obtain ⟨i, hi, hs⟩ := Option.map_eq_some_iff.1 hi
  have hr : (Instr.buildSlice t 0 #[]).run P w = .ok (.slice (some ⟨w.heap.size, 0, none⟩) 0 0) (w.alloc (.cells #[] e)) := by
    simp [Instr.buildSlice, run_underlying hu, sizeOf, typeInfo, hi, Instr.fill, newRow, show Array.range 0 = #[] from rfl]
  unfold Oper.wp execOp
  simp only [ho, Sem.run_bind, List.map_toArray, List.map_nil, hr, Result.andThen_ok]
  exact h _ ⟨by simp, .inr ⟨w.heap.size, 0, #[], rfl, hb, Go.heap_alloc_new w _, Nat.le_refl _, Nat.zero_le _, by simp, by simp⟩⟩ (Below.alloc (Below.refl _ _) (Nat.le_refl _) _) (sz_alloc _ _)
theorem wp_build1 {o : Oper} {a : Act} {w : World} {K : Act → World → Prop} (t e : TypeId) (x : Operand) (ho : o.op = .buildSlice t 1 #[(0, x)]) (z : Value) (size : Nat) (hu : P.underlying t = some (.slice e)) (hi : (P.info? e).map (fun i => (i.zero, i.size)) = some (some z, size))
    (hs : 0 < size ∧ size ≤ 1000) (v : Value) (hx : a.eval x = v) (cs : Array Value) (hf : Instr.fill (fun i => some (i * size, size)) ((Array.range (1 * size)).map (z.cells[· % z.cells.size]!)) [(0, v)] = some cs)
    (h : ∀ w2, Blk w2 w.heap.size e cs → Below w.heap.size w w2 → w2.heap.size = w.heap.size + 1 → K (a.put o.dst (.slice (some ⟨w.heap.size, 0, none⟩) 1 1)) w2) : o.wp P a w K Q := by
  obtain ⟨i, hi', hp⟩ := Option.map_eq_some_iff.1 hi
  simp only [Prod.mk.injEq] at hp
  obtain ⟨hz, rfl⟩ := hp
  refine wp_buildSlice t e 1 _ ho cs i z hu hi' hz (by omega) (by omega) ?_ (h _ (Blk.new _ _ _ _ rfl) (Below.alloc (Below.refl _ _) (Nat.le_refl _) _) (sz_alloc _ _))
  simpa [hx] using hf
theorem wp_append_rd {o : Oper} {a : Act} {w : World} {K : Act → World → Prop} (s x : Operand) (t : TypeId)
    (ho : o.op = .call { callee := .builtin .append, args := #[s, x], argTypes := #[t, t] })
    (base : Nat) (e : TypeId) (z : Value) (size bytes : Nat) (ht : P.underlying t = some (.slice e)) (h2 : (P.info? e).map (fun i => (i.zero, i.size, i.bytes)) = some (some z, size, bytes)) (hzs : z.cells.size = size ∧ 0 < size)
    (v : Value) (n : Nat) (xs : List Value) (hs : a.eval s = v) (hown : w.ownsRow base e size v n xs)
    (A : Option Addr) (m c : Nat) (rows : List (List Value)) (hx : a.eval x = .slice A m c) (hrd : Rd w size A rows) (hrl : rows.length = m ∧ ∀ r ∈ rows, r.length = size ∧ ∀ u ∈ r, u.oneCell' = true) (hnil : A = none → c = 0)
    (hbd : n + m ≤ maxLen ∧ (n + m) * bytes ≤ 140737488355328) (hbase : base ≤ w.heap.size)
    (h : ∀ v' w', w'.ownsRow base e size v' (n + m) (xs ++ rows.flatten) → Below base w w' → w.heap.size ≤ w'.heap.size → (∀ g, g < w.heap.size → v.ownBlock ≠ some g → w'.heap[g]? = w.heap[g]?) → K (a.put o.dst v') w') : o.wp P a w K Q := by
  obtain ⟨i, hi, hz, hsz, hby⟩ := info_parts h2
  have hfl := flat_len rows (fun r hr => (hrl.2 r hr).1)
  cases A with
  | none =>
    have hr0 : rows = [] := by
      by_cases e0 : rows = []
      · exact e0
      · obtain ⟨b, off, e1, _⟩ := hrd e0
        cases e1
    subst hr0
    obtain ⟨h1, _⟩ := hrl
    simp only [List.length_nil] at h1
    subst h1
    rw [hnil rfl] at hx
    simp only [Nat.add_zero, List.flatten_nil, List.append_nil] at h
    have hrun := run_append_owned_none (P := P) (w := w) base t o.type e i size ht hi v n xs hown
    unfold Oper.wp execOp
    simp only [ho, resolve, invoke, builtin, Sem.run_bind, Sem.run_pure, Result.andThen_ok, List.map_toArray, List.map_cons, List.map_nil, hs, hx, hrun]
    exact h v w hown (Below.refl _ _) (Nat.le_refl _) (fun _ _ _ => rfl)
  | some ad =>
    have hnews : ∀ j u, rows.flatten[j]? = some u → w.cell? (ad.add j) = some u := by
      intro j u hj
      have hne : rows ≠ [] := by rintro rfl; simp at hj
      obtain ⟨b, off, e1, hc⟩ := hrd hne
      injection e1 with e1
      subst e1
      have h1 := flat_at hzs.2 rows (fun r hr => (hrl.2 r hr).1) j u hj
      have h3 := hc _ _ u h1
      rw [addr_add, ← h3, Nat.div_add_mod']
    refine wp_append_own w s x t ho base e i z size bytes ht hi hz hsz hby hzs.1 hzs.2 v n xs hs hown ad m c rows.flatten hx (by rw [hfl, hrl.1]) hnews ?_ hbd.1 hbd.2 hbase ?_
    · intro u hu
      obtain ⟨r, hr, hu⟩ := List.mem_flatten.1 hu
      exact (hrl.2 r hr).2 u hu
    · intro v' w' hown' hgrow _
      exact h v' w' hown' (grown_below hgrow hbase (owns_base hown)) hgrow.size (fun g hg hne => hgrow.block g hg (fun e => hne e.symm))
theorem wp_store_fld {o : Oper} {a : Act} {w : World} {K : Act → World → Prop} (ty : TypeId) (x y : Operand) (ho : o.op = .store ty x y)
    (g i : Nat) (hx : a.eval x = .pointer (some ⟨g, i, none⟩)) (v : Value) (hy : a.eval y = v) (t : TypeId) (cs : Array Value) (hb : Blk w g t cs) (hi : i < cs.size) (hs : (P.info? ty).map (·.size) = some 1) (hv : v.cells = #[v]) (h1 : v.oneCell' = true)
    (h : ∀ w2, Blk w2 g t (cs.setIfInBounds i v) → Upd g w w2 → K (a.put o.dst undef) w2) : o.wp P a w K Q := by
  unfold Oper.wp execOp
  simp only [ho, hx, hy, Sem.run_bind, Sem.run_pure, run_store_scalar w ty g i t cs v hb hi hs hv h1, Result.andThen_ok]
  exact h _ (hb.setCell i v) (Upd.setCell w ⟨g, i, none⟩ v)
end
end Go.Proofs.YtacpjpkhmdcagaaGreat
