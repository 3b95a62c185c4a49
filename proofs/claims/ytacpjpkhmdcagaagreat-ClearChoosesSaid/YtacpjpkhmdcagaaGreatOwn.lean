/- This text proves laws for slices that a call makes itself (make, literals, append of a copy), in the words of this work, and for '==' of flat structs. It has no conditions but those that they state. -/
import Derived.Test.YtacpjpkhmdcagaaGreatQuiet
import Derived.Maps.AppendAt
import Derived.Laws.AppendOwnNone
import Derived.Laws.MakeOwn
import Derived.Laws.StructEq
import Derived.OwnWalk
import Derived.Great.BuildSlice
namespace Go.Proofs.YtacpjpkhmdcagaaGreat
set_option linter.unusedVariables false
open Go.RowKit

theorem grown_below {w w' : World} {row : Option Nat} {B : Nat} (h : w.grownBy w' row) (hB : B ≤ w.heap.size) (hr : ∀ g, row = some g → B ≤ g) : Below B w w' :=
  ⟨h.os, h.tape, h.output, h.size, fun k hk => h.block k (by omega) (fun e => by have := hr k e.symm; omega)⟩
theorem owns_base {w : World} {base : Nat} {e : TypeId} {size : Nat} {v : Value} {n : Nat} {xs : List Value} (h : w.ownsRow base e size v n xs) : ∀ g, v.ownBlock = some g → base ≤ g := by
  rcases h.2 with ⟨rfl, _⟩ | ⟨g, cap, cur, rfl, hb, _⟩
  · intro g h; simp [Value.ownBlock] at h
  · intro g' h
    simp [Value.ownBlock] at h
    omega
theorem owns_some {w : World} {base : Nat} {e : TypeId} {size : Nat} {v : Value} {n : Nat} {xs : List Value} (h : w.ownsRow base e size v n xs) (hn : 0 < n) :
    ∃ g cap cur, v = .slice (some ⟨g, 0, none⟩) n cap ∧ base ≤ g ∧ Blk w g e cur ∧ n ≤ cap ∧ cap ≤ maxLen ∧ cur.size = cap * size ∧ cur.toList.take (n * size) = xs := by
  rcases h.2 with ⟨_, h0⟩ | ⟨g, cap, cur, hv, hb, hg, h1, h2, h3, h4⟩
  · omega
  · exact ⟨g, cap, cur, hv, hb, hg, h1, h2, h3, h4⟩

theorem owns_ext {w w' : World} {base : Nat} {e : TypeId} {size : Nat} {v : Value} {n : Nat} {xs : List Value} (h : w.ownsRow base e size v n xs) (hb : Below w.heap.size w w') : w'.ownsRow base e size v n xs := by
  refine ⟨h.1, ?_⟩
  rcases h.2 with h0 | ⟨g, cap, cur, hv, hbs, hg, h1⟩
  · exact .inl h0
  · exact .inr ⟨g, cap, cur, hv, hbs, (hb.block g (heap_lt hg)).trans hg, h1⟩

theorem flat_at {k : Nat} (hk : 0 < k) : ∀ (rows : List (List Value)), (∀ r ∈ rows, r.length = k) → ∀ j u, rows.flatten[j]? = some u → (rows.getD (j / k) [])[j % k]? = some u
  | [], _, j, u, h => by simp at h
  | r :: rs, hr, j, u, h => by
    have hl := hr r (List.mem_cons_self ..)
    rw [List.flatten_cons] at h
    by_cases hj : j < k
    · rw [List.getElem?_append_left (by omega)] at h
      rw [Nat.div_eq_of_lt hj, Nat.mod_eq_of_lt hj]
      simpa using h
    · rw [List.getElem?_append_right (by omega), hl] at h
      have := flat_at hk rs (fun x hx => hr x (List.mem_cons_of_mem _ hx)) _ u h
      have h1 : j / k = (j - k) / k + 1 := by rw [Nat.div_eq_sub_div hk (by omega)]
      have h2 : j % k = (j - k) % k := by rw [Nat.mod_eq_sub_mod (by omega)]
      rw [h1, h2]
      simpa using this
theorem flat_of {k : Nat} : ∀ (rows : List (List Value)), (∀ r ∈ rows, r.length = k) → ∀ i j u, (rows.getD i [])[j]? = some u → rows.flatten[i * k + j]? = some u
  | [], _, i, j, u, h => by simp at h
  | r :: rs, hr, 0, j, u, h => by
    have hj : j < r.length := by
      have := (List.getElem?_eq_some_iff.1 h).1
      simpa using this
    rw [List.flatten_cons, Nat.zero_mul, Nat.zero_add, List.getElem?_append_left hj]
    simpa using h
  | r :: rs, hr, i + 1, j, u, h => by
    have hl := hr r (List.mem_cons_self ..)
    have := flat_of rs (fun x hx => hr x (List.mem_cons_of_mem _ hx)) i j u (by simpa using h)
    rw [List.flatten_cons, List.getElem?_append_right (by rw [hl, Nat.succ_mul]; omega), hl, show (i + 1) * k + j - k = i * k + j by rw [Nat.succ_mul]; omega]
    exact this
theorem flat_len {k : Nat} : ∀ (rows : List (List Value)), (∀ r ∈ rows, r.length = k) → rows.flatten.length = rows.length * k
  | [], _ => by simp
  | r :: rs, hr => by
    rw [List.flatten_cons, List.length_append, hr r (List.mem_cons_self ..), flat_len rs (fun x hx => hr x (List.mem_cons_of_mem _ hx)), List.length_cons, Nat.succ_mul]
    omega
/-- What is owned reads as rows. -/
theorem rd_own {w : World} {g k : Nat} {e : TypeId} {cur : Array Value} {n : Nat} {rows : List (List Value)} (h : Blk w g e cur) (hr : ∀ r ∈ rows, r.length = k) (ht : cur.toList.take (n * k) = rows.flatten) : Rd w k (some ⟨g, 0, none⟩) rows :=
  fun _ => ⟨g, 0, rfl, fun i j u hu => by
    have h1 := flat_of rows hr i j u hu
    rw [← ht, List.getElem?_take] at h1
    split at h1
    · rw [h.cell, Nat.zero_add]
      simpa using h1
    · cases h1⟩

section
variable {P : Program} {w : World} {ops : Array Oper} {rest : List Oper} {o : Oper} {a : Act} {Q : Exit → Act → World → Prop}
theorem wpList_make_blk (hgd : Region.wanted o (yielded ops a.tmps) = true) (l c : Operand) (t : TypeId) (ho : o.op = .makeSlice t l c)
    (e : TypeId) (z : Value) (size bytes : Nat) (kl kc : IntKind) (n : Nat) (hl : a.eval l = .int kl n) (hc : a.eval c = .int kc n) (h1 : P.underlying t = some (.slice e)) (h2 : (P.info? e).map (fun i => (i.zero, i.size, i.bytes)) = some (some z, size, bytes))
    (hb : bytes * n ≤ 281474976710656 ∧ n ≤ 9223372036854775807)
    (h : ∀ w2, Blk w2 w.heap.size e (madeCells z.cells (n * size)) → Below w.heap.size w w2 → w2.heap.size = w.heap.size + 1 → wpList P ops Q rest (a.put o.dst (.slice (some ⟨w.heap.size, 0, none⟩) n n)) w2) : wpList P ops Q (o :: rest) a w :=
  wpList_step fun K hK => by
    rw [if_pos hgd]
    obtain ⟨i, hi, hz, hs, hby⟩ := info_parts h2
    subst hs hby
    have hr := run_make (P := P) w t e i z h1 hi hz kl kc n n (by omega) (Int.le_refl _) (by have := hb.1; rw [← Int.natCast_mul]; omega) (by have := hb.2; omega)
    unfold Oper.wp execOp
    simp only [ho, hl, hc, Sem.run_bind, Sem.run_pure, hr, Result.andThen_ok, Int.toNat_natCast]
    exact hK _ _ (h _ (Blk.new _ _ _ _ rfl) (Below.alloc (Below.refl _ _) (Nat.le_refl _) _) (sz_alloc _ _))
theorem madeCells_all {z : Array Value} {v : Value} (hz : ∀ i, i < z.size → z[i]? = some v) (hp : 0 < z.size) (m k : Nat) (hk : k < m) : (madeCells z m)[k]? = some v := by
  have h1 : k % z.size < z.size := Nat.mod_lt _ hp
  have h2 := hz _ h1
  rw [Array.getElem?_eq_some_iff] at h2
  obtain ⟨h3, h4⟩ := h2
  simp [madeCells, hk]
  rw [getElem!_pos z (k % z.size) h3, h4]

/-- 'T{}': an empty slice. -/
theorem wpList_build0 (hgd : o.guard = none) (t e : TypeId) (ho : o.op = .buildSlice t 0 #[]) (size : Nat) (hu : P.underlying t = some (.slice e)) (hi : (P.info? e).map (·.size) = some size) (base : Nat) (hb : base ≤ w.heap.size)
    (h : ∀ w2, w2.ownsRow base e size (.slice (some ⟨w.heap.size, 0, none⟩) 0 0) 0 [] → Below w.heap.size w w2 → w2.heap.size = w.heap.size + 1 → wpList P ops Q rest (a.put o.dst (.slice (some ⟨w.heap.size, 0, none⟩) 0 0)) w2) : wpList P ops Q (o :: rest) a w :=
  wpList_plain hgd fun K hK => by
    obtain ⟨i, hi, hs⟩ := Option.map_eq_some_iff.1 hi
    have hr : (Instr.buildSlice t 0 #[]).run P w = .ok (.slice (some ⟨w.heap.size, 0, none⟩) 0 0) (w.alloc (.cells #[] e)) := by
      simp [Instr.buildSlice, run_underlying hu, sizeOf, typeInfo, hi, Instr.fill, newRow, show Array.range 0 = #[] from rfl]
    unfold Oper.wp execOp
    simp only [ho, Sem.run_bind, List.map_toArray, List.map_nil, hr, Result.andThen_ok]
    refine hK _ _ (h _ ⟨by simp, .inr ⟨w.heap.size, 0, #[], rfl, hb, Go.heap_alloc_new w _, Nat.le_refl _, Nat.zero_le _, by simp, by simp⟩⟩ (Below.alloc (Below.refl _ _) (Nat.le_refl _) _) (sz_alloc _ _))
/-- 'T{x}': a slice of one element. -/
theorem wpList_build1 (hgd : o.guard = none) (t e : TypeId) (x : Operand) (ho : o.op = .buildSlice t 1 #[(0, x)]) (z : Value) (size : Nat) (hu : P.underlying t = some (.slice e)) (hi : (P.info? e).map (fun i => (i.zero, i.size)) = some (some z, size))
    (hs : 0 < size ∧ size ≤ 1000) (v : Value) (hx : a.eval x = v) (cs : Array Value) (hf : Instr.fill (fun i => some (i * size, size)) ((Array.range (1 * size)).map (z.cells[· % z.cells.size]!)) [(0, v)] = some cs)
    (h : ∀ w2, Blk w2 w.heap.size e cs → Below w.heap.size w w2 → w2.heap.size = w.heap.size + 1 → wpList P ops Q rest (a.put o.dst (.slice (some ⟨w.heap.size, 0, none⟩) 1 1)) w2) : wpList P ops Q (o :: rest) a w := by
  obtain ⟨i, hi', hp⟩ := Option.map_eq_some_iff.1 hi
  simp only [Prod.mk.injEq] at hp
  obtain ⟨hz, rfl⟩ := hp
  refine wpList_buildSlice hgd t e 1 _ ho cs i z hu hi' hz (by omega) (by omega) ?_ (h _ (Blk.new _ _ _ _ rfl) (Below.alloc (Below.refl _ _) (Nat.le_refl _) _) (sz_alloc _ _))
  simpa [hx] using hf

/-- 'append(v, x...)': v is the call's own; x reads as rows (nil too). -/
theorem wpList_append_rd (hgd : o.guard = none) (s x : Operand) (t : TypeId)
    (ho : o.op = .call { callee := .builtin .append, args := #[s, x], argTypes := #[t, t] })
    (base : Nat) (e : TypeId) (z : Value) (size bytes : Nat) (ht : P.underlying t = some (.slice e)) (h2 : (P.info? e).map (fun i => (i.zero, i.size, i.bytes)) = some (some z, size, bytes)) (hzs : z.cells.size = size ∧ 0 < size)
    (v : Value) (n : Nat) (xs : List Value) (hs : a.eval s = v) (hown : w.ownsRow base e size v n xs)
    (A : Option Addr) (m c : Nat) (rows : List (List Value)) (hx : a.eval x = .slice A m c) (hrd : Rd w size A rows) (hrl : rows.length = m ∧ ∀ r ∈ rows, r.length = size ∧ ∀ u ∈ r, u.oneCell' = true) (hnil : A = none → c = 0)
    (hbd : n + m ≤ maxLen ∧ (n + m) * bytes ≤ 140737488355328) (hbase : base ≤ w.heap.size)
    (h : ∀ v' w', w'.ownsRow base e size v' (n + m) (xs ++ rows.flatten) → Below base w w' → w.heap.size ≤ w'.heap.size → (∀ g, g < w.heap.size → v.ownBlock ≠ some g → w'.heap[g]? = w.heap[g]?) → wpList P ops Q rest (a.put o.dst v') w') : wpList P ops Q (o :: rest) a w := by
  obtain ⟨i, hi, hz, hsz, hby⟩ := info_parts h2
  have hfl := flat_len rows (fun r hr => (hrl.2 r hr).1)
  cases A with
  | none =>
    have hr0 : rows = [] := by
      by_cases e0 : rows = []
      · exact e0
      · obtain ⟨b, off, e1, _⟩ := hrd e0
        cases e1
    subst hr0
    obtain ⟨h1, _⟩ := hrl
    simp only [List.length_nil] at h1
    subst h1
    rw [hnil rfl] at hx
    refine wpList_append_own_none hgd s x t ho base e i size ht hi v n xs hs hown hx ?_
    simp only [Nat.add_zero, List.flatten_nil, List.append_nil] at h
    exact h v w hown (Below.refl _ _) (Nat.le_refl _) (fun _ _ _ => rfl)
  | some ad =>
    have hnews : ∀ j u, rows.flatten[j]? = some u → w.cell? (ad.add j) = some u := by
      intro j u hj
      have hne : rows ≠ [] := by rintro rfl; simp at hj
      obtain ⟨b, off, e1, hc⟩ := hrd hne
      injection e1 with e1
      subst e1
      have h1 := flat_at hzs.2 rows (fun r hr => (hrl.2 r hr).1) j u hj
      have h3 := hc _ _ u h1
      rw [addr_add, ← h3, Nat.div_add_mod']
    refine wpList_append_own w hgd s x t ho base e i z size bytes ht hi hz hsz hby hzs.1 hzs.2 v n xs hs hown ad m c rows.flatten hx (by rw [hfl, hrl.1]) hnews ?_ hbd.1 hbd.2 hbase ?_
    · intro u hu
      obtain ⟨r, hr, hu⟩ := List.mem_flatten.1 hu
      exact (hrl.2 r hr).2 u hu
    · intro v' w' hown' hgrow _
      exact h v' w' hown' (grown_below hgrow hbase (owns_base hown)) hgrow.size (fun g hg hne => hgrow.block g hg (fun e => hne e.symm))
end
theorem Rd.upd {w w' : World} {k g : Nat} {A : Option Addr} {l : List (List Value)} (h : Rd w k A l) (hA : ∀ a, A = some a → a.block ≠ g) (u : Upd g w w') : Rd w' k A l := by
  intro hne
  obtain ⟨b, off, rfl, hc⟩ := h hne
  have hb := hA _ rfl
  refine ⟨b, off, rfl, fun i j v hv => ?_⟩
  rw [World.cell?_of_block (a := ⟨b, _, none⟩) (u.block b hb)]
  exact hc i j v hv
theorem Rd.keep {w w' : World} {k : Nat} {A : Option Addr} {l : List (List Value)} (h : Rd w k A l) (hA : ∀ a, A = some a → w'.heap[a.block]? = w.heap[a.block]?) : Rd w' k A l := by
  intro hne
  obtain ⟨b, off, rfl, hc⟩ := h hne
  refine ⟨b, off, rfl, fun i j v hv => ?_⟩
  have hb : w'.heap[b]? = w.heap[b]? := hA _ rfl
  rw [World.cell?_of_block (a := ⟨b, off + (i * k + j), none⟩) hb]
  exact hc i j v hv

/-- All blocks below 'B' but 'g' lie as they lay. -/
structure But (g B : Nat) (w w' : World) : Prop where
  os : w'.os = w.os
  tape : w'.tape = w.tape
  output : w'.output = w.output
  size : w.heap.size ≤ w'.heap.size
  block : ∀ k, k < B → k ≠ g → w'.heap[k]? = w.heap[k]?
theorem But.refl (g B : Nat) (w : World) : But g B w w := ⟨rfl, rfl, rfl, Nat.le_refl _, fun _ _ _ => rfl⟩
theorem But.ext {g B : Nat} {w w1 w2 : World} (h : But g B w w1) (hB : B ≤ w1.heap.size) (k : Below w1.heap.size w1 w2) : But g B w w2 :=
  ⟨k.os.trans h.os, k.tape.trans h.tape, k.output.trans h.output, Nat.le_trans h.size k.size, fun i hi hn => (k.block i (by omega)).trans (h.block i hi hn)⟩
theorem But.upd {g B : Nat} {w w1 w2 : World} (h : But g B w w1) (u : Upd g w1 w2) : But g B w w2 :=
  ⟨u.os.trans h.os, u.tape.trans h.tape, u.output.trans h.output, Nat.le_trans h.size (Nat.le_of_eq u.size.symm), fun i hi hn => (u.block i hn).trans (h.block i hi hn)⟩
theorem But.trans {g B : Nat} {w w1 w2 : World} (h : But g B w w1) (k : But g B w1 w2) : But g B w w2 :=
  ⟨k.os.trans h.os, k.tape.trans h.tape, k.output.trans h.output, Nat.le_trans h.size k.size, fun i hi hn => (k.block i hi hn).trans (h.block i hi hn)⟩
theorem But.mono {g B C : Nat} {w w1 : World} (h : But g B w w1) (hc : C ≤ B) : But g C w w1 :=
  ⟨h.os, h.tape, h.output, h.size, fun i hi hn => h.block i (by omega) hn⟩
theorem But.below {g B C : Nat} {w w1 : World} (h : But g B w w1) (hC : C ≤ g) (hB : C ≤ B) : Below C w w1 :=
  ⟨h.os, h.tape, h.output, h.size, fun i hi => h.block i (by omega) (by omega)⟩
theorem But.of_below {g B : Nat} {w w1 : World} (h : Below B w w1) : But g B w w1 := ⟨h.os, h.tape, h.output, h.size, fun i hi _ => h.block i hi⟩
theorem Blk.but {w w' : World} {g g' : Nat} {t : TypeId} {cs : Array Value} (h : Blk w g' t cs) (hb : But g w.heap.size w w') (hn : g' ≠ g) : Blk w' g' t cs := (hb.block g' h.lt hn).trans h

/-! ### a store of some cells into the middle of a block -/
def putC (cs : Array Value) (i : Nat) : List Value → Array Value
  | [] => cs
  | v :: r => putC (cs.setIfInBounds i v) (i + 1) r
theorem put_size : ∀ (vs : List Value) (cs : Array Value) (i : Nat), (putC cs i vs).size = cs.size
  | [], _, _ => rfl
  | v :: r, cs, i => by rw [putC, put_size r]; simp
theorem put_out : ∀ (vs : List Value) (cs : Array Value) (i k : Nat), (k < i ∨ i + vs.length ≤ k) → (putC cs i vs)[k]? = cs[k]?
  | [], _, _, _, _ => rfl
  | v :: r, cs, i, k, h => by
    simp only [List.length_cons] at h
    rw [putC, put_out r _ _ k (by omega), Array.getElem?_setIfInBounds_ne (by omega)]
theorem put_in : ∀ (vs : List Value) (cs : Array Value) (i j : Nat), i + vs.length ≤ cs.size → j < vs.length → (putC cs i vs)[i + j]? = vs[j]?
  | [], _, _, _, _, h => by simp at h
  | v :: r, cs, i, 0, h, _ => by
    simp only [List.length_cons] at h
    rw [putC, put_out r _ _ _ (by omega), Nat.add_zero, Array.getElem?_setIfInBounds_self_of_lt (by omega)]
    rfl
  | v :: r, cs, i, j + 1, h, hj => by
    simp only [List.length_cons] at h hj
    rw [putC, show i + (j + 1) = i + 1 + j by omega, put_in r _ _ _ (by simp; omega) (by omega)]
    rfl
theorem Blk.put {t : TypeId} {g : Nat} : ∀ (vs : List Value) {w : World} {cs : Array Value} (i : Nat), Blk w g t cs → Blk (w.setCells g i vs) g t (putC cs i vs)
  | [], _, _, _, h => h
  | v :: r, w, cs, i, h => by
    rw [World.setCells, putC]
    exact Blk.put r (i + 1) (h.setCell i v)
theorem Upd.refl (g : Nat) (w : World) : Upd g w w := ⟨rfl, rfl, rfl, rfl, fun _ _ => rfl⟩
theorem Upd.put {g : Nat} : ∀ (vs : List Value) (w : World) (i : Nat), Upd g w (w.setCells g i vs)
  | [], w, _ => Upd.refl g w
  | v :: r, w, i => by
    rw [World.setCells]
    exact (Upd.setCell w ⟨g, i, none⟩ v).trans (Upd.put r _ (i + 1))
theorem wpList_store_put {P : Program} {ops : Array Oper} {rest : List Oper} {o : Oper} {a : Act} {w : World} {Q : Exit → Act → World → Prop} (hgd : Region.wanted o (yielded ops a.tmps) = true) (ty : TypeId) (x y : Operand) (ho : o.op = .store ty x y)
    (g i : Nat) (vs : Array Value) (hx : a.eval x = .pointer (some ⟨g, i, none⟩)) (hy : a.eval y = .agg vs) (t : TypeId) (cs : Array Value) (hb : Blk w g t cs) (hi : (P.info? ty).map (·.size) = some vs.size)
    (hold : i + vs.size ≤ cs.size) (h1 : vs.all (·.oneCell') = true) (h : ∀ w2, Blk w2 g t (putC cs i vs.toList) → Upd g w w2 → wpList P ops Q rest (a.put o.dst undef) w2) : wpList P ops Q (o :: rest) a w :=
  wpList_step fun K hK => by
    rw [if_pos hgd]
    refine wp_store_mid ty x y ho g i vs hx hy (fun j hj => ?_) hi h1 (hK _ _ (h _ (Blk.put _ _ hb) (Upd.put _ _ _)))
    rw [hb.cell, hb.frozen]
    exact ⟨by rw [Array.getElem?_eq_getElem (by omega)]; rfl, rfl⟩
theorem wpList_build_is {P : Program} {ops : Array Oper} {rest : List Oper} {o : Oper} {a : Act} {w : World} {Q : Exit → Act → World → Prop} (hgd : Region.wanted o (yielded ops a.tmps) = true) (t : TypeId) (parts : Array (Nat × Operand)) (ho : o.op = .build t parts)
    (cells : Array Value) (hc : P.built t (parts.map fun (i, x) => (i, a.eval x)).toList = some cells) (h : wpList P ops Q rest (a.put o.dst (.agg cells)) w) : wpList P ops Q (o :: rest) a w :=
  wpList_step fun K hK => by
    rw [if_pos hgd]
    unfold Oper.wp execOp
    simp only [ho, Sem.run_bind, run_build w t _ cells hc, Result.andThen_ok]
    exact hK _ _ h
theorem q_build {P : Program} {ops : Array Oper} {C : World → Prop} {Q : Act → Prop} {a : Act} {o : Oper} {rest : List Oper} (hgd : Region.wanted o (yielded ops a.tmps) = true) (t : TypeId) (parts : Array (Nat × Operand)) (ho : o.op = .build t parts)
    (cells : Array Value) (hc : P.built t (parts.map fun (i, x) => (i, a.eval x)).toList = some cells) (h : wpQuiet P ops C Q rest (a.put o.dst (.agg cells))) : wpQuiet P ops C Q (o :: rest) a :=
  q_step hgd _ (fun w' hw' => by
    unfold Oper.quietAt execOp
    simp only [ho, Sem.run_bind, run_build w' t _ cells hc, Result.andThen_ok]
    exact ⟨rfl, rfl⟩) h
/-! ### memory: all blocks below 'B' but those of a list lie as they lay -/
structure ButL (l : List Nat) (B : Nat) (w w' : World) : Prop where
  os : w'.os = w.os
  tape : w'.tape = w.tape
  output : w'.output = w.output
  size : w.heap.size ≤ w'.heap.size
  block : ∀ k, k < B → k ∉ l → w'.heap[k]? = w.heap[k]?
theorem ButL.refl (l : List Nat) (B : Nat) (w : World) : ButL l B w w := ⟨rfl, rfl, rfl, Nat.le_refl _, fun _ _ _ => rfl⟩
theorem ButL.ext {l : List Nat} {B : Nat} {w w1 w2 : World} (h : ButL l B w w1) (hB : B ≤ w1.heap.size) (k : Below w1.heap.size w1 w2) : ButL l B w w2 :=
  ⟨k.os.trans h.os, k.tape.trans h.tape, k.output.trans h.output, Nat.le_trans h.size k.size, fun i hi hn => (k.block i (by omega)).trans (h.block i hi hn)⟩
theorem ButL.upd {l : List Nat} {g B : Nat} {w w1 w2 : World} (h : ButL l B w w1) (hg : g ∈ l) (u : Upd g w1 w2) : ButL l B w w2 :=
  ⟨u.os.trans h.os, u.tape.trans h.tape, u.output.trans h.output, Nat.le_trans h.size (Nat.le_of_eq u.size.symm), fun i hi hn => (u.block i (fun e => hn (e ▸ hg))).trans (h.block i hi hn)⟩
theorem ButL.below {l : List Nat} {B C : Nat} {w w1 : World} (h : ButL l B w w1) (hC : ∀ g ∈ l, C ≤ g) (hB : C ≤ B) : Below C w w1 :=
  ⟨h.os, h.tape, h.output, h.size, fun i hi => h.block i (by omega) (fun hm => by have := hC i hm; omega)⟩
theorem ButL.trans {l : List Nat} {B : Nat} {w w1 w2 : World} (h : ButL l B w w1) (k : ButL l B w1 w2) : ButL l B w w2 :=
  ⟨k.os.trans h.os, k.tape.trans h.tape, k.output.trans h.output, Nat.le_trans h.size k.size, fun i hi hn => (k.block i hi hn).trans (h.block i hi hn)⟩
theorem ButL.of_below {l : List Nat} {B : Nat} {w w1 : World} (h : Below B w w1) : ButL l B w w1 := ⟨h.os, h.tape, h.output, h.size, fun i hi _ => h.block i hi⟩
theorem ButL.pre' {l : List Nat} {w w1 w2 : World} (h : Below w.heap.size w w1) (k : ButL l w1.heap.size w1 w2) : ButL l w.heap.size w w2 :=
  ⟨k.os.trans h.os, k.tape.trans h.tape, k.output.trans h.output, Nat.le_trans h.size k.size, fun i hi hn => (k.block i (by have := h.size; omega) hn).trans (h.block i hi)⟩
theorem Blk.butL {w w' : World} {l : List Nat} {g' : Nat} {t : TypeId} {cs : Array Value} (h : Blk w g' t cs) (hb : ButL l w.heap.size w w') (hn : g' ∉ l) : Blk w' g' t cs := (hb.block g' h.lt hn).trans h
/-! ### '==' of flat structs -/
def ordEq (x y : Ord) : Bool := x.id == y.id && (x.owner == y.owner && (x.side == y.side && (x.price == y.price && (x.qty == y.qty && (x.flags == y.flags && x.seq == y.seq)))))
theorem ordEq_iff (x y : Ord) : ordEq x y = true ↔ x = y := by
  obtain ⟨a1, a2, a3, a4, a5, a6, a7⟩ := x
  obtain ⟨b1, b2, b3, b4, b5, b6, b7⟩ := y
  simp [ordEq]
theorem ordEq_refl (x : Ord) : ordEq x x = true := (ordEq_iff x x).2 rfl
theorem guardOrd : Tryz.prog.eqGuardType Tryz.prog.depth 52 = false := by kernel_rfl
theorem eqOrd (x y : Ord) (w : World) : (Op.equalIn 10000 52 (.agg x.arr) (.agg y.arr)).run Tryz.prog w = .ok (ordEq x y) w := by
  have u3 := Tryz.underlying3
  have a3 := Tryz.isAgg3
  have z3 := Tryz.sizeOf3
  have u4 := Tryz.underlying2
  have a4 := Tryz.isAgg2
  have z4 := Tryz.sizeOf2
  have hS : Tryz.prog.underlying 52 = some (.struct (Tryz.prog.fieldsOf 52)) := by kernel_rfl
  have hp : Tryz.prog.stoodInHeld 52 = false := by kernel_rfl
  rw [show (10000 : Nat) = 9999 + 1 from rfl, run_equalIn_agg w 9999 52 _ _ hS hp]
  simp only [Program.fieldsOf, Tryz.underlying52]
  go_simp
  unfold ordEq
  by_cases h1 : x.id = y.id
  · by_cases h2 : x.owner = y.owner
    · by_cases h3 : x.side = y.side
      · by_cases h4 : x.price = y.price
        · by_cases h5 : x.qty = y.qty
          · by_cases h6 : x.flags = y.flags
            · by_cases h7 : x.seq = y.seq <;> simp [h1, h2, h3, h4, h5, h6, h7]
            · simp [h1, h2, h3, h4, h5, h6]
          · simp [h1, h2, h3, h4, h5]
        · simp [h1, h2, h3, h4]
      · simp [h1, h2, h3]
    · simp [h1, h2]
  · simp [h1]

/-- A load of a struct out of the midst of a block, in a region whose order is open. -/
theorem q_load_mid {P : Program} {ops : Array Oper} {C : World → Prop} {Q : Act → Prop} {a : Act} {o : Oper} {rest : List Oper} {w : World} (hgd : Region.wanted o (yielded ops a.tmps) = true) (ty : TypeId) (x : Operand) (ho : o.op = .load ty x) (hC : ∀ w', C w' → Below w.heap.size w w')
    (b off : Nat) (hx : a.eval x = .pointer (some ⟨b, off, none⟩)) (cs : List Value) (d : TypeDesc) (hc : w.rangeAt b off cs) (hu : P.underlying ty = some d) (hd : d.isRow = true) (hi : (P.info? ty).map (·.size) = some cs.length)
    (h : wpQuiet P ops C Q rest (a.put o.dst (.agg cs.toArray))) : wpQuiet P ops C Q (o :: rest) a := by
  refine q_step hgd _ (fun w' hw' => ?_) h
  have hc' : w'.rangeAt b off cs := fun j v hv => ((hC w' hw').cell (cell_lt (hc j v hv))).trans (hc j v hv)
  unfold Oper.quietAt execOp
  simp only [ho, hx, Instr.loadAt, Instr.sureAddr, Sem.run_bind, Sem.run_pure, Result.andThen_ok, run_loadVar_mid w' b off ty cs d hc' hu hd hi]
  exact ⟨rfl, rfl⟩
/-- '==' of two orders, in a region whose order is open. -/
theorem q_eq_ord {ops : Array Oper} {C : World → Prop} {Q : Act → Prop} {a : Act} {o : Oper} {rest : List Oper} (hgd : Region.wanted o (yielded ops a.tmps) = true) (x y : Operand) (u : TypeId) (ho : o.op = .binOp .eql 52 x y u)
    (p q : Ord) (hx : a.eval x = .agg p.arr) (hy : a.eval y = .agg q.arr) (h : wpQuiet Tryz.prog ops C Q rest (a.put o.dst (.bool (ordEq p q)))) : wpQuiet Tryz.prog ops C Q (o :: rest) a :=
  q_step hgd _ (fun w _ => by
    unfold Oper.quietAt execOp
    simp only [ho, hx, hy, Sem.run_bind, run_eqGuard_agg _ _ _ _ _ _ _ guardOrd, Result.andThen_ok, run_eql_struct, eqOrd]
    exact ⟨rfl, rfl⟩) h
theorem wpList_eq_ord {ops : Array Oper} {rest : List Oper} {o : Oper} {a : Act} {w : World} {Q : Exit → Act → World → Prop} (hgd : Region.wanted o (yielded ops a.tmps) = true) (x y : Operand) (u : TypeId) (ho : o.op = .binOp .eql 52 x y u)
    (p q : Ord) (hx : a.eval x = .agg p.arr) (hy : a.eval y = .agg q.arr) (h : wpList Tryz.prog ops Q rest (a.put o.dst (.bool (ordEq p q))) w) : wpList Tryz.prog ops Q (o :: rest) a w :=
  wpList_step fun K hK => by
    rw [if_pos hgd]
    unfold Oper.wp execOp
    simp only [ho, hx, hy, Sem.run_bind, run_eqGuard_agg _ _ _ _ _ _ _ guardOrd, Result.andThen_ok, run_eql_struct, eqOrd]
    exact hK _ _ h
theorem q_ne_ord {ops : Array Oper} {C : World → Prop} {Q : Act → Prop} {a : Act} {o : Oper} {rest : List Oper} (hgd : Region.wanted o (yielded ops a.tmps) = true) (x y : Operand) (u : TypeId) (ho : o.op = .binOp .neq 52 x y u)
    (p q : Ord) (hx : a.eval x = .agg p.arr) (hy : a.eval y = .agg q.arr) (h : wpQuiet Tryz.prog ops C Q rest (a.put o.dst (.bool (!ordEq p q)))) : wpQuiet Tryz.prog ops C Q (o :: rest) a :=
  q_step hgd _ (fun w _ => by
    unfold Oper.quietAt execOp
    simp only [ho, hx, hy, Sem.run_bind, run_eqGuard_agg _ _ _ _ _ _ _ guardOrd, Result.andThen_ok, run_neq_struct, eqOrd]
    exact ⟨rfl, rfl⟩) h
end Go.Proofs.YtacpjpkhmdcagaaGreat
