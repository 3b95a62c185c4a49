/- This text proves the contract of curve.Of: all prices of a book's orders, rising, and what would be bought and sold at each. It has no conditions but those that it states. -/
import Derived.Test.YtacpjpkhmdcagaaGreatCuA
import Derived.Test.YtacpjpkhmdcagaaGreatCuS
import Derived.Test.YtacpjpkhmdcagaaGreatSwM
namespace Go.Proofs.YtacpjpkhmdcagaaGreat
set_option linter.unusedVariables false
open Go.RowKit Go.Maps
namespace Cu
set_option maxHeartbeats 4000000
set_option maxRecDepth 10000
attribute [local go_sem] Oper.semAt_some
open Bk (bet Bs osOf srt Oo Sl qsum)
theorem round_region_T {n l : Nat} {P : Program} {ops : Array Oper} {Q : Exit → Act → World → Prop} {S : World → Prop} {id : Nat} {a : Act} {w : World} (m : Nat) (hm : P.follows .mixedOrders = true) (hc : calmB ops = true) (hQ : ¬ LetsOut Q)
    (h : wpAnyT P .any ops Q S m ops.size (Array.replicate ops.size false) a w.drew) : (Code.region id ops true).wpIn (Fence.wide.inRound l) n P Q a w :=
  round_region_any hm hc hQ (wpAny_of_T _ _ _ _ h)
theorem turned_upd {w w' : World} {b : Nat} (h : w.mapTurned w' b) : Upd b w w' := by
  have hg := h.grown
  obtain ⟨es, c, es', c', hb, rfl⟩ := h
  exact ⟨hg.os, hg.tape, hg.output, by simp [Go.ChangeMaps.setBlock], fun k hk => Go.ChangeMaps.heap_setBlock_other hb _ hk⟩
/-- A post that no panic meets. -/
def NoP (Q : Exit → Act → World → Prop) : Exit → Act → World → Prop
  | .panic _, _, _ => False
  | e, a, w => Q e a w
theorem NoP.out {Q : Exit → Act → World → Prop} : ∀ e a w, NoP Q e a w → Q e a w := fun e a w h => by
  cases e <;> first | exact h | exact h.elim
theorem wp_region_TP {P : Program} {ops : Array Oper} {Q : Exit → Act → World → Prop} {S : World → Prop} {id : Nat} {a : Act} {w : World} (n : Nat) (hm : P.follows .mixedOrders = true)
    (h : wpAnyT P .any ops (NoP Q) S n ops.size (Array.replicate ops.size false) a w.drew) : (Code.region id ops true).wp P Q a w :=
  Code.wp_mono NoP.out (wp_region_T n hm h)
theorem T_doneP {P : Program} {md : Region.Mode} {ops : Array Oper} {Q : Exit → Act → World → Prop} {S : World → Prop} {n : Nat} {a : Act} {w : World} {listed : Array Bool} (hr : Region.ready md ops listed = []) (h : Q .normal a w) : wpAnyT P md ops (NoP Q) S n 0 listed a w := ⟨hr, h⟩
/-- What is read of each side. -/
def dn (os : List Ord) : Nat → List Ord
  | 0 => []
  | 1 => srt 0 os
  | _ => srt 0 os ++ srt 1 os
theorem dn_succ (os : List Ord) : ∀ {j : Nat}, j < 2 → dn os (j + 1) = dn os j ++ srt (j : Int) os
  | 0, _ => rfl
  | 1, _ => rfl
/-- What a price has of one side; of both. -/
def atS (os : List Ord) (j : Nat) (p : Int) : Int := if j = 0 then buyAt os p else selAt os p
def pr (os : List Ord) (p : Int) : Array Value := #[.int .i64 (buyAt os p), .int .i64 (selAt os p)]
theorem pr_size (os : List Ord) (p : Int) : (pr os p).size = 2 := rfl
theorem pr_at (os : List Ord) (p : Int) : ∀ {j : Nat}, j < 2 → (pr os p)[j]? = some (.int .i64 (atS os j p))
  | 0, _ => rfl
  | 1, _ => rfl
theorem pr_put (os : List Ord) (o : Ord) : ∀ {j : Nat}, j < 2 → o.side = (j : Int) → (pr os o.price).setIfInBounds j (.int .i64 (atS os j o.price + o.qty)) = pr (os ++ [o]) o.price
  | 0, _, h => by
    have h1 : o.side = 0 := h
    simp [pr, atS, buyAt_snoc, selAt_snoc, h1]
  | 1, _, h => by
    have h1 : o.side = 1 := h
    simp [pr, atS, buyAt_snoc, selAt_snoc, h1]
theorem qsum_fil {a : Ord → Bool} {os : List Ord} (h : ∀ o ∈ os, 1 ≤ o.qty ∧ o.qty ≤ 4294967296) (hl : os.length ≤ 102000) : 0 ≤ qsum (os.filter a) ∧ qsum (os.filter a) ≤ 438086664192000 := by
  refine ⟨qsum_nn (fun o ho => by have := (h o (List.mem_filter.1 ho).1).1; omega), ?_⟩
  have h1 := qsum_le (os := os.filter a) (fun o ho => (h o (List.mem_filter.1 ho).1).2)
  have h2 := List.length_filter_le a os
  omega
theorem atS_rng {os : List Ord} (h : ∀ o ∈ os, 1 ≤ o.qty ∧ o.qty ≤ 4294967296) (hl : os.length ≤ 102000) (j : Nat) (p : Int) : 0 ≤ atS os j p ∧ atS os j p ≤ 438086664192000 := by
  unfold atS
  split
  · exact qsum_fil h hl
  · exact qsum_fil h hl
theorem srt_mem {n : Int} {os : List Ord} {o : Ord} (h : o ∈ srt n os) : o ∈ os ∧ o.side = n := by
  have h1 := (Bk.srt_perm n os).mem_iff.1 h
  unfold Bk.sdO at h1
  rw [List.mem_filter] at h1
  exact ⟨h1.1, by simpa using h1.2⟩
theorem dn_mem {os : List Ord} {j : Nat} {o : Ord} (h : o ∈ dn os j) : o ∈ os := by
  unfold dn at h
  split at h
  · cases h
  · exact (srt_mem h).1
  · rcases List.mem_append.1 h with h | h
    · exact (srt_mem h).1
    · exact (srt_mem h).1
theorem dn_len (os : List Ord) (j : Nat) : (dn os j).length ≤ 2 * os.length := by
  have h0 := Sw.srt_le 0 os
  have h1 := Sw.srt_le 1 os
  unfold dn
  split
  · simp
  · omega
  · rw [List.length_append]; omega
/-- What an order's store leaves. -/
theorem oi_step {zb mb : Nat} {W W6 W7 : World} (hz : zb ≤ W.heap.size) (hm : mb < zb) (hb6 : Below W.heap.size W W6) (u7 : Upd mb W6 W7) : KeepsFrom zb W W7 ∧ Kc [mb] [] zb W W7 :=
  ⟨(keepsFrom_below hb6).trans ⟨by rw [u7.size]; exact Nat.le_refl _, fun k o hB hk ho => (u7.block k (by omega)).trans hk⟩, (Kc.of_below hb6 hz).trans (Sw.kc_updS (by simp) u7)⟩
/-- The marks that the ranges over iterators leave. -/
def mkD (D : Nat) : Deferred := { target := .collected D, args := #[] }
structure Mk (ds : List Nat) (w w' : World) : Prop where
  os : w'.os = w.os
  tape : w'.tape = w.tape
  output : w'.output = w.output
  size : w'.heap.size = w.heap.size
  block : ∀ k, k ∉ ds → w'.heap[k]? = w.heap[k]?
theorem put_upd (w : World) (D : Nat) (o : Obj) : Upd D w (w.putObj D o) := ⟨rfl, rfl, rfl, by simp [World.putObj], fun k hk => World.putObj_heap_other hk⟩
theorem leavesM_many {P : Program} {fn : Func} {R : Ending → World → Prop} {tmps : Array Value} : ∀ (ds : List Nat) (w : World), ds.Nodup → (∀ D ∈ ds, w.heap[D]? = some (.deferred (some []))) → (∀ w', Mk ds w w' → ∃ v, (results fn tmps).run P w' = .ok v w' ∧ R (.returned v) w') →
    LeavesInM Fence.wide 9 P fn tmps R (ds.map mkD) .returning w
  | [], w, _, _, h => h w ⟨rfl, rfl, rfl, rfl, fun _ _ => rfl⟩
  | D :: ds, w, hn, hK, h => by
    have u := put_upd w D (.deferred none)
    have hd := List.nodup_cons.1 hn
    refine ⟨by simp, .inl ⟨_, _, rfl, run_takeDeferred (hK D (List.mem_cons_self ..)), ?_⟩⟩
    refine leavesM_many ds (w.putObj D (.deferred none)) hd.2 (fun E hE => (u.block E (fun e => hd.1 (e ▸ hE))).trans (hK E (List.mem_cons_of_mem _ hE))) (fun w' m => h w' ⟨m.os.trans u.os, m.tape.trans u.tape, m.output.trans u.output, m.size.trans u.size, fun k hk => ?_⟩)
    exact (m.block k (fun e => hk (List.mem_cons_of_mem _ e))).trans (u.block k (fun e => hk (by rw [e]; exact List.mem_cons_self ..)))
theorem bodyPostM_many {P : Program} {fn : Func} {R : Ending → World → Prop} {a : Act} {ds : List Nat} {w : World} (hd : a.defers = ds.map mkD) (hn : ds.Nodup) (hK : ∀ D ∈ ds, w.heap[D]? = some (.deferred (some [])))
    (h : ∀ w', Mk ds w w' → ∃ v, (results fn a.tmps).run P w' = .ok v w' ∧ R (.returned v) w') : bodyPostM Fence.wide 9 P fn R .ret a w := by
  show LeavesInM Fence.wide 9 P fn a.tmps R a.defers .returning w
  rw [hd]
  exact leavesM_many ds w hn hK h
def SN (ab bx sb nb mb j : Nat) (o : Ord) (z : Int) (W : World) : Prop := W.cell? ⟨sb, 0, none⟩ = some (.int .i64 (j : Int)) ∧ W.cell? ⟨nb, j, none⟩ = some (.int .i64 z) ∧ W.cell? ⟨bx, 4, none⟩ = some (.int .i64 o.qty)
theorem y_build {P : Program} {S : World → Prop} {ops : Array Oper} {o : Oper} {a : Act} (t : TypeId) (parts : Array (Nat × Operand)) (ho : o.op = .build t parts) (hw : Region.wanted o (yielded ops a.tmps) = true)
    (cells : Array Value) (hc : P.built t (parts.map fun (i, x) => (i, a.eval x)).toList = some cells) : YieldsIf P ops S o (.agg cells) a :=
  .inl ⟨hw, fun w _ => by
    unfold execOp
    simp only [ho, Sem.run_bind, Sem.run_pure, run_build w t _ cells hc, Result.andThen_ok]⟩
theorem built_pt (p x y : Int) : Tryz.prog.built 67 [(0, .int .i64 p), (1, .int .i64 x), (2, .int .i64 y)] = some (Pt.mk p x y).arr := by kernel_rfl
def row1 (os : List Ord) (p : Int) : Pt := ⟨p, buyAt os p, selAt os p⟩
def flatP (ps : List Pt) : List Value := (ps.map Pt.cells).flatten
theorem flatP_snoc (l : List Pt) (f : Pt) : flatP (l ++ [f]) = flatP l ++ [f.cells].flatten := by simp [flatP]
theorem pt_ok (l : List Pt) : ∀ r ∈ l.map Pt.cells, r.length = 3 ∧ ∀ u ∈ r, u.oneCell' = true := by
  intro r hr
  obtain ⟨x, _, rfl⟩ := List.mem_map.1 hr
  exact ⟨rfl, fun u hu => by simp [Pt.cells] at hu; rcases hu with rfl | rfl | rfl <;> rfl⟩
/-- What the loop over all prices keeps. -/
structure Pi (w W : World) (cb ab mb B n : Nat) (os : List Ord) (ds : List Nat) (v : Value) (A : Option Addr) (l : List Int) : Prop where
  C : Blk W cb 118 #[v]
  P : Blk W ab 111 #[.map (some mb)]
  M : Mp W mb n os
  rd : Rd W 1 A (l.map fun p => [.int .i64 p])
  far : ∀ a, A = some a → a.block < B ∧ a.block ≠ cb
  below : Below w.heap.size w W
  ds : ∀ D ∈ ds, D < B ∧ W.heap[D]? = some (.deferred (some []))
  ord : w.heap.size ≤ cb ∧ cb < B ∧ ab < B ∧ mb < B ∧ cb ≠ ab ∧ cb ≠ mb ∧ w.heap.size ≤ B
  lt : B ≤ W.heap.size
theorem Pi.dne {w W : World} {cb ab mb B n : Nat} {os : List Ord} {ds : List Nat} {v : Value} {A : Option Addr} {l : List Int} (h : Pi w W cb ab mb B n os ds v A l) : ∀ D ∈ ds, D ≠ cb := fun D hD e => by
  have h1 := (h.ds D hD).2
  rw [e, show W.heap[cb]? = _ from h.C] at h1
  cases h1
theorem Pi.keep {w W W' : World} {cb ab mb B n : Nat} {os : List Ord} {ds : List Nat} {v : Value} {A : Option Addr} {l : List Int} (h : Pi w W cb ab mb B n os ds v A l) (hk : ∀ q, q < B → W'.heap[q]? = W.heap[q]?) (hb : Below w.heap.size w W') (hz : W.heap.size ≤ W'.heap.size) : Pi w W' cb ab mb B n os ds v A l :=
  ⟨(hk _ h.ord.2.1).trans h.C, (hk _ h.ord.2.2.1).trans h.P, h.M.keep (hk _ h.ord.2.2.2.1), h.rd.keep (fun a e => hk _ (h.far a e).1), h.far, hb, fun D hD => ⟨(h.ds D hD).1, (hk _ (h.ds D hD).1).trans (h.ds D hD).2⟩, h.ord, Nat.le_trans h.lt hz⟩
theorem Pi.ext {w W W' : World} {cb ab mb B n : Nat} {os : List Ord} {ds : List Nat} {v : Value} {A : Option Addr} {l : List Int} (h : Pi w W cb ab mb B n os ds v A l) (hb : Below W.heap.size W W') : Pi w W' cb ab mb B n os ds v A l :=
  h.keep (fun q hq => hb.block q (Nat.lt_of_lt_of_le hq h.lt)) (below_ext h.below hb) hb.size
theorem Pi.app {w W W1 W' : World} {cb ab mb B n : Nat} {os : List Ord} {ds : List Nat} {v : Value} {A : Option Addr} {l : List Int} (h : Pi w W cb ab mb B n os ds v A l) (h1 : Below W.heap.size W W1) (h2 : Below B W1 W') : Pi w W' cb ab mb B n os ds v A l :=
  h.keep (fun q hq => (h2.block q hq).trans (h1.block q (Nat.lt_of_lt_of_le hq h.lt))) ((below_ext h.below h1).trans (h2.mono h.ord.2.2.2.2.2.2)) (Nat.le_trans h1.size h2.size)
theorem Pi.upd {w W W' : World} {cb ab mb B n : Nat} {os : List Ord} {ds : List Nat} {v v' : Value} {A : Option Addr} {l : List Int} (h : Pi w W cb ab mb B n os ds v A l) (u : Upd cb W W') (C : Blk W' cb 118 #[v']) : Pi w W' cb ab mb B n os ds v' A l :=
  ⟨C, h.P.upd (Ne.symm h.ord.2.2.2.2.1) u, h.M.keep (u.block _ (Ne.symm h.ord.2.2.2.2.2.1)), h.rd.keep (fun a e => u.block _ (h.far a e).2), h.far, below_upd h.below h.ord.1 u, fun D hD => ⟨(h.ds D hD).1, (u.block D (h.dne D hD)).trans (h.ds D hD).2⟩, h.ord, by rw [u.size]; exact h.lt⟩
theorem owns_ints {w : World} {B : Nat} {v : Value} {l : List Int} (h : w.ownsRow B 2 1 v l.length (l.map fun i => .int .i64 i)) : ∃ A cap, v = .slice A l.length cap ∧ Rd w 1 A (l.map fun p => [Value.int .i64 p]) ∧ ∀ a, A = some a → B ≤ a.block ∧ a.block < w.heap.size := by
  rcases h.2 with ⟨rfl, h0⟩ | ⟨g, cap, cur, rfl, hb, hg, hc, _, _, ht⟩
  · rw [h0]
    have : l = [] := List.eq_nil_of_length_eq_zero h0
    subst this
    exact ⟨none, 0, rfl, fun hne => absurd rfl hne, fun a e => by cases e⟩
  · refine ⟨some ⟨g, 0, none⟩, cap, rfl, rd_own (show Blk w g 2 cur from hg) (n := l.length) (fun r hr => ?_) ?_, fun a e => ?_⟩
    · obtain ⟨x, _, rfl⟩ := List.mem_map.1 hr
      rfl
    · rw [ht]
      have : ∀ l : List Int, (l.map fun p => [Value.int .i64 p]).flatten = l.map fun i => Value.int .i64 i := fun l => by induction l with
        | nil => rfl
        | cons a l ih => simp only [List.map_cons, List.flatten_cons, ih]; rfl
      exact (this l).symm
    · cases e
      exact ⟨hb, Blk.lt (show Blk w g 2 cur from hg)⟩
theorem owns_pts {w : World} {B : Nat} {v : Value} {l : List Pt} (h : w.ownsRow B 67 3 v l.length (flatP l)) : ∃ A cap, v = .slice A l.length cap ∧ (0 < l.length → ∃ g cur, A = some ⟨g, 0, none⟩ ∧ B ≤ g ∧ Blk w g 67 cur ∧ cur.toList.take (l.length * 3) = flatP l) := by
  rcases h.2 with ⟨rfl, h0⟩ | ⟨g, cap, cur, rfl, hb, hg, hc, _, _, ht⟩
  · rw [h0]
    exact ⟨none, 0, rfl, fun h => absurd h (Nat.lt_irrefl _)⟩
  · exact ⟨some ⟨g, 0, none⟩, cap, rfl, fun _ => ⟨g, cur, rfl, hb, hg, ht⟩⟩
def SL (cb ab mb : Nat) (os : List Ord) (p : Int) (v : Value) (W : World) : Prop := W.cell? ⟨cb, 0, none⟩ = some v ∧ (W.cell? ⟨ab, 0, none⟩ = some (.map (some mb)) ∧ (Instr.lookup 111 (.map (some mb)) (.int .i64 p) false).run Tryz.prog W = .ok (.agg #[.int .i64 (buyAt os p), .int .i64 (selAt os p)]) W)
/-- The points' row, in the two passes over it. -/
def PtsAt (cur : Array Value) (n : Nat) (f : Nat → Pt) : Prop := ∀ k, k < n → ∀ j u, (f k).cells[j]? = some u → cur[k * 3 + j]? = some u
theorem PtsAt.cong {cur : Array Value} {n : Nat} {f f' : Nat → Pt} (h : PtsAt cur n f) (e : ∀ k, k < n → f' k = f k) : PtsAt cur n f' := fun k hk j u hu => h k hk j u (by rw [← e k hk]; exact hu)
theorem pt_lt {x : Pt} {j : Nat} {u : Value} (h : x.cells[j]? = some u) : j < 3 := (List.getElem?_eq_some_iff.1 h).1
theorem PtsAt.setS {cur : Array Value} {n : Nat} {f f' : Nat → Pt} {i : Nat} {s : Int} (h : PtsAt cur n f) (hi : i * 3 + 2 < cur.size) (h1 : ∀ k, k < n → k ≠ i → f' k = f k) (h2 : f' i = ⟨(f i).price, (f i).demand, s⟩) : PtsAt (cur.setIfInBounds (i * 3 + 2) (.int .i64 s)) n f' := by
  intro k hk j u hu
  have hj := pt_lt hu
  rw [Array.getElem?_setIfInBounds]
  by_cases e : k = i
  · subst e
    rw [h2] at hu
    rcases (show j = 0 ∨ j = 1 ∨ j = 2 by omega) with rfl | rfl | rfl
    · rw [if_neg (by omega)]; exact h k hk 0 u hu
    · rw [if_neg (by omega)]; exact h k hk 1 u hu
    · rw [if_pos rfl, if_pos hi]; exact hu
  · rw [if_neg (by omega)]
    rw [h1 k hk e] at hu
    exact h k hk j u hu
theorem PtsAt.setD {cur : Array Value} {n : Nat} {f f' : Nat → Pt} {i : Nat} {s : Int} (h : PtsAt cur n f) (hi : i * 3 + 1 < cur.size) (h1 : ∀ k, k < n → k ≠ i → f' k = f k) (h2 : f' i = ⟨(f i).price, s, (f i).supply⟩) : PtsAt (cur.setIfInBounds (i * 3 + 1) (.int .i64 s)) n f' := by
  intro k hk j u hu
  have hj := pt_lt hu
  rw [Array.getElem?_setIfInBounds]
  by_cases e : k = i
  · subst e
    rw [h2] at hu
    rcases (show j = 0 ∨ j = 1 ∨ j = 2 by omega) with rfl | rfl | rfl
    · rw [if_neg (by omega)]; exact h k hk 0 u hu
    · rw [if_pos rfl, if_pos hi]; exact hu
    · rw [if_neg (by omega)]; exact h k hk 2 u hu
  · rw [if_neg (by omega)]
    rw [h1 k hk e] at hu
    exact h k hk j u hu
theorem PtsAt.of_flat {cur : Array Value} {ps : List Pt} {f : Nat → Pt} (h : cur.toList.take (ps.length * 3) = flatP ps) (e : ∀ k (hk : k < ps.length), f k = ps[k]) : PtsAt cur ps.length f := by
  intro k hk j u hu
  have hj := pt_lt hu
  have h1 := flat_of (k := 3) (ps.map Pt.cells) (fun r hr => by obtain ⟨x, _, rfl⟩ := List.mem_map.1 hr; rfl) k j u (by
    rw [e k hk] at hu
    simpa [List.getD_eq_getElem?_getD, List.getElem?_map, List.getElem?_eq_getElem hk] using hu)
  rw [show (ps.map Pt.cells).flatten = flatP ps from rfl, ← h, List.getElem?_take] at h1
  split at h1
  · simpa using h1
  · cases h1
structure Pf (w W : World) (cb B n cap : Nat) (ds : List Nat) (A : Option Addr) (f : Nat → Pt) : Prop where
  C : Blk W cb 118 #[.slice A n cap]
  below : Below w.heap.size w W
  ds : ∀ D ∈ ds, D < B ∧ W.heap[D]? = some (.deferred (some []))
  ord : w.heap.size ≤ cb ∧ cb < B ∧ w.heap.size ≤ B
  row : 0 < n → ∃ g cur, A = some ⟨g, 0, none⟩ ∧ B ≤ g ∧ Blk W g 67 cur ∧ n * 3 ≤ cur.size ∧ PtsAt cur n f
theorem Pf.cong {w W : World} {cb B n cap : Nat} {ds : List Nat} {A : Option Addr} {f f' : Nat → Pt} (h : Pf w W cb B n cap ds A f) (e : ∀ k, k < n → f' k = f k) : Pf w W cb B n cap ds A f' :=
  ⟨h.C, h.below, h.ds, h.ord, fun hn => by
    obtain ⟨g, cur, h1, h2, h3, h4, h5⟩ := h.row hn
    exact ⟨g, cur, h1, h2, h3, h4, h5.cong e⟩⟩
theorem Pf.ext {w W W' : World} {cb B n cap : Nat} {ds : List Nat} {A : Option Addr} {f : Nat → Pt} (h : Pf w W cb B n cap ds A f) (hb : Below W.heap.size W W') : Pf w W' cb B n cap ds A f :=
  ⟨h.C.ext hb, below_ext h.below hb, fun D hD => ⟨(h.ds D hD).1, (hb.block D (Array.getElem?_eq_some_iff.1 (h.ds D hD).2).1).trans (h.ds D hD).2⟩, h.ord, fun hn => by
    obtain ⟨g, cur, h1, h2, h3, h4, h5⟩ := h.row hn
    exact ⟨g, cur, h1, h2, h3.ext hb, h4, h5⟩⟩
theorem Pf.upd {w W W' : World} {cb B n cap g : Nat} {ds : List Nat} {f f' : Nat → Pt} {cur' : Array Value} (h : Pf w W cb B n cap ds (some ⟨g, 0, none⟩) f) (hB : B ≤ g) (u : Upd g W W') (hb : Blk W' g 67 cur') (hs : n * 3 ≤ cur'.size) (hp : PtsAt cur' n f') : Pf w W' cb B n cap ds (some ⟨g, 0, none⟩) f' :=
  ⟨h.C.upd (by have := h.ord.2.1; omega) u, below_upd h.below (by have := h.ord.2.2; omega) u, fun D hD => ⟨(h.ds D hD).1, (u.block D (by have := (h.ds D hD).1; omega)).trans (h.ds D hD).2⟩, h.ord, fun _ => ⟨g, cur', rfl, hB, hb, hs, hp⟩⟩
def g3 (os : List Ord) (l : List Int) (i : Nat) : Nat → Pt := fun k => ⟨l.getD k 0, buyAt os (l.getD k 0), if k < i then sup os (l.getD k 0) else selAt os (l.getD k 0)⟩
def g4 (os : List Ord) (l : List Int) (q : Int) : Nat → Pt := fun k => ⟨l.getD k 0, if q < (k : Int) then dem os (l.getD k 0) else buyAt os (l.getD k 0), sup os (l.getD k 0)⟩
theorem getD_at {l : List Int} {k : Nat} (h : k < l.length) : l.getD k 0 = l[k] := by simp [List.getD_eq_getElem?_getD, List.getElem?_eq_getElem h]
def SR (cb g a b n cap : Nat) (x y : Int) (W : World) : Prop := W.cell? ⟨cb, 0, none⟩ = some (.slice (some ⟨g, 0, none⟩) n cap) ∧ (W.cell? ⟨g, a, none⟩ = some (.int .i64 x) ∧ W.cell? ⟨g, b, none⟩ = some (.int .i64 y))
def OfPost (w : World) (os : List Ord) (x : Ending) (w' : World) : Prop :=
  ∃ cb l A cap, x = .returned (.pointer (some ⟨cb, 0, none⟩)) ∧ Cv w' cb (pts os l) A cap ∧ All os l ∧ w.heap.size ≤ cb ∧ Below w.heap.size w w'
theorem dn_perm {os : List Ord} (h : ∀ o ∈ os, o.side = 0 ∨ o.side = 1) : (dn os 2).Perm os := by
  show (srt 0 os ++ srt 1 os).Perm os
  refine ((Bk.srt_perm 0 os).append (Bk.srt_perm 1 os)).trans ?_
  have e : Bk.sdO 1 os = os.filter (fun o => !decide (o.side = 0)) := by
    unfold Bk.sdO
    refine List.filter_congr (fun o ho => ?_)
    rcases h o ho with h | h <;> simp [h]
  rw [e]
  exact List.filter_append_perm (fun o => decide (o.side = 0)) os
theorem dem_perm {a b : List Ord} (h : a.Perm b) (p : Int) : dem a p = dem b p := Bk.qsum_perm (h.filter _)
theorem sup_perm {a b : List Ord} (h : a.Perm b) (p : Int) : sup a p = sup b p := Bk.qsum_perm (h.filter _)
theorem of_fin {w W w' : World} {cb B cap : Nat} {ds : List Nat} {A : Option Addr} {os : List Ord} {l : List Int} {q : Int} (h : Pf w W cb B l.length cap ds A (g4 (dn os 2) l q)) (hq : q < 0) (AL : All (dn os 2) l) (hl : l.length ≤ 1000) (m : Mk ds W w') (hds : ∀ D ∈ ds, w.heap.size ≤ D)
    (hs : ∀ o ∈ os, o.side = 0 ∨ o.side = 1) : OfPost w os (.returned (.pointer (some ⟨cb, 0, none⟩))) w' := by
  have hp := dn_perm hs
  have hkeep : ∀ {g : Nat} {t : TypeId} {cs : Array Value}, Blk W g t cs → Blk w' g t cs := fun {g t cs} hb => (m.block g (fun e => by
    have h1 := (h.ds g e).2
    rw [show W.heap[g]? = _ from hb] at h1
    cases h1)).trans hb
  have hpl : (pts os l).length = l.length := List.length_map _
  refine ⟨cb, l, A, cap, rfl, ⟨by rw [hpl]; exact hkeep h.C, ?_, by omega⟩, ⟨AL.up, fun p => ?_⟩, h.ord.1, ⟨m.os.trans h.below.os, m.tape.trans h.below.tape, m.output.trans h.below.output, by rw [m.size]; exact h.below.size, fun k hk => ?_⟩⟩
  · intro hne
    have hn : 0 < l.length := by
      rcases Nat.eq_zero_or_pos l.length with h0 | h0
      · exact absurd (by rw [List.eq_nil_of_length_eq_zero h0]; rfl) hne
      · exact h0
    obtain ⟨g, cur, rfl, _, hb, hz, hpt⟩ := h.row hn
    refine ⟨g, 0, rfl, fun i j v hv => ?_⟩
    have hi : i < l.length := by
      rcases Nat.lt_or_ge i l.length with h1 | h1
      · exact h1
      · rw [List.getD_eq_getElem?_getD, List.getElem?_eq_none (l := (pts os l).map Pt.cells) (i := i) (by rw [List.length_map, hpl]; omega)] at hv
        simp at hv
    have hv2 : (g4 (dn os 2) l q i).cells[j]? = some v := by
      have e : g4 (dn os 2) l q i = ⟨l[i], dem os l[i], sup os l[i]⟩ := by
        simp only [g4]
        rw [if_pos (by omega), getD_at hi, dem_perm hp, sup_perm hp]
      rw [e]
      simpa [pts, List.getD_eq_getElem?_getD, List.getElem?_map, List.getElem?_eq_getElem hi] using hv
    rw [Nat.zero_add]
    exact ((hkeep hb).cell _).trans (hpt i hi j v hv2)
  · rw [AL.mem p]
    exact ⟨fun ⟨o, ho, e⟩ => ⟨o, hp.mem_iff.1 ho, e⟩, fun ⟨o, ho, e⟩ => ⟨o, hp.mem_iff.2 ho, e⟩⟩
  · exact (m.block k (fun e => by have := hds k e; omega)).trans (h.below.block k hk)
/-- What the loop over a side keeps. -/
structure Oi (mb zb : Nat) (w8 W : World) (os : List Ord) : Prop where
  M : ∃ n, n ≤ os.length ∧ Mp W mb n os
  low : Kc [mb] [] zb w8 W
theorem of_gen {w : World} (bp : Option Addr) (os0 : List Ord) (hok : ∀ o ∈ os0, Bk.okO o) (hfew : os0.length ≤ 500) (hsq : ∀ (W : World) (mb : Nat), Below w.heap.size w W → w.heap.size ≤ mb → mb < W.heap.size → ∀ j : Nat, j < 2 → ∀ bq bi, Blk W bq 27 #[.pointer bp] → Blk W bi 3 #[.int .i64 (j : Int)] →
      SeqO Tryz.prog 79 #[.pointer (some ⟨bq, 0, none⟩), .pointer (some ⟨bi, 0, none⟩)] (Bk.encO (j : Int) os0) (Kc [mb] [] W.heap.size) (fun ys => ys.map (·.1) = srt (j : Int) os0) (fun pre => pre.map (·.1) <+: srt (j : Int) os0) 101000 W) :
    Calls Tryz.prog 27 #[.pointer bp] w (OfPost w os0) := by
  obtain ⟨w0, hw0⟩ : ∃ w0, w0 = ((w.alloc (.map #[] 0)).alloc (.cells #[.map (some w.heap.size)] 111)) := ⟨_, rfl⟩
  have hM0 : Mp w0 w.heap.size 0 [] := by rw [hw0]; exact (Mp.made w).ext (by (repeat (first | with_reducible exact Below.refl _ _ | (with_reducible assumption) | (with_reducible refine below_alloc ?_ _) | (with_reducible refine below_ext (w1 := ?_) ?_ ?_; rotate_left 2; (with_reducible assumption)) | (with_reducible refine Below.setCell ?_ ?_ _; rotate_left; ((try simp) <;> omega)) | (with_reducible refine Below.drew ?_) | (with_reducible refine below_drewN ?_ _) | fail)))
  have hA0 : Blk w0 (w.heap.size + 1) 111 #[.map (some w.heap.size)] := by rw [hw0]; exact Blk.new _ _ _ _ (sz_alloc _ _)
  have hb0 : Below w.heap.size w w0 := by rw [hw0]; (repeat (first | with_reducible exact Below.refl _ _ | (with_reducible assumption) | (with_reducible refine below_alloc ?_ _) | (with_reducible refine below_ext (w1 := ?_) ?_ ?_; rotate_left 2; (with_reducible assumption)) | (with_reducible refine Below.setCell ?_ ?_ _; rotate_left; ((try simp) <;> omega)) | (with_reducible refine Below.drew ?_) | (with_reducible refine below_drewN ?_ _) | fail))
  have hz0 : w0.heap.size = w.heap.size + 1 + 1 := by rw [hw0]; simp only [sz_alloc]
  refine calls_of_wp_marks Tryz.func27 rfl ?_
  simp only [Tryz.ntmps27, List.size_toArray, List.length_cons, List.length_nil, Nat.reduceAdd, Nat.reduceSub, Array.replicate_succ, Array.replicate_zero, List.push_toArray, List.append_toArray, List.nil_append, List.cons_append]
  have HW0 := Lib.hid hw0
  have HZ0 := Lib.hid hz0
  clear hw0 hz0
  have hmm := @run_makeMap Tryz.prog
  go_upto_region 3 with fail
  rw [← HW0.out]
  obtain ⟨mb, hmb⟩ : ∃ x, x = w.heap.size := ⟨_, rfl⟩
  obtain ⟨ab, hab⟩ : ∃ x, x = w.heap.size + 1 := ⟨_, rfl⟩
  rw [← hab] at hA0
  rw [← hmb] at hM0 hA0
  have hfar : w.heap.size ≤ mb ∧ mb < ab ∧ ab < w0.heap.size := by have := HZ0.out; omega
  try rw [← hab]
  have HB0 := Lib.hid hb0
  have HM0 := Lib.hid hM0
  have HA0 := Lib.hid hA0
  have HS := Lib.hid (And.intro hok hfew)
  have HSQ := Lib.hid hsq
  have hlw : w.heap.size ≤ w0.heap.size := hb0.size
  clear HW0 HZ0 hmb hab hb0 hM0 hA0 hok hfew hsq hmm
  go_wp2_with fail
  refine wp_loop (fun a' wr => ∃ (j n : Nat) (ds : List Nat) (u4 u5 u6 u12 u14 u15 u16 u17 u18 u20 u21 u22 u23 u24 u25 u26 u27 u28 u29 u30 u31 u32 u33 u34 u35 : Value), (j ≤ 2 ∧ n ≤ 1000 ∧ Hid (Mp wr mb n (dn (os0) j) ∧ Blk wr ab 111 #[.map (some mb)] ∧ Below w.heap.size w wr ∧ n ≤ (dn (os0) j).length ∧ ds.Nodup ∧ ∀ D ∈ ds, mb < D ∧ wr.heap[D]? = some (.deferred (some [])))) ∧ a' = ⟨#[.pointer bp, undef, .pointer none, .pointer (some ⟨ab, 0, none⟩), u4, u5, u6, undef, undef, undef, undef, undef, u12, .int .i64 (j : Int), u14, u15, u16, u17, u18, undef, u20, u21, u22, u23, u24, u25, u26, u27, u28, u29, u30, u31, u32, u33, u34, u35, undef, undef, undef, undef, undef, undef, undef, undef, undef, undef, undef, undef, undef, undef, undef, undef, undef, undef, undef, undef, undef, undef, undef, undef, undef, undef, undef, undef, undef, undef, undef, undef, undef, undef, undef, undef, undef, undef, undef, undef, undef, undef, undef, undef, undef, undef, undef, undef, undef, undef, undef, undef, undef, undef, undef, undef, undef, undef, undef, undef, undef, undef, undef, undef, undef, undef, undef, undef, undef, undef, undef, undef, undef, undef, undef, undef, undef, undef, undef, undef, undef, undef, undef, undef, undef, undef, undef, undef, undef, undef, undef, undef], ds.map mkD⟩) (fun a' _ => 2 - (intOf (a'.tmps.getD 13 undef)).toNat) ?atStart ?round
  case atStart => exact ⟨0, 0, [], _, _, _, _, _, _, _, _, _, _, _, _, _, _, _, _, _, _, _, _, _, _, _, _, _, ⟨by omega, by omega, Lib.hid ⟨HM0.out, HA0.out, HB0.out, Nat.zero_le _, List.nodup_nil, fun D h => by cases h⟩⟩, rfl⟩
  case round =>
    intro a' wr hinv
    obtain ⟨j, n, ds, u4, u5, u6, u12, u14, u15, u16, u17, u18, u20, u21, u22, u23, u24, u25, u26, u27, u28, u29, u30, u31, u32, u33, u34, u35, ⟨hj, hn, HI⟩, rfl⟩ := hinv
    try dsimp only
    clear HM0 HA0
    by_cases hlt : j < 2
    · have e1 : (j : Int) < 2 := by omega
      have e2 : (0 : Int) ≤ (j : Int) := by omega
      have HLT := Lib.hid hlt
      clear hlt
      have hJ0 : Blk (wr.alloc (.cells #[.int .i64 (j : Int)] 3)) wr.heap.size 3 #[.int .i64 (j : Int)] := Blk.new _ _ _ _ rfl
      have hbj : Below wr.heap.size wr (wr.alloc (.cells #[.int .i64 (j : Int)] 3)) := by (repeat (first | with_reducible exact Below.refl _ _ | (with_reducible assumption) | (with_reducible refine below_alloc ?_ _) | (with_reducible refine below_ext (w1 := ?_) ?_ ?_; rotate_left 2; (with_reducible assumption)) | (with_reducible refine Below.setCell ?_ ?_ _; rotate_left; ((try simp) <;> omega)) | (with_reducible refine Below.drew ?_) | (with_reducible refine below_drewN ?_ _) | fail))
      go_wp2_with fail
      refine (Bk.each_any bp (j : Int) _).mono ?_
      rintro e w8 ⟨rfl, hQ8, hI8, hb8⟩
      rw [sz_alloc] at hQ8 hI8
      have hJ8 := hJ0.ext hb8
      have hA8 := (HI.out.2.1.ext hbj).ext hb8
      have hM8 := (HI.out.1.ext hbj).ext hb8
      have hB8 := below_ext (below_ext HI.out.2.2.1 hbj) hb8
      have hsz8 := hb8.size
      have hszj : (wr.alloc (.cells #[.int .i64 (j : Int)] 3)).heap.size = wr.heap.size + 1 := sz_alloc _ _
      have lMr := HI.out.1.lt
      have lAr := HI.out.2.1.lt
      obtain ⟨sb, hsb⟩ : ∃ x, x = wr.heap.size := ⟨_, rfl⟩
      have hfar8 : mb < sb ∧ ab < sb ∧ sb < w8.heap.size := by omega
      rw [← hsb] at hJ8
      have hseq := Lib.hid (HSQ.out w8 mb hB8 (by omega) (by omega) j HLT.out _ _ hQ8 hI8)
      have HOK := Lib.hid (HS.out.1)
      have HFW := Lib.hid (HS.out.2)
      have HJ8 := Lib.hid hJ8
      have HA8 := Lib.hid hA8
      have HM8 := Lib.hid hM8
      have HB8 := Lib.hid hB8
      have HN8 := Lib.hid HI.out.2.2.2.1
      have HD8 : Hid (ds.Nodup ∧ ∀ D ∈ ds, mb < D ∧ D < w8.heap.size ∧ w8.heap[D]? = some (.deferred (some []))) := Lib.hid ⟨HI.out.2.2.2.2.1, fun D hD => by
        obtain ⟨d1, d2⟩ := HI.out.2.2.2.2.2 D hD
        have d3 := (Array.getElem?_eq_some_iff.1 d2).1
        exact ⟨d1, by omega, (hb8.block D (by omega)).trans ((hbj.block D d3).trans d2)⟩⟩
      try rw [← hsb]
      clear hQ8 hI8 hb8 hbj hJ0 hJ8 hA8 hM8 hB8 hsz8 hszj lMr lAr HI hsb
      go_wp2_with fail
      refine' wp_rangeFuncOF [mb] [] (gf := 79) (by rfl) (enters_of Tryz.func79 (by kernel_rfl) rfl) hseq.out (fun _ => rfl)
        (fun pre W => ∃ m, m ≤ (dn (os0) j ++ pre.map (·.1)).length ∧ Mp W mb m (dn (os0) j ++ pre.map (·.1)) ∧ Kc [mb] [] w8.heap.size w8 W)
        (fun cd pre W => False)
        ?I ?Ix ?h0 _ (fun x bx W => w8.heap.size ≤ bx ∧ Blk W bx 52 x.1.arr) ?hBx ?assign ?body ?done ?stop
      case I =>
        rintro pre W W' row ⟨m, h1, h2, h3⟩ hg hr
        have hlow := h3.low.size
        exact ⟨m, h1, h2.keep (hg.block mb h2.lt (fun e => by have := (hr mb e.symm).1; omega)), Bk.kc_own w8 (Nat.le_refl _) (Nat.le_refl _) () W W' row h3 hg hr⟩
      case Ix =>
        rintro cd pre W W' row h hg hr
        exact h
      case h0 => exact ⟨n, by simpa using HN8.out, by simpa using HM8.out, Kc.refl _ _ _ _⟩
      case hBx =>
        rintro x bx _ W W' row ⟨h2, h3⟩ hg hr
        exact ⟨h2, h3.own hg hr⟩
      case assign =>
        intro l pre x W K hI hK
        obtain ⟨m, h1, h2, h3⟩ := hI
        have hsz := h3.low.size
        have hX0 : Blk (W.alloc (.cells Are.ord0.arr 52)) W.heap.size 52 Are.ord0.arr := Blk.new _ _ _ _ rfl
        unfold Bk.encO
        refine round_region_lit (by kernel_rfl) (fun ⟨_, _, h⟩ => h) ?_
        go_wp2_with (first | ((with_reducible show wpList _ _ _ (⟨_, .store 52 _ _, _, _, _, _⟩ :: _) _ _); refine wpList_store_blk (by rfl) 52 _ _ (by rfl) _ _ (by rfl) (by rfl) _ _ hX0 (by kernel_rfl) (by rfl) ?_ ?_; (next => first | (simp [Value.oneCell']; done) | (simp [Value.oneCell']; done) | exact Are.ordArr_one _); intro W5 hX5 hU5) | fail)
        have hW5 : Below W.heap.size W W5 := below_upd (by (repeat (first | with_reducible exact Below.refl _ _ | (with_reducible assumption) | (with_reducible refine below_alloc ?_ _) | (with_reducible refine below_ext (w1 := ?_) ?_ ?_; rotate_left 2; (with_reducible assumption)) | (with_reducible refine Below.setCell ?_ ?_ _; rotate_left; ((try simp) <;> omega)) | (with_reducible refine Below.drew ?_) | (with_reducible refine below_drewN ?_ _) | fail))) (Nat.le_refl _) hU5
        try simp only [Act.put]
        obtain ⟨bx, hbe⟩ : ∃ b, b = W.heap.size := ⟨_, rfl⟩
        rw [← hbe] at hX5 ⊢
        have hk5 : Kc [mb] [] w8.heap.size W W5 := Kc.of_below hW5 hsz
        exact hK bx W5 (keepsFrom_below hW5) hk5 ⟨m, h1, h2.ext hW5, h3.trans hk5⟩ ⟨by omega, hX5⟩
      case body =>
        rintro l pre ⟨o, ho⟩ bx W ⟨m, hm1, hm2, h3⟩ ⟨hbx, hX⟩ hlt2
        obtain ⟨hoo, hside⟩ := srt_mem ho
        obtain ⟨hsd, hpx, hqt, hid⟩ := HOK.out o hoo
        have hlw := h3.low.size
        obtain ⟨qs, hqs⟩ : ∃ qs, qs = dn (os0) j ++ pre.map (·.1) := ⟨_, rfl⟩
        have hq1 : ∀ o ∈ qs, 1 ≤ o.qty ∧ o.qty ≤ 4294967296 := by
          intro x hx
          rw [hqs] at hx
          rcases List.mem_append.1 hx with h | h
          · exact (HOK.out x (dn_mem h)).2.2.1
          · obtain ⟨y, hy, rfl⟩ := List.mem_map.1 h
            exact (HOK.out _ (srt_mem y.2).1).2.2.1
        have hql : qs.length ≤ 102000 := by
          rw [hqs, List.length_append, List.length_map]
          have := dn_len (os0) j
          have := HFW.out
          omega
        have HQ : Hid (dn (os0) j ++ (pre ++ [(⟨o, ho⟩ : Oo (j : Int) (os0))]).map (·.1) = qs ++ [o]) := Lib.hid (by rw [hqs]; simp)
        rw [← hqs] at hm1 hm2
        obtain ⟨z, hz⟩ : ∃ z, z = atS qs j o.price := ⟨_, rfl⟩
        have hrg : 0 ≤ z ∧ z ≤ 438086664192000 := by rw [hz]; exact atS_rng hq1 hql j o.price
        have hwf : Wf o.price := WalkArith.wf_i64 (by omega)
        have hA : Blk W ab 111 #[.map (some mb)] := h3.low_blk HA8.out (by simp; omega) (by omega)
        have hJ : Blk W sb 3 #[.int .i64 (j : Int)] := h3.low_blk HJ8.out (by simp; omega) (by omega)
        have a0 : W.cell? ⟨ab, 0, none⟩ = some (.map (some mb)) := hA.cell 0
        have o3 : W.cell? ⟨bx, 3, none⟩ = some (.int .i64 o.price) := hX.cell 3
        have hlk := hm2.look hwf
        have hN0 : Blk (W.alloc (.cells #[.int .i64 0, .int .i64 0] 115)) W.heap.size 115 #[.int .i64 0, .int .i64 0] := Blk.new _ _ _ _ rfl
        have HZ := Lib.hid hz
        have H3 := Lib.hid h3
        have HM := Lib.hid hm2
        have HM1 := Lib.hid hm1
        have HJW := Lib.hid hJ
        have HXW := Lib.hid hX
        have HAW := Lib.hid hA
        have HWF := Lib.hid hwf
        have lab : ab < W.heap.size := hA.lt
        have lbx : bx < W.heap.size := hX.lt
        have lsb : sb < W.heap.size := hJ.lt
        have hwr : IntKind.i64.wrap (z + o.qty) = z + o.qty := IntWalk.i64_in _ (by omega)
        clear hseq hqs hq1 hm2 h3 hX hJ hA hz
        refine wpIn_block ?_
        refine wpIn_seq ?_
        refine round_region_lit (by kernel_rfl) (fun ⟨_, _, h⟩ => h) ?_
        go_wp2_with (first | ((with_reducible show wpList _ _ _ (⟨_, .store 115 _ _, _, _, _, _⟩ :: _) _ _); refine wpList_store_blk (by rfl) 115 _ _ (by rfl) _ _ (by rfl) (by rfl) _ _ hN0 (by kernel_rfl) (by rfl) ?_ ?_; (next => first | (simp [Value.oneCell']; done) | (simp [Value.oneCell', Edt.cells]; done) | exact Are.ordArr_one _); intro W5 hN5 hU5) | fail)
        have hb5 : Below W.heap.size W W5 := below_upd (by (repeat (first | with_reducible exact Below.refl _ _ | (with_reducible assumption) | (with_reducible refine below_alloc ?_ _) | (with_reducible refine below_ext (w1 := ?_) ?_ ?_; rotate_left 2; (with_reducible assumption)) | (with_reducible refine Below.setCell ?_ ?_ _; rotate_left; ((try simp) <;> omega)) | (with_reducible refine Below.drew ?_) | (with_reducible refine below_drewN ?_ _) | fail))) (Nat.le_refl _) hU5
        replace hN5 : Blk W5 W.heap.size 115 (pr qs o.price) := hN5
        try simp only [Act.put]
        clear hU5 hN0 a0 o3 hlk
        refine wpIn_seq ?_
        refine round_region_T (S := SN ab bx sb W.heap.size mb j o z) 7 (by kernel_rfl) (by kernel_rfl) (fun ⟨_, _, h⟩ => h) ?_
        have hbd : Below W5.heap.size W5 W5.drew := (Below.refl _ _).drew
        have hb6 := below_ext hb5 hbd
        have hN6 := hN5.ext hbd
        generalize W5.drew = W6 at *
        have hS : SN ab bx sb W.heap.size mb j o z W6 := ⟨(HJW.out.ext hb6).cell 0, by rw [HZ.out]; exact (hN6.cell j).trans (pr_at qs o.price HLT.out), (Blk.ext HXW.out hb6).cell 4⟩
        (refine T_take (i := 0) rfl (by kernel_rfl) (fun _ _ _ _ h => h) hS ?_; apply Exists.intro; refine ⟨.inl ⟨by rfl, fun W hW => ?_⟩, ?_⟩; (next => (obtain ⟨hs1, hs2⟩ := hW; go_simp; first | done | rfl)); simp only [Act.put, List.setIfInBounds_toArray, List.set_cons_zero, List.set_cons_succ])
        (refine T_take (i := 1) rfl (by kernel_rfl) (fun _ _ _ _ h => h) hS ?_; apply Exists.intro; refine ⟨.inl ⟨by rfl, fun W hW => ?_⟩, ?_⟩; (next => (obtain ⟨hs1, hs2⟩ := hW; go_simp; first | done | rfl)); simp only [Act.put, List.setIfInBounds_toArray, List.set_cons_zero, List.set_cons_succ])
        (refine T_take (i := 2) rfl (by kernel_rfl) (fun _ _ _ _ h => h) hS ?_; apply Exists.intro; refine ⟨.inl ⟨by rfl, fun W hW => ?_⟩, ?_⟩; (next => (obtain ⟨hs1, hs2⟩ := hW; go_simp; first | done | rfl)); simp only [Act.put, List.setIfInBounds_toArray, List.set_cons_zero, List.set_cons_succ])
        (refine T_take (i := 3) rfl (by kernel_rfl) (fun _ _ _ _ h => h) hS ?_; apply Exists.intro; refine ⟨.inl ⟨by rfl, fun W hW => ?_⟩, ?_⟩; (next => (obtain ⟨hs1, hs2⟩ := hW; go_simp; first | done | rfl)); simp only [Act.put, List.setIfInBounds_toArray, List.set_cons_zero, List.set_cons_succ])
        (refine T_take (i := 4) rfl (by kernel_rfl) (fun _ _ _ _ h => h) hS ?_; apply Exists.intro; refine ⟨.inl ⟨by rfl, fun W hW => ?_⟩, ?_⟩; (next => (obtain ⟨hs1, hs2⟩ := hW; go_simp; first | done | rfl)); simp only [Act.put, List.setIfInBounds_toArray, List.set_cons_zero, List.set_cons_succ])
        (refine T_take (i := 5) rfl (by kernel_rfl) (fun _ _ _ _ h => h) hS ?_; apply Exists.intro; refine ⟨.inl ⟨by rfl, fun W hW => ?_⟩, ?_⟩; (next => (obtain ⟨hs1, hs2⟩ := hW; go_simp; first | done | rfl)); simp only [Act.put, List.setIfInBounds_toArray, List.set_cons_zero, List.set_cons_succ])
        (refine T_take (i := 6) rfl (by kernel_rfl) (fun _ _ _ _ h => h) hS ?_; apply Exists.intro; refine ⟨.inl ⟨by rfl, fun W hW => ?_⟩, ?_⟩; (next => (obtain ⟨hs1, hs2⟩ := hW; go_simp; first | done | rfl)); simp only [Act.put, List.setIfInBounds_toArray, List.set_cons_zero, List.set_cons_succ])
        refine T_all [7] (by kernel_rfl) (by decide) ?_
        intro q hq
        simp only [List.mem_cons, or_false, List.not_mem_nil] at hq
        subst hq
        refine T_op rfl (by rfl) ?_
        refine wp_store_fld _ _ _ (by rfl) W.heap.size j (by rfl) (.int .i64 (z + o.qty)) (by rfl) _ _ hN6 (by rw [pr_size]; exact HLT.out) (by kernel_rfl) rfl rfl ?_
        intro W7 hN7 hU7
        refine ⟨.inl rfl, ?_⟩
        simp only [Act.put]
        refine T_done (by kernel_rfl) ?_
        rw [HZ.out, pr_put qs o HLT.out hside] at hN7
        have hA7 : Blk W7 ab 111 #[.map (some mb)] := (HAW.out.ext hb6).upd (by omega) hU7
        have hX7 : Blk W7 bx 52 o.arr := (Blk.ext HXW.out hb6).upd (by omega) hU7
        have hb7 : Below W.heap.size W W7 := below_upd hb6 (Nat.le_refl _) hU7
        obtain ⟨D, hown, hD⟩ := HM.out.ext hb7
        have a7 : W7.cell? ⟨ab, 0, none⟩ = some (.map (some mb)) := hA7.cell 0
        have o7 : W7.cell? ⟨bx, 3, none⟩ = some (.int .i64 o.price) := hX7.cell 3
        have HD := Lib.hid hD
        clear hS hN6 hbd hb6 hN5 hA7 hX7 hD
        refine round_region_lit (by kernel_rfl) (fun ⟨_, _, h⟩ => h) ?_
        go_wp2_with (first | ((with_reducible show wpList _ _ _ (⟨_, .load 115 _, _, _, _, _⟩ :: _) _ _); refine wpList_load_ho 115 _ (by rfl) (by rfl) ?_ (.pointer (some ⟨_, 0, none⟩)) (by rfl) ?_ _ Tryz.underlying115 rfl ?_ ?_; rotate_left; (next => (repeat (first | (with_reducible refine BlkAt.new _ _ _ _ ?_; ((try simp) <;> omega)) | (with_reducible assumption) | (with_reducible refine Blk.at (t := ?_) ?_; rotate_left; with_reducible assumption) | with_reducible refine BlkAt.alloc ?_ _ | with_reducible refine BlkAt.drew ?_ | (with_reducible refine BlkAt.setSame ?_ _ _) | (with_reducible refine BlkAt.setCell ?_ ?_ _; rotate_left; ((try simp) <;> omega)) | (with_reducible refine BlkAt.ext (w := ?_) ?_ ?_; rotate_left 2; (with_reducible assumption)) | fail))); (next => kernel_rfl)) | (at_mapUpdate; refine wpList_mapUpdate_in _ rfl _ _ _ 111 rfl 2 115 lawJ Tryz.underlying111 pairElem mb m D rfl hown ?_ _ _ (.int .i64 o.price) rfl rfl (keyJ HWF.out) (.agg [num (buyAt (qs ++ [o]) o.price), num (selAt (qs ++ [o]) o.price)]) [] (pair_mk _ _) ?_; (next => unfold maxLen; omega); intro W8 hown8 hturn8) | fail)
        have hU8 := turned_upd hturn8
        obtain ⟨k1, k2⟩ := oi_step (zb := w8.heap.size) hlw (by omega) hb7 hU8
        obtain ⟨es, hDe, _⟩ := hown.entries lawJ
        refine ⟨k1, k2, m + 1, ?_, ?_, H3.out.trans k2⟩
        · have h := congrArg List.length HQ.out
          simp at h ⊢
          omega
        · show Mp W8 mb (m + 1) (dn (os0) j ++ (pre ++ [(⟨o, ho⟩ : Oo (j : Int) (os0))]).map (·.1))
          rw [HQ.out]
          exact ⟨_, hown8, HD.out.put ⟨es, hDe⟩ HWF.out⟩
      case done =>
        rintro D ys W hD hys ⟨m, hm1, hm2, h3⟩ hK
        rw [hys, ← dn_succ _ HLT.out] at hm1 hm2
        have hlw := h3.low.size
        have hA : Blk W ab 111 #[.map (some mb)] := h3.low_blk HA8.out (by simp; omega) (by omega)
        have hBW : Below w.heap.size w W := HB8.out.trans ⟨h3.low.os, h3.low.tape, h3.low.output, h3.low.size, fun q hq => h3.low.block q (by omega) (by simp; omega)⟩
        have hml := Nat.le_trans hm1 (dn_len (os0) (j + 1))
        have hfw := HFW.out
        have HE : Hid (Mp W mb m (dn (os0) (j + 1)) ∧ Blk W ab 111 #[.map (some mb)] ∧ Below w.heap.size w W ∧ m ≤ (dn (os0) (j + 1)).length ∧ (D :: ds).Nodup ∧ ∀ E ∈ D :: ds, mb < E ∧ W.heap[E]? = some (.deferred (some []))) := Lib.hid ⟨hm2, hA, hBW, hm1, List.nodup_cons.2 ⟨fun h => by have := (HD8.out.2 D h).2.1; omega, HD8.out.1⟩, fun E hE => by
          rcases List.mem_cons.1 hE with rfl | hE
          · exact ⟨by omega, hK⟩
          · obtain ⟨d1, d2, d3⟩ := HD8.out.2 E hE
            exact ⟨d1, (h3.low.block E d2 (by simp; omega)).trans d3⟩⟩
        have hlt := HLT.out
        clear hseq hys hm1 hm2 h3 hA hBW hK HD8 HM8 HN8
        go_wp2_with fail
        refine ⟨⟨j + 1, m, D :: ds, _, _, _, _, _, _, _, _, _, _, _, _, _, _, _, _, _, _, _, _, _, _, _, _, _, ⟨by omega, by omega, HE⟩, rfl⟩, ?_⟩
        simp [intOf]
        omega
      case stop =>
        rintro D cd pre W hD hp h hK
        exact h.elim
    · obtain rfl : j = 2 := by omega
      obtain ⟨os, hos⟩ : ∃ os, os = dn (os0) 2 := ⟨_, rfl⟩
      rw [← hos] at HI
      have HOS := Lib.hid hos
      clear hos
      have hC0 : Blk (wr.alloc (.cells #[.slice none 0 0] 118)) wr.heap.size 118 #[.slice none 0 0] := Blk.new _ _ _ _ rfl
      have hbc : Below wr.heap.size wr (wr.alloc (.cells #[.slice none 0 0] 118)) := by (repeat (first | with_reducible exact Below.refl _ _ | (with_reducible assumption) | (with_reducible refine below_alloc ?_ _) | (with_reducible refine below_ext (w1 := ?_) ?_ ?_; rotate_left 2; (with_reducible assumption)) | (with_reducible refine Below.setCell ?_ ?_ _; rotate_left; ((try simp) <;> omega)) | (with_reducible refine Below.drew ?_) | (with_reducible refine below_drewN ?_ _) | fail))
      have hzc : (wr.alloc (.cells #[.slice none 0 0] 118)).heap.size = wr.heap.size + 1 := sz_alloc _ _
      have a0 : wr.cell? ⟨ab, 0, none⟩ = some (.map (some mb)) := HI.out.2.1.cell 0
      have lab : ab < wr.heap.size := HI.out.2.1.lt
      have hWO : ∀ o ∈ os, Wf o.price := by
        rw [HOS.out]
        exact fun o ho => WalkArith.wf_i64 (by have := (HS.out.1 o (dn_mem ho)).2.1; omega)
      have HWO := Lib.hid hWO
      have HZC := Lib.hid hzc
      have HC0 := Lib.hid hC0
      have HBC := Lib.hid hbc
      clear hWO hzc hC0 hbc
      have hk0 : Blk ((wr.alloc (.cells #[.slice none 0 0] 118)).alloc (.cells #[.map (some mb)] 111)) (wr.heap.size + 1) 111 #[.map (some mb)] := Blk.new _ _ _ _ (sz_alloc _ _)
      have hbk : Below wr.heap.size wr ((wr.alloc (.cells #[.slice none 0 0] 118)).alloc (.cells #[.map (some mb)] 111)) := by (repeat (first | with_reducible exact Below.refl _ _ | (with_reducible assumption) | (with_reducible refine below_alloc ?_ _) | (with_reducible refine below_ext (w1 := ?_) ?_ ?_; rotate_left 2; (with_reducible assumption)) | (with_reducible refine Below.setCell ?_ ?_ _; rotate_left; ((try simp) <;> omega)) | (with_reducible refine Below.drew ?_) | (with_reducible refine below_drewN ?_ _) | fail))
      have hzk : ((wr.alloc (.cells #[.slice none 0 0] 118)).alloc (.cells #[.map (some mb)] 111)).heap.size = wr.heap.size + 1 + 1 := by simp only [sz_alloc]
      have HSO := Lib.hid (sorted_any (w := w) (HI.out.1.ext hbk) hn HWO.out hk0)
      have HBK := Lib.hid hbk
      have HZK := Lib.hid hzk
      have HC1 : Hid (Blk ((wr.alloc (.cells #[.slice none 0 0] 118)).alloc (.cells #[.map (some mb)] 111)) wr.heap.size 118 #[.slice none 0 0]) := Lib.hid (HC0.out.alloc _)
      clear hk0 hbk hzk HC0 HBC HZC
      go_wp2_with (first | (go_at_call 58; refine (keys_any _ _).mono ?_; rintro e w2 ⟨rfl, rfl⟩) | (go_at_call 57; refine (show Calls _ _ _ _ _ from HSO.out).mono ?_; rintro e w3 ⟨v, l, rfl, hAll, hll, hown, hb3⟩; obtain ⟨A, cap, rfl, hrd, hfr⟩ := owns_ints hown) | fail)
      have hzk := HZK.out
      have hz3 := hb3.size
      have hw := HI.out.2.2.1.size
      have lmb := HI.out.1.lt
      have K0 : Pi w w3 wr.heap.size ab mb w3.heap.size n os ds (.slice none 0 0) A l := by
        refine ⟨HC1.out.ext hb3, (HI.out.2.1.ext HBK.out).ext hb3, (HI.out.1.ext HBK.out).ext hb3, hrd, fun a e => ?_, below_ext (below_ext HI.out.2.2.1 HBK.out) hb3, fun D hD => ?_, by omega, Nat.le_refl _⟩
        · have := hfr a e
          omega
        · have h1 := (HI.out.2.2.2.2.2 D hD).2
          have h2 := (Array.getElem?_eq_some_iff.1 h1).1
          exact ⟨by omega, (hb3.block D (by omega)).trans ((HBK.out.block D h2).trans h1)⟩
      have HND := Lib.hid HI.out.2.2.2.2.1
      have HDL : Hid (∀ D ∈ ds, w.heap.size ≤ D) := Lib.hid (fun D hD => by have := (HI.out.2.2.2.2.2 D hD).1; omega)
      have HAL := Lib.hid hAll
      have HK0 := Lib.hid K0
      obtain ⟨B, hB⟩ : ∃ B, B = w3.heap.size := ⟨_, rfl⟩
      obtain ⟨cb, hcb⟩ : ∃ x, x = wr.heap.size := ⟨_, rfl⟩
      rw [← hB, ← hcb] at HK0
      rw [← hcb]
      have hl1 : l.length ≤ 1000 := by omega
      clear HC1 HBK HZK HSO K0 hown hb3 hrd hfr hzk hz3 hw lmb a0 lab HI hAll hB hcb hll
      go_wp2_with fail
      go_loopw [42] (fun iv W => ∃ (i : Nat) (v : Value), iv = .int .i64 i ∧ i ≤ l.length ∧ Hid (Pi w W cb ab mb B n os ds v A l ∧ W.ownsRow B 67 3 v ((l.take i).map (row1 os)).length (flatP ((l.take i).map (row1 os))))) (fun iv _ => l.length - (intOf iv).toNat)
      case atStart => exact ⟨0, _, rfl, Nat.zero_le _, Lib.hid ⟨HK0.out, World.ownsRow_nil _ _ _ _⟩⟩
      case round =>
        obtain ⟨i, v, rfl, hi, HK⟩ := hrel
        clear HK0
        by_cases hlt : i < l.length
        · have e1 : (i : Int) < (l.length : Int) := by omega
          have HLT := Lib.hid hlt
          obtain ⟨sb, so, rfl, hm⟩ := Bk.rd_rngB HK.out.1.rd HLT.out
          rw [Nat.mul_one] at hm
          have s0 : wr.cell? ⟨sb, so + i, none⟩ = some (.int .i64 (l[i]'HLT.out)) := hm 0 _ rfl
          obtain ⟨p, hp⟩ : ∃ p, p = l[i]'HLT.out := ⟨_, rfl⟩
          rw [← hp] at s0
          have HP := Lib.hid hp
          have HX : Hid (l.take (i + 1) = l.take i ++ [p]) := Lib.hid (by rw [hp]; exact List.take_succ_eq_append_getElem HLT.out)
          have hln : ((l.take i).map (row1 os)).length ≤ 1000 := by simp; omega
          have HPW : Hid (Wf p) := Lib.hid (by
            obtain ⟨o, ho, e⟩ := (HAL.out.mem p).1 (by rw [hp]; exact List.getElem_mem _)
            rw [← e]
            exact HWO.out o ho)
          clear hlt hm hp
          go_wp2_with fail
          refine wp_region_TP (S := SL cb ab mb os p v) 19 (by kernel_rfl) ?_
          have hbd : Below wr.heap.size wr wr.drew := (Below.refl _ _).drew
          have K1 := HK.out.1.ext hbd
          have own1 := owns_ext HK.out.2 hbd
          generalize wr.drew = w1 at *
          have HS1 : Hid (∀ W, Below w1.heap.size w1 W → SL cb ab mb os p v W) := Lib.hid (fun W hW => ⟨(K1.C.ext hW).cell 0, (K1.P.ext hW).cell 0, (K1.M.ext hW).look HPW.out⟩)
          have HK1 := Lib.hid (And.intro K1 own1)
          have hS := HS1.out _ (Below.refl _ _)
          have hB1 : B ≤ w1.heap.size := K1.lt
          clear K1 own1 hbd s0 HK
          (refine T_take (i := 0) rfl (by kernel_rfl) (fun _ _ _ _ h => h) hS ?_; apply Exists.intro; refine ⟨.inl ⟨by rfl, fun W hW => ?_⟩, ?_⟩; (next => (obtain ⟨hs1, hs2⟩ := hW; go_simp; first | done | rfl)); simp only [Act.put, List.setIfInBounds_toArray, List.set_cons_zero, List.set_cons_succ])
          (refine T_take (i := 1) rfl (by kernel_rfl) (fun _ _ _ _ h => h) hS ?_; apply Exists.intro; refine ⟨.inl ⟨by rfl, fun W hW => ?_⟩, ?_⟩; (next => (obtain ⟨hs1, hs2⟩ := hW; go_simp; first | done | rfl)); simp only [Act.put, List.setIfInBounds_toArray, List.set_cons_zero, List.set_cons_succ])
          (refine T_take (i := 2) rfl (by kernel_rfl) (fun _ _ _ _ h => h) hS ?_; apply Exists.intro; refine ⟨.inl ⟨by rfl, fun W hW => ?_⟩, ?_⟩; (next => (obtain ⟨hs1, hs2⟩ := hW; go_simp; first | done | rfl)); simp only [Act.put, List.setIfInBounds_toArray, List.set_cons_zero, List.set_cons_succ])
          (refine T_take (i := 3) rfl (by kernel_rfl) (fun _ _ _ _ h => h) hS ?_; apply Exists.intro; refine ⟨.inl ⟨by rfl, fun W hW => ?_⟩, ?_⟩; (next => (obtain ⟨hs1, hs2⟩ := hW; go_simp; first | done | rfl)); simp only [Act.put, List.setIfInBounds_toArray, List.set_cons_zero, List.set_cons_succ])
          (refine T_take (i := 4) rfl (by kernel_rfl) (fun _ _ _ _ h => h) hS ?_; apply Exists.intro; refine ⟨.inl ⟨by rfl, fun W hW => ?_⟩, ?_⟩; (next => (obtain ⟨hs1, hs2⟩ := hW; go_simp; first | done | rfl)); simp only [Act.put, List.setIfInBounds_toArray, List.set_cons_zero, List.set_cons_succ])
          (refine T_take (i := 5) rfl (by kernel_rfl) (fun _ _ _ _ h => h) hS ?_; apply Exists.intro; refine ⟨.inl ⟨by rfl, fun W hW => ?_⟩, ?_⟩; (next => (obtain ⟨hs1, hs2⟩ := hW; go_simp; first | done | rfl)); simp only [Act.put, List.setIfInBounds_toArray, List.set_cons_zero, List.set_cons_succ])
          (refine T_take (i := 6) rfl (by kernel_rfl) (fun _ _ _ _ h => h) hS ?_; apply Exists.intro; refine ⟨.inl ⟨by rfl, fun W hW => ?_⟩, ?_⟩; (next => (obtain ⟨hs1, hs2⟩ := hW; go_simp; first | done | rfl)); simp only [Act.put, List.setIfInBounds_toArray, List.set_cons_zero, List.set_cons_succ])
          (refine T_take (i := 7) rfl (by kernel_rfl) (fun _ _ _ _ h => h) hS ?_; apply Exists.intro; refine ⟨.inl ⟨by rfl, fun W hW => ?_⟩, ?_⟩; (next => (obtain ⟨hs1, hs2⟩ := hW; go_simp; first | done | rfl)); simp only [Act.put, List.setIfInBounds_toArray, List.set_cons_zero, List.set_cons_succ])
          (refine T_take (i := 8) rfl (by kernel_rfl) (fun _ _ _ _ h => h) hS ?_; apply Exists.intro; refine ⟨.inl ⟨by rfl, fun W hW => ?_⟩, ?_⟩; (next => (obtain ⟨hs1, hs2⟩ := hW; go_simp; first | done | rfl)); simp only [Act.put, List.setIfInBounds_toArray, List.set_cons_zero, List.set_cons_succ])
          (refine T_take (i := 9) rfl (by kernel_rfl) (fun _ _ _ _ h => h) hS ?_; apply Exists.intro; refine ⟨.inl ⟨by rfl, fun W hW => ?_⟩, ?_⟩; (next => (obtain ⟨hs1, hs2⟩ := hW; go_simp; first | done | rfl)); simp only [Act.put, List.setIfInBounds_toArray, List.set_cons_zero, List.set_cons_succ])
          (refine T_take (i := 10) rfl (by kernel_rfl) (fun _ _ _ _ h => h) hS ?_; apply Exists.intro; refine ⟨.inl ⟨by rfl, fun W hW => ?_⟩, ?_⟩; (next => (obtain ⟨hs1, hs2⟩ := hW; go_simp; first | done | rfl)); simp only [Act.put, List.setIfInBounds_toArray, List.set_cons_zero, List.set_cons_succ])
          (refine T_take (i := 11) rfl (by kernel_rfl) (fun _ _ _ _ h => h) hS ?_; apply Exists.intro; refine ⟨.inl ⟨by rfl, fun W hW => ?_⟩, ?_⟩; (next => (obtain ⟨hs1, hs2⟩ := hW; go_simp; first | done | rfl)); simp only [Act.put, List.setIfInBounds_toArray, List.set_cons_zero, List.set_cons_succ])
          (refine T_take (i := 12) rfl (by kernel_rfl) (fun _ _ _ _ h => h) hS ?_; apply Exists.intro; refine ⟨.inl ⟨by rfl, fun W hW => ?_⟩, ?_⟩; (next => (obtain ⟨hs1, hs2⟩ := hW; go_simp; first | done | rfl)); simp only [Act.put, List.setIfInBounds_toArray, List.set_cons_zero, List.set_cons_succ])
          (refine T_take (i := 13) rfl (by kernel_rfl) (fun _ _ _ _ h => h) hS ?_; apply Exists.intro; refine ⟨.inl ⟨by rfl, fun W hW => ?_⟩, ?_⟩; (next => (obtain ⟨hs1, hs2⟩ := hW; go_simp; first | done | rfl)); simp only [Act.put, List.setIfInBounds_toArray, List.set_cons_zero, List.set_cons_succ])
          (refine T_take (i := 14) rfl (by kernel_rfl) (fun _ _ _ _ h => h) hS ?_; refine ⟨_, y_build _ _ rfl (by rfl) (row1 os p).arr ?_, ?_⟩; (next => simp only [List.map_toArray, List.map_cons, List.map_nil, go_sem]; exact built_pt ..); simp only [Act.put, List.setIfInBounds_toArray, List.set_cons_zero, List.set_cons_succ])
          refine T_all [15] (by kernel_rfl) (by decide) ?_
          intro q hq
          simp only [List.mem_cons, or_false, List.not_mem_nil] at hq
          subst hq
          refine T_op rfl (by rfl) ?_
          refine wp_build1 _ 67 _ (by rfl) (.agg #[.int .i64 0, .int .i64 0, .int .i64 0]) 3 Tryz.underlying116 (by kernel_rfl) ⟨by decide, by decide⟩ (.agg (row1 os p).arr) (by rfl) (row1 os p).arr (by kernel_rfl) ?_
          intro w2 hX2 hb2 hz2
          refine ⟨.inr (HS1.out _ hb2), ?_⟩
          simp only [Act.put, List.setIfInBounds_toArray, List.set_cons_zero, List.set_cons_succ]
          refine T_all [16] (by kernel_rfl) (by decide) ?_
          intro q hq
          simp only [List.mem_cons, or_false, List.not_mem_nil] at hq
          subst hq
          refine T_op rfl (by rfl) ?_
          refine wp_append_rd _ _ _ (by rfl) B 67 (.agg #[.int .i64 0, .int .i64 0, .int .i64 0]) 3 24 Tryz.underlying116 (by kernel_rfl) ⟨rfl, by decide⟩ v ((l.take i).map (row1 os)).length (flatP ((l.take i).map (row1 os))) (by rfl) (owns_ext HK1.out.2 hb2) (some ⟨w1.heap.size, 0, none⟩) 1 1 [Pt.cells (row1 os p)] (by rfl) (rd_own hX2 (by simp [Pt.cells]) (n := 1) (by simp [Pt.cells, Pt.arr])) ⟨rfl, pt_ok [row1 os p]⟩ (by simp) ⟨by unfold maxLen; omega, by omega⟩ (by omega) ?_
          intro v1 w4 hown4 hb4 hz4 hk4
          have K4 := HK1.out.1.app hb2 hb4
          have own4 : w4.ownsRow B 67 3 v1 ((l.take (i + 1)).map (row1 os)).length (flatP ((l.take (i + 1)).map (row1 os))) := by rw [HX.out, List.map_append, List.map_singleton, flatP_snoc]; simpa using hown4
          obtain ⟨A1, cap1, rfl, _⟩ := owns_pts own4
          have HK4 := Lib.hid (And.intro K4 own4)
          have HS4 : Hid (SL cb ab mb os p v w4) := Lib.hid ⟨K4.C.cell 0, K4.P.cell 0, K4.M.look HPW.out⟩
          have hC4 := K4.C
          clear hown4 hb4 hz4 hk4 K4 own4 hX2 hb2 hz2 HS1 HK1
          refine ⟨.inr HS4.out, ?_⟩
          simp only [Act.put, List.setIfInBounds_toArray, List.set_cons_zero, List.set_cons_succ]
          refine T_all [17] (by kernel_rfl) (by decide) ?_
          intro q hq
          simp only [List.mem_cons, or_false, List.not_mem_nil] at hq
          subst hq
          refine T_op rfl (by rfl) (Rk.wp_calm (v := .pointer (some ⟨cb, 0, none⟩)) (by go_simp; first | done | rfl) ⟨.inr HS4.out, ?_⟩)
          simp only [Act.put, List.setIfInBounds_toArray, List.set_cons_zero, List.set_cons_succ]
          refine T_all [18] (by kernel_rfl) (by decide) ?_
          intro q hq
          simp only [List.mem_cons, or_false, List.not_mem_nil] at hq
          subst hq
          refine T_op rfl (by rfl) (Rk.wp_calm (v := .pointer (some ⟨cb, 0, none⟩)) (by go_simp; first | done | rfl) ⟨.inr HS4.out, ?_⟩)
          simp only [Act.put, List.setIfInBounds_toArray, List.set_cons_zero, List.set_cons_succ]
          refine T_all [19] (by kernel_rfl) (by decide) ?_
          intro q hq
          simp only [List.mem_cons, or_false, List.not_mem_nil] at hq
          subst hq
          refine T_op rfl (by rfl) ?_
          refine wp_store_fld _ _ _ (by rfl) cb 0 (by rfl) (.slice A1 ((l.take (i + 1)).map (row1 os)).length cap1) (by rfl) _ _ hC4 (by simp) (by kernel_rfl) rfl rfl ?_
          intro w5 hst hus
          refine ⟨.inl rfl, ?_⟩
          simp only [Act.put]
          refine T_doneP (by kernel_rfl) ?_
          have HK5 := Lib.hid (And.intro (HK4.out.1.upd hus hst) (Sw.owns_upd HK4.out.2 hC4 (by decide) hus))
          clear hC4 hst hus HK4
          go_wp2_with fail
          go_roundw
          case rel => exact ⟨i + 1, _, by go_num, HLT.out, HK5⟩
          case measure => (have := HLT.out; simp [intOf]; omega)
        · obtain rfl : i = l.length := by omega
          have hown := HK.out.2
          rw [List.take_length] at hown
          obtain ⟨A1, cap1, rfl, hrow⟩ := owns_pts hown
          have PF : Pf w wr cb B l.length cap1 ds A1 (g3 os l 0) := by
            have K := HK.out.1
            have hC := K.C
            rw [List.length_map] at hC
            refine ⟨hC, K.below, K.ds, ⟨K.ord.1, K.ord.2.1, K.ord.2.2.2.2.2.2⟩, fun hn => ?_⟩
            obtain ⟨g, cur, e1, e2, e3, e4⟩ := hrow (by simpa using hn)
            refine ⟨g, cur, e1, e2, e3, ?_, ?_⟩
            · have h := congrArg List.length e4
              rw [List.length_take] at h
              have h2 : (flatP (l.map (row1 os))).length = l.length * 3 := by
                have : ∀ ps : List Pt, (flatP ps).length = ps.length * 3 := fun ps => by
                  induction ps with
                  | nil => rfl
                  | cons a t ih => simp only [flatP, List.map_cons, List.flatten_cons, List.length_append, List.length_cons] at ih ⊢; rw [ih]; simp [Pt.cells]; omega
                rw [this, List.length_map]
              rw [h2] at h
              simp at h
              omega
            · have h := PtsAt.of_flat (f := g3 os l 0) e4 (fun k hk => by
                rw [List.length_map] at hk
                simp [g3, row1, List.getD_eq_getElem?_getD, List.getElem?_eq_getElem hk])
              rw [List.length_map] at h
              exact h
          have HPF := Lib.hid PF
          have c0 : wr.cell? ⟨cb, 0, none⟩ = some (.slice A1 l.length cap1) := PF.C.cell 0
          have hcl : cb < wr.heap.size := PF.C.lt
          have HOL : Hid ((∀ o ∈ os, 1 ≤ o.qty ∧ o.qty ≤ 4294967296) ∧ os.length ≤ 102000) := Lib.hid (by
            rw [HOS.out]
            refine ⟨fun o ho => (HS.out.1 o (dn_mem ho)).2.2.1, ?_⟩
            have := dn_len (os0) 2
            have := HS.out.2
            omega)
          clear HK hown hrow PF hi hlt
          go_wp2_with fail
          clear c0 hcl
          go_loopw [71] (fun iv W => ∃ (i : Nat), iv = .int .i64 i ∧ i ≤ l.length ∧ Hid (Pf w W cb B l.length cap1 ds A1 (g3 os l i))) (fun iv _ => l.length - (intOf iv).toNat)
          case atStart => exact ⟨0, rfl, Nat.zero_le _, HPF⟩
          case round =>
            obtain ⟨i, rfl, hi, HK⟩ := hrel
            clear HPF
            by_cases hlt : i < l.length
            · have e1 : (i : Int) < (l.length : Int) := by omega
              have HLT := Lib.hid hlt
              by_cases h0 : i = 0
              · subst h0
                have e3 : ¬ ((0 : Int) < 0) := by omega
                have HK1 : Hid (Pf w wr cb B l.length cap1 ds A1 (g3 os l (0 + 1))) := Lib.hid (HK.out.cong (fun k hk => by
                  unfold g3
                  by_cases h : k < 0 + 1
                  · obtain rfl : k = 0 := by omega
                    have hs := HAL.out.sup0 HLT.out
                    rw [← getD_at HLT.out] at hs
                    rw [if_pos h, if_neg (by omega), hs]
                  · rw [if_neg h, if_neg (by omega)]))
                clear hlt HK
                go_wp2_with fail
                go_roundw
                case rel => exact ⟨0 + 1, by go_num, by have := HLT.out; omega, HK1⟩
                case measure => (have := HLT.out; simp [intOf]; omega)
              · obtain ⟨q, hq⟩ : ∃ q, i = q + 1 := ⟨i - 1, by omega⟩
                have HQ := Lib.hid hq
                have e3 : (0 : Int) < (i : Int) := by omega
                have hw : IntKind.i64.wrap ((i : Int) - 1) = (q : Int) := by rw [IntWalk.i64_in _ (by omega)]; omega
                have e4 : (q : Int) < (l.length : Int) := by omega
                obtain ⟨g, cur, rfl, hBg, hblk, hsz, hpt⟩ := HK.out.row (by omega)
                obtain ⟨x, hx⟩ : ∃ x, x = (g3 os l i i).supply := ⟨_, rfl⟩
                obtain ⟨y, hy⟩ : ∃ y, y = (g3 os l i q).supply := ⟨_, rfl⟩
                have cx : cur[i * 3 + 2]? = some (.int .i64 x) := by rw [hx]; exact hpt i HLT.out 2 _ rfl
                have cy : cur[q * 3 + 2]? = some (.int .i64 y) := by rw [hy]; exact hpt q (by omega) 2 _ rfl
                have hx2 : x = selAt os (l[i]'HLT.out) := by rw [hx]; simp only [g3]; rw [if_neg (Nat.lt_irrefl _), getD_at HLT.out]
                have hy2 : y = sup os (l[q]'(by omega)) := by rw [hy]; simp only [g3]; rw [if_pos (by omega), getD_at (by omega)]
                have hws : IntKind.i64.wrap (x + y) = x + y := by
                  have h1 := qsum_fil (a := fun o => decide (o.side = 1 ∧ o.price = l[i]'HLT.out)) HOL.out.1 HOL.out.2
                  have h2 := qsum_fil (a := fun o => decide (o.side = 1 ∧ o.price ≤ l[q]'(by omega))) HOL.out.1 HOL.out.2
                  have h3 : x = qsum (os.filter fun o => decide (o.side = 1 ∧ o.price = l[i]'HLT.out)) := hx2
                  have h4 : y = qsum (os.filter fun o => decide (o.side = 1 ∧ o.price ≤ l[q]'(by omega))) := hy2
                  exact IntWalk.i64_in _ (by omega)
                have HNEW : Hid ((g3 os l (i + 1)) i = ⟨(g3 os l i i).price, (g3 os l i i).demand, x + y⟩) := Lib.hid (by
                  have hs := HAL.out.supS (k := q) (by omega)
                  have h5 : l[q + 1]'(by omega) = l[i]'HLT.out := by simp only [hq]
                  rw [h5] at hs
                  simp only [g3]
                  rw [if_pos (by omega), getD_at HLT.out, hx2, hy2, hs])
                have HOLD : Hid (∀ k, k < l.length → k ≠ i → g3 os l (i + 1) k = g3 os l i k) := Lib.hid (fun k hk hne => by
                  unfold g3
                  by_cases h : k < i
                  · rw [if_pos h, if_pos (by omega)]
                  · rw [if_neg h, if_neg (by omega)])
                have HPT := Lib.hid hpt
                clear hlt h0 hq hx hy hx2 hy2 hpt
                go_wp2_with fail
                refine wp_region_TP (S := SR cb g (i * 3 + 2) (q * 3 + 2) l.length cap1 x y) 20 (by kernel_rfl) ?_
                have hbd : Below wr.heap.size wr wr.drew := (Below.refl _ _).drew
                have K1 := HK.out.ext hbd
                have hb1 := hblk.ext hbd
                generalize wr.drew = w1 at *
                have hS : SR cb g (i * 3 + 2) (q * 3 + 2) l.length cap1 x y w1 := ⟨K1.C.cell 0, (hb1.cell _).trans cx, (hb1.cell _).trans cy⟩
                have HK1 := Lib.hid K1
                clear K1 hbd HK hblk cx cy
                (refine T_take (i := 0) rfl (by kernel_rfl) (fun _ _ _ _ h => h) hS ?_; apply Exists.intro; refine ⟨.inl ⟨by rfl, fun W hW => ?_⟩, ?_⟩; (next => (obtain ⟨hs1, hs2⟩ := hW; go_simp; first | done | rfl)); simp only [Act.put, List.setIfInBounds_toArray, List.set_cons_zero, List.set_cons_succ])
                (refine T_take (i := 1) rfl (by kernel_rfl) (fun _ _ _ _ h => h) hS ?_; apply Exists.intro; refine ⟨.inl ⟨by rfl, fun W hW => ?_⟩, ?_⟩; (next => (obtain ⟨hs1, hs2⟩ := hW; go_simp; first | done | rfl)); simp only [Act.put, List.setIfInBounds_toArray, List.set_cons_zero, List.set_cons_succ])
                (refine T_take (i := 2) rfl (by kernel_rfl) (fun _ _ _ _ h => h) hS ?_; apply Exists.intro; refine ⟨.inl ⟨by rfl, fun W hW => ?_⟩, ?_⟩; (next => (obtain ⟨hs1, hs2⟩ := hW; go_simp; first | done | rfl)); simp only [Act.put, List.setIfInBounds_toArray, List.set_cons_zero, List.set_cons_succ])
                (refine T_take (i := 3) rfl (by kernel_rfl) (fun _ _ _ _ h => h) hS ?_; apply Exists.intro; refine ⟨.inl ⟨by rfl, fun W hW => ?_⟩, ?_⟩; (next => (obtain ⟨hs1, hs2⟩ := hW; go_simp; first | done | rfl)); simp only [Act.put, List.setIfInBounds_toArray, List.set_cons_zero, List.set_cons_succ])
                (refine T_take (i := 4) rfl (by kernel_rfl) (fun _ _ _ _ h => h) hS ?_; apply Exists.intro; refine ⟨.inl ⟨by rfl, fun W hW => ?_⟩, ?_⟩; (next => (obtain ⟨hs1, hs2⟩ := hW; go_simp; first | done | rfl)); simp only [Act.put, List.setIfInBounds_toArray, List.set_cons_zero, List.set_cons_succ])
                (refine T_take (i := 5) rfl (by kernel_rfl) (fun _ _ _ _ h => h) hS ?_; apply Exists.intro; refine ⟨.inl ⟨by rfl, fun W hW => ?_⟩, ?_⟩; (next => (obtain ⟨hs1, hs2⟩ := hW; go_simp; first | done | rfl)); simp only [Act.put, List.setIfInBounds_toArray, List.set_cons_zero, List.set_cons_succ])
                (refine T_take (i := 6) rfl (by kernel_rfl) (fun _ _ _ _ h => h) hS ?_; apply Exists.intro; refine ⟨.inl ⟨by rfl, fun W hW => ?_⟩, ?_⟩; (next => (obtain ⟨hs1, hs2⟩ := hW; go_simp; first | done | rfl)); simp only [Act.put, List.setIfInBounds_toArray, List.set_cons_zero, List.set_cons_succ])
                (refine T_take (i := 7) rfl (by kernel_rfl) (fun _ _ _ _ h => h) hS ?_; apply Exists.intro; refine ⟨.inl ⟨by rfl, fun W hW => ?_⟩, ?_⟩; (next => (obtain ⟨hs1, hs2⟩ := hW; go_simp; first | done | rfl)); simp only [Act.put, List.setIfInBounds_toArray, List.set_cons_zero, List.set_cons_succ])
                (refine T_take (i := 8) rfl (by kernel_rfl) (fun _ _ _ _ h => h) hS ?_; apply Exists.intro; refine ⟨.inl ⟨by rfl, fun W hW => ?_⟩, ?_⟩; (next => (obtain ⟨hs1, hs2⟩ := hW; go_simp; first | done | rfl)); simp only [Act.put, List.setIfInBounds_toArray, List.set_cons_zero, List.set_cons_succ])
                (refine T_take (i := 9) rfl (by kernel_rfl) (fun _ _ _ _ h => h) hS ?_; apply Exists.intro; refine ⟨.inl ⟨by rfl, fun W hW => ?_⟩, ?_⟩; (next => (obtain ⟨hs1, hs2⟩ := hW; go_simp; first | done | rfl)); simp only [Act.put, List.setIfInBounds_toArray, List.set_cons_zero, List.set_cons_succ])
                (refine T_take (i := 10) rfl (by kernel_rfl) (fun _ _ _ _ h => h) hS ?_; apply Exists.intro; refine ⟨.inl ⟨by rfl, fun W hW => ?_⟩, ?_⟩; (next => (obtain ⟨hs1, hs2⟩ := hW; go_simp; first | done | rfl)); simp only [Act.put, List.setIfInBounds_toArray, List.set_cons_zero, List.set_cons_succ])
                (refine T_take (i := 11) rfl (by kernel_rfl) (fun _ _ _ _ h => h) hS ?_; apply Exists.intro; refine ⟨.inl ⟨by rfl, fun W hW => ?_⟩, ?_⟩; (next => (obtain ⟨hs1, hs2⟩ := hW; go_simp; first | done | rfl)); simp only [Act.put, List.setIfInBounds_toArray, List.set_cons_zero, List.set_cons_succ])
                (refine T_take (i := 12) rfl (by kernel_rfl) (fun _ _ _ _ h => h) hS ?_; apply Exists.intro; refine ⟨.inl ⟨by rfl, fun W hW => ?_⟩, ?_⟩; (next => (obtain ⟨hs1, hs2⟩ := hW; go_simp; first | done | rfl)); simp only [Act.put, List.setIfInBounds_toArray, List.set_cons_zero, List.set_cons_succ])
                (refine T_take (i := 13) rfl (by kernel_rfl) (fun _ _ _ _ h => h) hS ?_; apply Exists.intro; refine ⟨.inl ⟨by rfl, fun W hW => ?_⟩, ?_⟩; (next => (obtain ⟨hs1, hs2⟩ := hW; go_simp; first | done | rfl)); simp only [Act.put, List.setIfInBounds_toArray, List.set_cons_zero, List.set_cons_succ])
                (refine T_take (i := 14) rfl (by kernel_rfl) (fun _ _ _ _ h => h) hS ?_; apply Exists.intro; refine ⟨.inl ⟨by rfl, fun W hW => ?_⟩, ?_⟩; (next => (obtain ⟨hs1, hs2⟩ := hW; go_simp; first | done | rfl)); simp only [Act.put, List.setIfInBounds_toArray, List.set_cons_zero, List.set_cons_succ])
                (refine T_take (i := 15) rfl (by kernel_rfl) (fun _ _ _ _ h => h) hS ?_; apply Exists.intro; refine ⟨.inl ⟨by rfl, fun W hW => ?_⟩, ?_⟩; (next => (obtain ⟨hs1, hs2⟩ := hW; go_simp; first | done | rfl)); simp only [Act.put, List.setIfInBounds_toArray, List.set_cons_zero, List.set_cons_succ])
                (refine T_take (i := 16) rfl (by kernel_rfl) (fun _ _ _ _ h => h) hS ?_; apply Exists.intro; refine ⟨.inl ⟨by rfl, fun W hW => ?_⟩, ?_⟩; (next => (obtain ⟨hs1, hs2⟩ := hW; go_simp; first | done | rfl)); simp only [Act.put, List.setIfInBounds_toArray, List.set_cons_zero, List.set_cons_succ])
                (refine T_take (i := 17) rfl (by kernel_rfl) (fun _ _ _ _ h => h) hS ?_; apply Exists.intro; refine ⟨.inl ⟨by rfl, fun W hW => ?_⟩, ?_⟩; (next => (obtain ⟨hs1, hs2⟩ := hW; go_simp; first | done | rfl)); simp only [Act.put, List.setIfInBounds_toArray, List.set_cons_zero, List.set_cons_succ])
                refine T_all [18] (by kernel_rfl) (by decide) ?_
                intro z hz
                simp only [List.mem_cons, or_false, List.not_mem_nil] at hz
                subst hz
                refine T_op rfl (by rfl) (Rk.wp_calm (v := .pointer (some ⟨g, i * 3, none⟩)) (by go_simp; first | done | rfl) ⟨.inr hS, ?_⟩)
                simp only [Act.put, List.setIfInBounds_toArray, List.set_cons_zero, List.set_cons_succ]
                refine T_all [19] (by kernel_rfl) (by decide) ?_
                intro z hz
                simp only [List.mem_cons, or_false, List.not_mem_nil] at hz
                subst hz
                refine T_op rfl (by rfl) (Rk.wp_calm (v := .pointer (some ⟨g, i * 3 + 2, none⟩)) (by go_simp; first | done | rfl) ⟨.inr hS, ?_⟩)
                simp only [Act.put, List.setIfInBounds_toArray, List.set_cons_zero, List.set_cons_succ]
                refine T_all [20] (by kernel_rfl) (by decide) ?_
                intro z hz
                simp only [List.mem_cons, or_false, List.not_mem_nil] at hz
                subst hz
                refine T_op rfl (by rfl) ?_
                refine wp_store_fld _ _ _ (by rfl) g (i * 3 + 2) (by rfl) (.int .i64 (x + y)) (by rfl) _ _ hb1 (by have := HLT.out; omega) (by kernel_rfl) rfl rfl ?_
                intro w5 hst hus
                refine ⟨.inl rfl, ?_⟩
                simp only [Act.put]
                refine T_doneP (by kernel_rfl) ?_
                have HK5 : Hid (Pf w w5 cb B l.length cap1 ds (some ⟨g, 0, none⟩) (g3 os l (i + 1))) := Lib.hid (HK1.out.upd hBg hus hst (by simpa using hsz) (PtsAt.setS HPT.out (by have := HLT.out; omega) HOLD.out HNEW.out))
                clear hst hus HK1 hb1 hS
                go_wp2_with fail
                go_roundw
                case rel => exact ⟨i + 1, by go_num, HLT.out, HK5⟩
                case measure => (have := HLT.out; simp [intOf]; omega)
            · obtain rfl : i = l.length := by omega
              have HPF : Hid (Pf w wr cb B l.length cap1 ds A1 (g4 os l ((l.length : Int) - 2))) := Lib.hid (HK.out.cong (fun k hk => by
                unfold g3 g4
                rw [if_pos hk]
                by_cases h : (l.length : Int) - 2 < (k : Int)
                · have hs := HAL.out.demL (k := k) (by omega)
                  rw [if_pos h, getD_at hk, hs]
                · rw [if_neg h]))
              have c0 : wr.cell? ⟨cb, 0, none⟩ = some (.slice A1 l.length cap1) := HK.out.C.cell 0
              have hcl : cb < wr.heap.size := HK.out.C.lt
              have hw2 : IntKind.i64.wrap ((l.length : Int) - 2) = (l.length : Int) - 2 := IntWalk.i64_in _ (by omega)
              clear HK hlt hi
              go_wp2_with fail
              clear c0 hcl hw2
              go_loopw [11] (fun iv W => ∃ (q : Int), iv = .int .i64 q ∧ -2 ≤ q ∧ q + 2 ≤ (l.length : Int) ∧ Hid (Pf w W cb B l.length cap1 ds A1 (g4 os l q))) (fun iv _ => (intOf iv + 3).toNat)
              case atStart => exact ⟨(l.length : Int) - 2, by go_num, by omega, by omega, HPF⟩
              case round =>
                obtain ⟨q, rfl, hq1, hq2, HK⟩ := hrel
                clear HPF
                by_cases hq : 0 ≤ q
                · obtain ⟨t, rfl⟩ : ∃ t : Nat, q = (t : Int) := ⟨q.toNat, by omega⟩
                  obtain ⟨m, hm⟩ : ∃ m, m = t + 1 := ⟨_, rfl⟩
                  have HLT : Hid (t < l.length) := Lib.hid (by omega)
                  have e1 : (t : Int) < (l.length : Int) := by omega
                  have e4 : (m : Int) < (l.length : Int) := by omega
                  have hw : IntKind.i64.wrap ((t : Int) + 1) = (m : Int) := by rw [IntWalk.i64_in _ (by omega)]; omega
                  have hw3 : IntKind.i64.wrap ((t : Int) - 1) = (t : Int) - 1 := IntWalk.i64_in _ (by omega)
                  obtain ⟨g, cur, rfl, hBg, hblk, hsz, hpt⟩ := HK.out.row (by omega)
                  obtain ⟨x, hx⟩ : ∃ x, x = (g4 os l (t : Int) t).demand := ⟨_, rfl⟩
                  obtain ⟨y, hy⟩ : ∃ y, y = (g4 os l (t : Int) m).demand := ⟨_, rfl⟩
                  have cx : cur[t * 3 + 1]? = some (.int .i64 x) := by rw [hx]; exact hpt t HLT.out 1 _ rfl
                  have cy : cur[m * 3 + 1]? = some (.int .i64 y) := by rw [hy]; exact hpt m (by omega) 1 _ rfl
                  have hx2 : x = buyAt os (l[t]'HLT.out) := by rw [hx]; simp only [g4]; rw [if_neg (by omega), getD_at HLT.out]
                  have hy2 : y = dem os (l[m]'(by omega)) := by rw [hy]; simp only [g4]; rw [if_pos (by omega), getD_at (by omega)]
                  have hws : IntKind.i64.wrap (x + y) = x + y := by
                    have h1 := qsum_fil (a := fun o => decide (o.side = 0 ∧ o.price = l[t]'HLT.out)) HOL.out.1 HOL.out.2
                    have h2 := qsum_fil (a := fun o => decide (o.side = 0 ∧ l[m]'(by omega) ≤ o.price)) HOL.out.1 HOL.out.2
                    have h3 : x = qsum (os.filter fun o => decide (o.side = 0 ∧ o.price = l[t]'HLT.out)) := hx2
                    have h4 : y = qsum (os.filter fun o => decide (o.side = 0 ∧ l[m]'(by omega) ≤ o.price)) := hy2
                    exact IntWalk.i64_in _ (by omega)
                  have HNEW : Hid ((g4 os l ((t : Int) - 1)) t = ⟨(g4 os l (t : Int) t).price, x + y, (g4 os l (t : Int) t).supply⟩) := Lib.hid (by
                    have hs := HAL.out.demS (k := t) (by omega)
                    have h5 : l[t + 1]'(by omega) = l[m]'(by omega) := by simp only [hm]
                    rw [h5] at hs
                    simp only [g4]
                    rw [if_pos (by omega), getD_at HLT.out, hx2, hy2, hs])
                  have HOLD : Hid (∀ k, k < l.length → k ≠ t → g4 os l ((t : Int) - 1) k = g4 os l (t : Int) k) := Lib.hid (fun k hk hne => by
                    unfold g4
                    by_cases h : (t : Int) < (k : Int)
                    · rw [if_pos h, if_pos (by omega)]
                    · rw [if_neg h, if_neg (by omega)])
                  have HPT := Lib.hid hpt
                  have HQ : Hid (-2 ≤ (t : Int) - 1 ∧ (t : Int) - 1 + 2 ≤ (l.length : Int)) := Lib.hid (by omega)
                  clear hm hx hy hx2 hy2 hpt hq1 hq2
                  go_wp2_with fail
                  refine wp_region_TP (S := SR cb g (t * 3 + 1) (m * 3 + 1) l.length cap1 x y) 20 (by kernel_rfl) ?_
                  have hbd : Below wr.heap.size wr wr.drew := (Below.refl _ _).drew
                  have K1 := HK.out.ext hbd
                  have hb1 := hblk.ext hbd
                  generalize wr.drew = w1 at *
                  have hS : SR cb g (t * 3 + 1) (m * 3 + 1) l.length cap1 x y w1 := ⟨K1.C.cell 0, (hb1.cell _).trans cx, (hb1.cell _).trans cy⟩
                  have HK1 := Lib.hid K1
                  clear K1 hbd HK hblk cx cy
                  (refine T_take (i := 0) rfl (by kernel_rfl) (fun _ _ _ _ h => h) hS ?_; apply Exists.intro; refine ⟨.inl ⟨by rfl, fun W hW => ?_⟩, ?_⟩; (next => (obtain ⟨hs1, hs2⟩ := hW; go_simp; first | done | rfl)); simp only [Act.put, List.setIfInBounds_toArray, List.set_cons_zero, List.set_cons_succ])
                  (refine T_take (i := 1) rfl (by kernel_rfl) (fun _ _ _ _ h => h) hS ?_; apply Exists.intro; refine ⟨.inl ⟨by rfl, fun W hW => ?_⟩, ?_⟩; (next => (obtain ⟨hs1, hs2⟩ := hW; go_simp; first | done | rfl)); simp only [Act.put, List.setIfInBounds_toArray, List.set_cons_zero, List.set_cons_succ])
                  (refine T_take (i := 2) rfl (by kernel_rfl) (fun _ _ _ _ h => h) hS ?_; apply Exists.intro; refine ⟨.inl ⟨by rfl, fun W hW => ?_⟩, ?_⟩; (next => (obtain ⟨hs1, hs2⟩ := hW; go_simp; first | done | rfl)); simp only [Act.put, List.setIfInBounds_toArray, List.set_cons_zero, List.set_cons_succ])
                  (refine T_take (i := 3) rfl (by kernel_rfl) (fun _ _ _ _ h => h) hS ?_; apply Exists.intro; refine ⟨.inl ⟨by rfl, fun W hW => ?_⟩, ?_⟩; (next => (obtain ⟨hs1, hs2⟩ := hW; go_simp; first | done | rfl)); simp only [Act.put, List.setIfInBounds_toArray, List.set_cons_zero, List.set_cons_succ])
                  (refine T_take (i := 4) rfl (by kernel_rfl) (fun _ _ _ _ h => h) hS ?_; apply Exists.intro; refine ⟨.inl ⟨by rfl, fun W hW => ?_⟩, ?_⟩; (next => (obtain ⟨hs1, hs2⟩ := hW; go_simp; first | done | rfl)); simp only [Act.put, List.setIfInBounds_toArray, List.set_cons_zero, List.set_cons_succ])
                  (refine T_take (i := 5) rfl (by kernel_rfl) (fun _ _ _ _ h => h) hS ?_; apply Exists.intro; refine ⟨.inl ⟨by rfl, fun W hW => ?_⟩, ?_⟩; (next => (obtain ⟨hs1, hs2⟩ := hW; go_simp; first | done | rfl)); simp only [Act.put, List.setIfInBounds_toArray, List.set_cons_zero, List.set_cons_succ])
                  (refine T_take (i := 6) rfl (by kernel_rfl) (fun _ _ _ _ h => h) hS ?_; apply Exists.intro; refine ⟨.inl ⟨by rfl, fun W hW => ?_⟩, ?_⟩; (next => (obtain ⟨hs1, hs2⟩ := hW; go_simp; first | done | rfl)); simp only [Act.put, List.setIfInBounds_toArray, List.set_cons_zero, List.set_cons_succ])
                  (refine T_take (i := 7) rfl (by kernel_rfl) (fun _ _ _ _ h => h) hS ?_; apply Exists.intro; refine ⟨.inl ⟨by rfl, fun W hW => ?_⟩, ?_⟩; (next => (obtain ⟨hs1, hs2⟩ := hW; go_simp; first | done | rfl)); simp only [Act.put, List.setIfInBounds_toArray, List.set_cons_zero, List.set_cons_succ])
                  (refine T_take (i := 8) rfl (by kernel_rfl) (fun _ _ _ _ h => h) hS ?_; apply Exists.intro; refine ⟨.inl ⟨by rfl, fun W hW => ?_⟩, ?_⟩; (next => (obtain ⟨hs1, hs2⟩ := hW; go_simp; first | done | rfl)); simp only [Act.put, List.setIfInBounds_toArray, List.set_cons_zero, List.set_cons_succ])
                  (refine T_take (i := 9) rfl (by kernel_rfl) (fun _ _ _ _ h => h) hS ?_; apply Exists.intro; refine ⟨.inl ⟨by rfl, fun W hW => ?_⟩, ?_⟩; (next => (obtain ⟨hs1, hs2⟩ := hW; go_simp; first | done | rfl)); simp only [Act.put, List.setIfInBounds_toArray, List.set_cons_zero, List.set_cons_succ])
                  (refine T_take (i := 10) rfl (by kernel_rfl) (fun _ _ _ _ h => h) hS ?_; apply Exists.intro; refine ⟨.inl ⟨by rfl, fun W hW => ?_⟩, ?_⟩; (next => (obtain ⟨hs1, hs2⟩ := hW; go_simp; first | done | rfl)); simp only [Act.put, List.setIfInBounds_toArray, List.set_cons_zero, List.set_cons_succ])
                  (refine T_take (i := 11) rfl (by kernel_rfl) (fun _ _ _ _ h => h) hS ?_; apply Exists.intro; refine ⟨.inl ⟨by rfl, fun W hW => ?_⟩, ?_⟩; (next => (obtain ⟨hs1, hs2⟩ := hW; go_simp; first | done | rfl)); simp only [Act.put, List.setIfInBounds_toArray, List.set_cons_zero, List.set_cons_succ])
                  (refine T_take (i := 12) rfl (by kernel_rfl) (fun _ _ _ _ h => h) hS ?_; apply Exists.intro; refine ⟨.inl ⟨by rfl, fun W hW => ?_⟩, ?_⟩; (next => (obtain ⟨hs1, hs2⟩ := hW; go_simp; first | done | rfl)); simp only [Act.put, List.setIfInBounds_toArray, List.set_cons_zero, List.set_cons_succ])
                  (refine T_take (i := 13) rfl (by kernel_rfl) (fun _ _ _ _ h => h) hS ?_; apply Exists.intro; refine ⟨.inl ⟨by rfl, fun W hW => ?_⟩, ?_⟩; (next => (obtain ⟨hs1, hs2⟩ := hW; go_simp; first | done | rfl)); simp only [Act.put, List.setIfInBounds_toArray, List.set_cons_zero, List.set_cons_succ])
                  (refine T_take (i := 14) rfl (by kernel_rfl) (fun _ _ _ _ h => h) hS ?_; apply Exists.intro; refine ⟨.inl ⟨by rfl, fun W hW => ?_⟩, ?_⟩; (next => (obtain ⟨hs1, hs2⟩ := hW; go_simp; first | done | rfl)); simp only [Act.put, List.setIfInBounds_toArray, List.set_cons_zero, List.set_cons_succ])
                  (refine T_take (i := 15) rfl (by kernel_rfl) (fun _ _ _ _ h => h) hS ?_; apply Exists.intro; refine ⟨.inl ⟨by rfl, fun W hW => ?_⟩, ?_⟩; (next => (obtain ⟨hs1, hs2⟩ := hW; go_simp; first | done | rfl)); simp only [Act.put, List.setIfInBounds_toArray, List.set_cons_zero, List.set_cons_succ])
                  (refine T_take (i := 16) rfl (by kernel_rfl) (fun _ _ _ _ h => h) hS ?_; apply Exists.intro; refine ⟨.inl ⟨by rfl, fun W hW => ?_⟩, ?_⟩; (next => (obtain ⟨hs1, hs2⟩ := hW; go_simp; first | done | rfl)); simp only [Act.put, List.setIfInBounds_toArray, List.set_cons_zero, List.set_cons_succ])
                  (refine T_take (i := 17) rfl (by kernel_rfl) (fun _ _ _ _ h => h) hS ?_; apply Exists.intro; refine ⟨.inl ⟨by rfl, fun W hW => ?_⟩, ?_⟩; (next => (obtain ⟨hs1, hs2⟩ := hW; go_simp; first | done | rfl)); simp only [Act.put, List.setIfInBounds_toArray, List.set_cons_zero, List.set_cons_succ])
                  refine T_all [18] (by kernel_rfl) (by decide) ?_
                  intro z hz
                  simp only [List.mem_cons, or_false, List.not_mem_nil] at hz
                  subst hz
                  refine T_op rfl (by rfl) (Rk.wp_calm (v := .pointer (some ⟨g, t * 3, none⟩)) (by go_simp; first | done | rfl) ⟨.inr hS, ?_⟩)
                  simp only [Act.put, List.setIfInBounds_toArray, List.set_cons_zero, List.set_cons_succ]
                  refine T_all [19] (by kernel_rfl) (by decide) ?_
                  intro z hz
                  simp only [List.mem_cons, or_false, List.not_mem_nil] at hz
                  subst hz
                  refine T_op rfl (by rfl) (Rk.wp_calm (v := .pointer (some ⟨g, t * 3 + 1, none⟩)) (by go_simp; first | done | rfl) ⟨.inr hS, ?_⟩)
                  simp only [Act.put, List.setIfInBounds_toArray, List.set_cons_zero, List.set_cons_succ]
                  refine T_all [20] (by kernel_rfl) (by decide) ?_
                  intro z hz
                  simp only [List.mem_cons, or_false, List.not_mem_nil] at hz
                  subst hz
                  refine T_op rfl (by rfl) ?_
                  refine wp_store_fld _ _ _ (by rfl) g (t * 3 + 1) (by rfl) (.int .i64 (x + y)) (by rfl) _ _ hb1 (by have := HLT.out; omega) (by kernel_rfl) rfl rfl ?_
                  intro w5 hst hus
                  refine ⟨.inl rfl, ?_⟩
                  simp only [Act.put]
                  refine T_doneP (by kernel_rfl) ?_
                  have HK5 : Hid (Pf w w5 cb B l.length cap1 ds (some ⟨g, 0, none⟩) (g4 os l ((t : Int) - 1))) := Lib.hid (HK1.out.upd hBg hus hst (by simpa using hsz) (PtsAt.setD HPT.out (by have := HLT.out; omega) HOLD.out HNEW.out))
                  clear hst hus HK1 hb1 hS
                  go_wp2_with fail
                  go_roundw
                  case rel => exact ⟨(t : Int) - 1, by go_num, HQ.out.1, HQ.out.2, HK5⟩
                  case measure => (simp [intOf]; omega)
                · have e3 : ¬ (0 ≤ q) := hq
                  go_wp2_with fail
                  refine bodyPostM_many rfl HND.out (fun D hD => (HK.out.ds D hD).2) (fun w' mk => ⟨.pointer (some ⟨cb, 0, none⟩), by first | rfl | (simp [results, Tryz.results27, go_sem]; done), ?_⟩)
                  have hos := HOS.out
                  subst hos
                  exact of_fin HK.out (by omega) HAL.out hl1 mk HDL.out (fun o ho => (HS.out.1 o ho).1)
theorem of_any {w : World} {c : Nat → Nat} {b N most k : Nat} {ss : List Sl} (S : Bs w c b N most k ss) : Calls Tryz.prog 27 #[.pointer (some ⟨b, 0, none⟩)] w (OfPost w (osOf ss)) :=
  of_gen _ _ (Sw.Bs.okk S) (Sw.Bs.few S) (fun W mb hW h1 h2 j hj bq bi hq hi => Bk.beach_all (S.ext hW) (j : Int) bq bi hq hi [mb] [] (fun t h => by cases h) (fun q hq => by
    rw [List.mem_singleton.1 hq]
    refine ⟨?_, h2⟩
    obtain ⟨d, B, I⟩ := S
    exact B.out _ h1))
end Cu
end Go.Proofs.YtacpjpkhmdcagaaGreat
