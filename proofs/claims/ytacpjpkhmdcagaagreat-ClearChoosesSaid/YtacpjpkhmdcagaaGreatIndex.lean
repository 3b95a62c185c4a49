/- This text proves contracts of the package index, over two maps that are held as a list of rows. They have no conditions but those that they state. -/
import Derived.Test.YtacpjpkhmdcagaaGreatIdxKey
namespace Go.Proofs.YtacpjpkhmdcagaaGreat
set_option linter.unusedVariables false
open Go.RowKit Go.Maps
namespace Idx
set_option maxHeartbeats 1000000
set_option maxRecDepth 10000
structure R3 where
  (sym id slot : Int)
def Wf (n : Int) : Prop := (Lit.int .i64 n).wf = true
def R3.wf (r : R3) : Prop := Wf r.sym ∧ Wf r.id ∧ Wf r.slot
def R3.is (s i : Int) (r : R3) : Bool := decide (r.sym = s ∧ r.id = i)
def look (L : List R3) (s i : Int) : Option R3 := L.find? (R3.is s i)
def cntS (L : List R3) (s : Int) : Nat := (L.filter fun r => decide (r.sym = s)).length
theorem cntS_le (L : List R3) (s : Int) : cntS L s ≤ L.length := List.length_filter_le _ _
def Uniq (L : List R3) : Prop := L.Pairwise fun a b => ¬ (a.sym = b.sym ∧ a.id = b.id)
abbrev Dt := DataW Unit
def zd : Dt := .lit (.int .i64 0)
def num (n : Int) : Dt := .lit (.int .i64 n)
/-- The map of slots, and the map of counts, read as rows. -/
def SlotsAt (D : Dt) (L : List R3) : Prop := ∀ s i, Wf s → Wf i → has D (kl s i) = (look L s i).isSome ∧ D.atKey (kl s i) zd = num ((look L s i).elim 0 R3.slot)
def ManyAt (D : Dt) (L : List R3) : Prop := ∀ s, Wf s → D.atKey (.int .i64 s) zd = num (cntS L s)
structure Xq (w : World) (xb bs bm n : Nat) (L : List R3) : Prop where
  hd : Blk w xb 137 #[.map (some bs), .map (some bm)]
  os : ∃ D : Dt, w.ownsMap Tryz.prog 101 (plainElem Tryz.prog 3) bs n D ∧ SlotsAt D L
  om : ∃ D : Dt, w.ownsMap Tryz.prog 3 (plainElem Tryz.prog 3) bm n D ∧ ManyAt D L
  ne : xb ≠ bs ∧ xb ≠ bm ∧ bs ≠ bm
  wf : ∀ r ∈ L, R3.wf r
  uniq : Uniq L
  len : L.length ≤ n ∧ n ≤ 1000
theorem owns_below {w w' : World} {k : TypeId} {R : Value → Option (Dt × List MemPlace)} {b n : Nat} {D : Dt} (h : w.ownsMap Tryz.prog k R b n D) (hb : Below w.heap.size w w') : w'.ownsMap Tryz.prog k R b n D := by
  have hlt := h.lt
  obtain ⟨es, clock, hb', F, hs, hD⟩ := h
  exact ⟨es, clock, (hb.block b hlt).trans hb', F, hs, hD⟩
theorem Xq.ext {w w' : World} {xb bs bm n : Nat} {L : List R3} (x : Xq w xb bs bm n L) (hb : Below w.heap.size w w') : Xq w' xb bs bm n L :=
  ⟨x.hd.ext hb, x.os.imp fun D h => ⟨owns_below h.1 hb, h.2⟩, x.om.imp fun D h => ⟨owns_below h.1 hb, h.2⟩, x.ne, x.wf, x.uniq, x.len⟩
theorem zeroI (w : World) : (zeroValue 3).run Tryz.prog w = .ok (.int .i64 0) w := by kernel_rfl
section
variable {w : World} {xb bs bm n : Nat} {L : List R3}
theorem Xq.lt (x : Xq w xb bs bm n L) : xb < w.heap.size ∧ bs < w.heap.size ∧ bm < w.heap.size := by
  obtain ⟨D, h, _⟩ := x.os
  obtain ⟨E, k, _⟩ := x.om
  exact ⟨x.hd.lt, h.lt, k.lt⟩
/-- A look-up, as an equation. -/
theorem Xq.look (x : Xq w xb bs bm n L) {s i : Int} (hs : Wf s) (hi : Wf i) : (Instr.lookup 134 (.map (some bs)) (key s i) true).run Tryz.prog w = .ok (.tuple #[.int .i64 ((look L s i).elim 0 R3.slot), .bool (Idx.look L s i).isSome]) w := by
  obtain ⟨D, h, hD⟩ := x.os
  obtain ⟨h1, h2⟩ := hD s i hs hi
  obtain ⟨v, ps, hr, hv⟩ := h.look_ok lawK Tryz.underlying134 (zeroI w) (plainElem_int Tryz.underlying3 (by decide)) (keyK hs hi)
  obtain ⟨c, rfl, hc, _⟩ := plainElem_int_inv Tryz.underlying3 hv
  have h3 : D.atKey (kl s i) zd = num c := congrArg Prod.fst hc
  rw [h2] at h3
  unfold num at h3
  cases h3
  rw [hr, h1]
theorem count_at {w : World} {bm n : Nat} {D : Dt} {L : List R3} (h : w.ownsMap Tryz.prog 3 (plainElem Tryz.prog 3) bm n D) (hD : ManyAt D L) {s : Int} (hs : Wf s) : (Instr.lookup 135 (.map (some bm)) (.int .i64 s) false).run Tryz.prog w = .ok (.int .i64 (cntS L s)) w := by
  obtain ⟨c, hr, hc, _⟩ := h.lookup_int lawI Tryz.underlying135 Tryz.underlying3 (zeroI w) (keyOf_int_mk Tryz.underlying3 hs)
  have h3 : D.atKey (.int .i64 s) zd = num c := hc
  rw [hD s hs] at h3
  unfold num at h3
  cases h3
  exact hr
theorem Xq.count (x : Xq w xb bs bm n L) {s : Int} (hs : Wf s) : (Instr.lookup 135 (.map (some bm)) (.int .i64 s) false).run Tryz.prog w = .ok (.int .i64 (cntS L s)) w := by
  obtain ⟨D, h, hD⟩ := x.om
  obtain ⟨c, hr, hc, _⟩ := h.lookup_int lawI Tryz.underlying135 Tryz.underlying3 (zeroI w) (keyOf_int_mk Tryz.underlying3 hs)
  have h3 : D.atKey (.int .i64 s) zd = num c := hc
  rw [hD s hs] at h3
  unfold num at h3
  cases h3
  exact hr
theorem get_any (x : Xq w xb bs bm n L) {s i : Int} (hs : Wf s) (hi : Wf i) : Calls Tryz.prog 46 #[.pointer (some ⟨xb, 0, none⟩), key s i] w fun e w' => e = .returned (.tuple #[.int .i64 ((look L s i).elim 0 R3.slot), .bool (look L s i).isSome]) ∧ Below w.heap.size w w' := by
  have c0 : w.cell? ⟨xb, 0, none⟩ = some (.map (some bs)) := x.hd.cell 0
  have hxl := x.hd.lt
  have HLK0 : Hid (∀ W, Below w.heap.size w W → (Instr.lookup 134 (.map (some bs)) (key s i) true).run Tryz.prog W = .ok (.tuple #[.int .i64 ((Idx.look L s i).elim 0 R3.slot), .bool (Idx.look L s i).isSome]) W) := Lib.hid (fun W hW => (x.ext hW).look hs hi)
  unfold key at HLK0 ⊢
  generalize (Idx.look L s i).elim 0 R3.slot = a0 at *
  generalize (Idx.look L s i).isSome = b0 at *
  have hK : Blk (w.alloc (.cells #[.int .i64 s, .int .i64 i] 101)) w.heap.size 101 #[.int .i64 s, .int .i64 i] := Blk.new _ _ _ _ rfl
  have hb1 : Below w.heap.size w (w.alloc (.cells #[.int .i64 s, .int .i64 i] 101)) := by (repeat (first | with_reducible exact Below.refl _ _ | (with_reducible assumption) | (with_reducible refine below_alloc ?_ _) | (with_reducible refine below_ext (w1 := ?_) ?_ ?_; rotate_left 2; (with_reducible assumption)) | (with_reducible refine Below.setCell ?_ ?_ _; rotate_left; ((try simp) <;> omega)) | (with_reducible refine Below.drew ?_) | (with_reducible refine below_drewN ?_ _) | fail))
  have c1 : (w.alloc (.cells #[.int .i64 s, .int .i64 i] 101)).cell? ⟨xb, 0, none⟩ = some (.map (some bs)) := (hb1.cell (p := ⟨xb, 0, none⟩) hxl).trans c0
  have HLK : Hid (∀ W, Below (w.alloc (.cells #[.int .i64 s, .int .i64 i] 101)).heap.size (w.alloc (.cells #[.int .i64 s, .int .i64 i] 101)) W → (Instr.lookup 134 (.map (some bs)) (.agg #[.int .i64 s, .int .i64 i]) true).run Tryz.prog W = .ok (.tuple #[.int .i64 a0, .bool b0]) W) := Lib.hid (fun W hW => HLK0.out W (below_ext hb1 hW))
  have hxl1 : xb < (w.alloc (.cells #[.int .i64 s, .int .i64 i] 101)).heap.size := Nat.lt_of_lt_of_le hxl hb1.size
  generalize hW1 : w.alloc (.cells #[.int .i64 s, .int .i64 i] 101) = w1 at HLK hK hb1 c1 hxl1
  have HW1 := Lib.hid hW1
  clear hW1 HLK0
  go_enter Tryz.func46, Tryz.ntmps46
  go_wp2_with fail
  rw [HW1.out]
  refine wp_region_below_lit (by kernel_rfl) (by kernel_rfl) ?_
  repeat (first | go_big_quiet_skip | (go_big_quiet_want; go_big_quiet_op; go_big_quiet_on) | (refine q_load_blk (by rfl) 101 _ (by rfl) ?_ (.pointer (some ⟨_, 0, none⟩)) (by rfl) ?_ _ (fun _ h => h) Tryz.underlying101 rfl ?_ ?_; rotate_left; (next => (repeat (first | (with_reducible refine BlkAt.new _ _ _ _ ?_; ((try simp) <;> omega)) | (with_reducible assumption) | (with_reducible refine Blk.at (t := ?_) ?_; rotate_left; with_reducible assumption) | with_reducible refine BlkAt.alloc ?_ _ | with_reducible refine BlkAt.drew ?_ | (with_reducible refine BlkAt.setSame ?_ _ _) | (with_reducible refine BlkAt.setCell ?_ ?_ _; rotate_left; ((try simp) <;> omega)) | (with_reducible refine BlkAt.ext (w := ?_) ?_ ?_; rotate_left 2; (with_reducible assumption)) | fail))); (next => kernel_rfl); (try simp only [Act.put, List.setIfInBounds_toArray, List.set_cons_zero, List.set_cons_succ])) | (refine q_load_fld (by rfl) _ _ (by rfl) (fun _ h => h) _ _ (by rfl) ?_ ?_ ?_ ?_ ?_ ?_; rotate_left; (next => (repeat (first | (with_reducible refine BlkAt.new _ _ _ _ ?_; ((try simp) <;> omega)) | (with_reducible assumption) | (with_reducible refine Blk.at (t := ?_) ?_; rotate_left; with_reducible assumption) | with_reducible refine BlkAt.alloc ?_ _ | with_reducible refine BlkAt.drew ?_ | (with_reducible refine BlkAt.setSame ?_ _ _) | (with_reducible refine BlkAt.setCell ?_ ?_ _; rotate_left; ((try simp) <;> omega)) | (with_reducible refine BlkAt.ext (w := ?_) ?_ ?_; rotate_left 2; (with_reducible assumption)) | fail))); rotate_left; (next => first | (simp only [go_sem]; rfl) | rfl); (next => kernel_rfl); (try simp only [Act.put, List.setIfInBounds_toArray, List.set_cons_zero, List.set_cons_succ])) | (refine q_rem (by rfl) _ _ _ _ (by rfl) _ _ (by rfl) (by rfl) (by kernel_rfl) (by kernel_rfl) ?_ ?_; (next => omega); (try simp only [Act.put, List.setIfInBounds_toArray, List.set_cons_zero, List.set_cons_succ])) | (refine q_step_ex (by rfl) ?_; apply Exists.intro; refine ⟨fun W hW => ?_, ?_⟩; (next => (have hWc := fun (b o : Nat) (h : b < _) => (Ext.out hW).cell (p := ⟨b, o, none⟩) h); (try have hLK := HLK.out W (Ext.out hW)); go_simp; first | rfl | fail | fail); (try simp only [Act.put, List.setIfInBounds_toArray, List.set_cons_zero, List.set_cons_succ])) | fail)
  refine wpQuiet_nil ?_
  intro w2 hb2
  go_wp2_with fail
  go_ret2
  exact ⟨rfl, below_ext hb1 hb2⟩
theorem get_nil (k : Value) (w : World) (s i : Int) (hk : k = key s i) : Calls Tryz.prog 46 #[.pointer none, k] w fun e w' => e = .returned (.tuple #[.int .i64 0, .bool false]) ∧ Below w.heap.size w w' := by
  subst hk
  unfold key
  go_enter Tryz.func46, Tryz.ntmps46
  go_wp2_with fail
  go_ret2
  exact ⟨rfl, by (repeat (first | with_reducible exact Below.refl _ _ | (with_reducible assumption) | (with_reducible refine below_alloc ?_ _) | (with_reducible refine below_ext (w1 := ?_) ?_ ?_; rotate_left 2; (with_reducible assumption)) | (with_reducible refine Below.setCell ?_ ?_ _; rotate_left; ((try simp) <;> omega)) | (with_reducible refine Below.drew ?_) | (with_reducible refine below_drewN ?_ _) | fail))⟩
theorem put_nil (w : World) (s i v : Int) : Calls Tryz.prog 52 #[.pointer none, key s i, .int .i64 v] w fun e w' => e = .returned (.bool false) ∧ Below w.heap.size w w' := by
  unfold key
  go_enter Tryz.func52, Tryz.ntmps52
  go_wp2_with fail
  go_ret
  exact ⟨rfl, by (repeat (first | with_reducible exact Below.refl _ _ | (with_reducible assumption) | (with_reducible refine below_alloc ?_ _) | (with_reducible refine below_ext (w1 := ?_) ?_ ?_; rotate_left 2; (with_reducible assumption)) | (with_reducible refine Below.setCell ?_ ?_ _; rotate_left; ((try simp) <;> omega)) | (with_reducible refine Below.drew ?_) | (with_reducible refine below_drewN ?_ _) | fail))⟩
theorem put_old (x : Xq w xb bs bm n L) {s i : Int} (v : Int) (hs : Wf s) (hi : Wf i) (ho : (look L s i).isSome = true) : Calls Tryz.prog 52 #[.pointer (some ⟨xb, 0, none⟩), key s i, .int .i64 v] w fun e w' => e = .returned (.bool false) ∧ Below w.heap.size w w' := by
  have c0 : w.cell? ⟨xb, 0, none⟩ = some (.map (some bs)) := x.hd.cell 0
  have hxl := x.hd.lt
  have HLK0 : Hid (∀ W, Below w.heap.size w W → (Instr.lookup 134 (.map (some bs)) (key s i) true).run Tryz.prog W = .ok (.tuple #[.int .i64 ((Idx.look L s i).elim 0 R3.slot), .bool (Idx.look L s i).isSome]) W) := Lib.hid (fun W hW => (x.ext hW).look hs hi)
  rw [ho] at HLK0
  unfold key at HLK0 ⊢
  generalize (Idx.look L s i).elim 0 R3.slot = a0 at *
  have hK : Blk (w.alloc (.cells #[.int .i64 s, .int .i64 i] 101)) w.heap.size 101 #[.int .i64 s, .int .i64 i] := Blk.new _ _ _ _ rfl
  have hb1 : Below w.heap.size w (w.alloc (.cells #[.int .i64 s, .int .i64 i] 101)) := by (repeat (first | with_reducible exact Below.refl _ _ | (with_reducible assumption) | (with_reducible refine below_alloc ?_ _) | (with_reducible refine below_ext (w1 := ?_) ?_ ?_; rotate_left 2; (with_reducible assumption)) | (with_reducible refine Below.setCell ?_ ?_ _; rotate_left; ((try simp) <;> omega)) | (with_reducible refine Below.drew ?_) | (with_reducible refine below_drewN ?_ _) | fail))
  have c1 : (w.alloc (.cells #[.int .i64 s, .int .i64 i] 101)).cell? ⟨xb, 0, none⟩ = some (.map (some bs)) := (hb1.cell (p := ⟨xb, 0, none⟩) hxl).trans c0
  have HLK : Hid (∀ W, Below (w.alloc (.cells #[.int .i64 s, .int .i64 i] 101)).heap.size (w.alloc (.cells #[.int .i64 s, .int .i64 i] 101)) W → (Instr.lookup 134 (.map (some bs)) (.agg #[.int .i64 s, .int .i64 i]) true).run Tryz.prog W = .ok (.tuple #[.int .i64 a0, .bool true]) W) := Lib.hid (fun W hW => HLK0.out W (below_ext hb1 hW))
  have hxl1 : xb < (w.alloc (.cells #[.int .i64 s, .int .i64 i] 101)).heap.size := Nat.lt_of_lt_of_le hxl hb1.size
  generalize hW1 : w.alloc (.cells #[.int .i64 s, .int .i64 i] 101) = w1 at HLK hK hb1 c1 hxl1
  have HW1 := Lib.hid hW1
  clear hW1 HLK0
  go_enter Tryz.func52, Tryz.ntmps52
  go_wp2_with fail
  rw [HW1.out]
  refine wp_region_below_lit (by kernel_rfl) (by kernel_rfl) ?_
  repeat (first | go_big_quiet_skip | (go_big_quiet_want; go_big_quiet_op; go_big_quiet_on) | (refine q_load_blk (by rfl) 101 _ (by rfl) ?_ (.pointer (some ⟨_, 0, none⟩)) (by rfl) ?_ _ (fun _ h => h) Tryz.underlying101 rfl ?_ ?_; rotate_left; (next => (repeat (first | (with_reducible refine BlkAt.new _ _ _ _ ?_; ((try simp) <;> omega)) | (with_reducible assumption) | (with_reducible refine Blk.at (t := ?_) ?_; rotate_left; with_reducible assumption) | with_reducible refine BlkAt.alloc ?_ _ | with_reducible refine BlkAt.drew ?_ | (with_reducible refine BlkAt.setSame ?_ _ _) | (with_reducible refine BlkAt.setCell ?_ ?_ _; rotate_left; ((try simp) <;> omega)) | (with_reducible refine BlkAt.ext (w := ?_) ?_ ?_; rotate_left 2; (with_reducible assumption)) | fail))); (next => kernel_rfl); (try simp only [Act.put, List.setIfInBounds_toArray, List.set_cons_zero, List.set_cons_succ])) | (refine q_load_fld (by rfl) _ _ (by rfl) (fun _ h => h) _ _ (by rfl) ?_ ?_ ?_ ?_ ?_ ?_; rotate_left; (next => (repeat (first | (with_reducible refine BlkAt.new _ _ _ _ ?_; ((try simp) <;> omega)) | (with_reducible assumption) | (with_reducible refine Blk.at (t := ?_) ?_; rotate_left; with_reducible assumption) | with_reducible refine BlkAt.alloc ?_ _ | with_reducible refine BlkAt.drew ?_ | (with_reducible refine BlkAt.setSame ?_ _ _) | (with_reducible refine BlkAt.setCell ?_ ?_ _; rotate_left; ((try simp) <;> omega)) | (with_reducible refine BlkAt.ext (w := ?_) ?_ ?_; rotate_left 2; (with_reducible assumption)) | fail))); rotate_left; (next => first | (simp only [go_sem]; rfl) | rfl); (next => kernel_rfl); (try simp only [Act.put, List.setIfInBounds_toArray, List.set_cons_zero, List.set_cons_succ])) | (refine q_rem (by rfl) _ _ _ _ (by rfl) _ _ (by rfl) (by rfl) (by kernel_rfl) (by kernel_rfl) ?_ ?_; (next => omega); (try simp only [Act.put, List.setIfInBounds_toArray, List.set_cons_zero, List.set_cons_succ])) | (refine q_step_ex (by rfl) ?_; apply Exists.intro; refine ⟨fun W hW => ?_, ?_⟩; (next => (have hWc := fun (b o : Nat) (h : b < _) => (Ext.out hW).cell (p := ⟨b, o, none⟩) h); (try have hLK := HLK.out W (Ext.out hW)); go_simp; first | rfl | fail | fail); (try simp only [Act.put, List.setIfInBounds_toArray, List.set_cons_zero, List.set_cons_succ])) | fail)
  refine wpQuiet_nil ?_
  intro w2 hb2
  go_wp2_with fail
  go_ret
  exact ⟨rfl, below_ext hb1 hb2⟩
/-- A row more. -/
theorem look_snoc (L : List R3) (s i v s' i' : Int) (h : look L s i = none) : look (L ++ [⟨s, i, v⟩]) s' i' = if s = s' ∧ i = i' then some ⟨s, i, v⟩ else look L s' i' := by
  unfold look at *
  rw [List.find?_append]
  by_cases e : s = s' ∧ i = i'
  · obtain ⟨rfl, rfl⟩ := e
    rw [h]
    simp [R3.is]
  · rw [if_neg e]
    have : List.find? (R3.is s' i') [(⟨s, i, v⟩ : R3)] = none := by simp [R3.is]; exact fun h1 h2 => e ⟨h1, h2⟩
    rw [this, Option.or_none]
theorem cnt_snoc (L : List R3) (s i v s' : Int) : cntS (L ++ [⟨s, i, v⟩]) s' = if s = s' then cntS L s' + 1 else cntS L s' := by
  unfold cntS
  rw [List.filter_append]
  by_cases e : s = s' <;> simp [e]
theorem SlotsAt.put {D : Dt} (hD : SlotsAt D L) (hm : IsMap D) {s i v : Int} (hs : Wf s) (hi : Wf i) (h : look L s i = none) : SlotsAt (D.put (kl s i) (num v)) (L ++ [⟨s, i, v⟩]) := by
  intro s' i' hs' hi'
  rw [look_snoc L s i v s' i' h]
  by_cases e : s = s' ∧ i = i'
  · obtain ⟨rfl, rfl⟩ := e
    rw [if_pos ⟨rfl, rfl⟩]
    have hk := lawK.key (keyK hs hi)
    exact ⟨has_put_same hm hk _, atKey_put_same hm hk _ _⟩
  · rw [if_neg e]
    have hne : kl s' i' ≠ kl s i := fun h => e (by obtain ⟨h1, h2⟩ := kl_inj hs' hi' hs hi h; exact ⟨h1.symm, h2.symm⟩)
    rw [has_put_other hne, atKey_put_other hne]
    exact hD s' i' hs' hi'
theorem ManyAt.set {D : Dt} (hD : ManyAt D L) (hm : IsMap D) {s : Int} {L' : List R3} (h1 : ∀ s', s' ≠ s → cntS L' s' = cntS L s') : ManyAt (D.put (.int .i64 s) (num (cntS L' s))) L' := by
  intro s' hs'
  by_cases e : s' = s
  · subst e
    exact atKey_put_same hm (lawI.key (keyOf_int_mk Tryz.underlying3 hs')) _ _
  · rw [atKey_put_other (fun h => e (by cases h; rfl)), h1 s' e]
    exact hD s' hs'
theorem ManyAt.del {D : Dt} (hD : ManyAt D L) {s : Int} {L' : List R3} (h0 : cntS L' s = 0) (h1 : ∀ s', s' ≠ s → cntS L' s' = cntS L s') : ManyAt (D.del (.int .i64 s)) L' := by
  intro s' hs'
  by_cases e : s' = s
  · subst e
    rw [atKey_del_same, h0]
    rfl
  · rw [atKey_del_other (fun h => e (by cases h; rfl)), h1 s' e]
    exact hD s' hs'
theorem turned_butL {w w' : World} {b : Nat} (h : w.mapTurned w' b) : Upd b w w' := by
  have hg := h.grown
  obtain ⟨es, c, es', c', hb, rfl⟩ := h
  exact ⟨hg.os, hg.tape, hg.output, by simp [Go.ChangeMaps.setBlock], fun k hk => Go.ChangeMaps.heap_setBlock_other hb _ hk⟩
theorem owns_upd {w w' : World} {k : TypeId} {R : Value → Option (Dt × List MemPlace)} {b g n : Nat} {D : Dt} (h : w.ownsMap Tryz.prog k R b n D) (u : Upd g w w') (hn : b ≠ g) : w'.ownsMap Tryz.prog k R b n D := by
  obtain ⟨es, clock, hb', F, hs, hD⟩ := h
  exact ⟨es, clock, (u.block b hn).trans hb', F, hs, hD⟩
theorem put_new (x : Xq w xb bs bm n L) {s i v : Int} (hs : Wf s) (hi : Wf i) (hv : Wf v) (ho : look L s i = none) (hn : n < 1000) : Calls Tryz.prog 52 #[.pointer (some ⟨xb, 0, none⟩), key s i, .int .i64 v] w fun e w' => e = .returned (.bool true) ∧ Xq w' xb bs bm (n + 1) (L ++ [⟨s, i, v⟩]) ∧ ButL [bs, bm] w.heap.size w w' := by
  have c0 : w.cell? ⟨xb, 0, none⟩ = some (.map (some bs)) := x.hd.cell 0
  have hne := x.ne
  obtain ⟨hxl, hbl, hml⟩ := x.lt
  have HLK0 : Hid (∀ W, Below w.heap.size w W → (Instr.lookup 134 (.map (some bs)) (key s i) true).run Tryz.prog W = .ok (.tuple #[.int .i64 ((Idx.look L s i).elim 0 R3.slot), .bool (Idx.look L s i).isSome]) W) := Lib.hid (fun W hW => (x.ext hW).look hs hi)
  rw [ho] at HLK0
  have hcl := cntS_le L s
  have hlen := x.len
  have HX := Lib.hid x
  have HO := Lib.hid ho
  clear x ho
  have hK : Blk (w.alloc (.cells #[.int .i64 s, .int .i64 i] 101)) w.heap.size 101 #[.int .i64 s, .int .i64 i] := Blk.new _ _ _ _ rfl
  have hb1 : Below w.heap.size w (w.alloc (.cells #[.int .i64 s, .int .i64 i] 101)) := by (repeat (first | with_reducible exact Below.refl _ _ | (with_reducible assumption) | (with_reducible refine below_alloc ?_ _) | (with_reducible refine below_ext (w1 := ?_) ?_ ?_; rotate_left 2; (with_reducible assumption)) | (with_reducible refine Below.setCell ?_ ?_ _; rotate_left; ((try simp) <;> omega)) | (with_reducible refine Below.drew ?_) | (with_reducible refine below_drewN ?_ _) | fail))
  have HLK : Hid (∀ W, Below (w.alloc (.cells #[.int .i64 s, .int .i64 i] 101)).heap.size (w.alloc (.cells #[.int .i64 s, .int .i64 i] 101)) W → (Instr.lookup 134 (.map (some bs)) (.agg #[.int .i64 s, .int .i64 i]) true).run Tryz.prog W = .ok (.tuple #[.int .i64 0, .bool false]) W) := Lib.hid (fun W hW => HLK0.out W (below_ext hb1 hW))
  have hz1 : (w.alloc (.cells #[.int .i64 s, .int .i64 i] 101)).heap.size = w.heap.size + 1 := sz_alloc _ _
  unfold key
  generalize hW1 : w.alloc (.cells #[.int .i64 s, .int .i64 i] 101) = w1 at HLK hK hb1 hz1
  have HW1 := Lib.hid hW1
  clear hW1 HLK0
  have c1 : w1.cell? ⟨xb, 0, none⟩ = some (.map (some bs)) := (hb1.cell (p := ⟨xb, 0, none⟩) hxl).trans c0
  have hxl1 : xb < w1.heap.size := by omega
  go_enter Tryz.func52, Tryz.ntmps52
  go_wp2_with fail
  rw [HW1.out]
  refine wp_region_below_lit (by kernel_rfl) (by kernel_rfl) ?_
  repeat (first | go_big_quiet_skip | (go_big_quiet_want; go_big_quiet_op; go_big_quiet_on) | (refine q_load_blk (by rfl) 101 _ (by rfl) ?_ (.pointer (some ⟨_, 0, none⟩)) (by rfl) ?_ _ (fun _ h => h) Tryz.underlying101 rfl ?_ ?_; rotate_left; (next => (repeat (first | (with_reducible refine BlkAt.new _ _ _ _ ?_; ((try simp) <;> omega)) | (with_reducible assumption) | (with_reducible refine Blk.at (t := ?_) ?_; rotate_left; with_reducible assumption) | with_reducible refine BlkAt.alloc ?_ _ | with_reducible refine BlkAt.drew ?_ | (with_reducible refine BlkAt.setSame ?_ _ _) | (with_reducible refine BlkAt.setCell ?_ ?_ _; rotate_left; ((try simp) <;> omega)) | (with_reducible refine BlkAt.ext (w := ?_) ?_ ?_; rotate_left 2; (with_reducible assumption)) | fail))); (next => kernel_rfl); (try simp only [Act.put, List.setIfInBounds_toArray, List.set_cons_zero, List.set_cons_succ])) | (refine q_load_fld (by rfl) _ _ (by rfl) (fun _ h => h) _ _ (by rfl) ?_ ?_ ?_ ?_ ?_ ?_; rotate_left; (next => (repeat (first | (with_reducible refine BlkAt.new _ _ _ _ ?_; ((try simp) <;> omega)) | (with_reducible assumption) | (with_reducible refine Blk.at (t := ?_) ?_; rotate_left; with_reducible assumption) | with_reducible refine BlkAt.alloc ?_ _ | with_reducible refine BlkAt.drew ?_ | (with_reducible refine BlkAt.setSame ?_ _ _) | (with_reducible refine BlkAt.setCell ?_ ?_ _; rotate_left; ((try simp) <;> omega)) | (with_reducible refine BlkAt.ext (w := ?_) ?_ ?_; rotate_left 2; (with_reducible assumption)) | fail))); rotate_left; (next => first | (simp only [go_sem]; rfl) | rfl); (next => kernel_rfl); (try simp only [Act.put, List.setIfInBounds_toArray, List.set_cons_zero, List.set_cons_succ])) | (refine q_rem (by rfl) _ _ _ _ (by rfl) _ _ (by rfl) (by rfl) (by kernel_rfl) (by kernel_rfl) ?_ ?_; (next => omega); (try simp only [Act.put, List.setIfInBounds_toArray, List.set_cons_zero, List.set_cons_succ])) | (refine q_step_ex (by rfl) ?_; apply Exists.intro; refine ⟨fun W hW => ?_, ?_⟩; (next => (have hWc := fun (b o : Nat) (h : b < _) => (Ext.out hW).cell (p := ⟨b, o, none⟩) h); (try have hLK := HLK.out W (Ext.out hW)); go_simp; first | rfl | fail | fail); (try simp only [Act.put, List.setIfInBounds_toArray, List.set_cons_zero, List.set_cons_succ])) | fail)
  refine wpQuiet_nil ?_
  intro w2 hb2
  have hK2 := hK.ext hb2
  have hz2 := hb2.size
  have hB2 := below_ext hb1 hb2
  have X2 := HX.out.ext hB2
  have c2 : w2.cell? ⟨xb, 0, none⟩ = some (.map (some bs)) := X2.hd.cell 0
  have c2m : w2.cell? ⟨xb, 1, none⟩ = some (.map (some bm)) := X2.hd.cell 1
  have hxl2 : xb < w2.heap.size := by omega
  clear HLK c1 hxl1 hK
  go_wp2_with fail
  refine wp_region_below_tail 6 (by kernel_rfl) (by kernel_rfl) ?_
  simp only [List.take_succ_cons, List.take_zero, List.drop_succ_cons, List.drop_zero]
  repeat (first | go_big_quiet_skip | (go_big_quiet_want; go_big_quiet_op; go_big_quiet_on) | (refine q_load_blk (by rfl) 101 _ (by rfl) ?_ (.pointer (some ⟨_, 0, none⟩)) (by rfl) ?_ _ (fun _ h => h) Tryz.underlying101 rfl ?_ ?_; rotate_left; (next => (repeat (first | (with_reducible refine BlkAt.new _ _ _ _ ?_; ((try simp) <;> omega)) | (with_reducible assumption) | (with_reducible refine Blk.at (t := ?_) ?_; rotate_left; with_reducible assumption) | with_reducible refine BlkAt.alloc ?_ _ | with_reducible refine BlkAt.drew ?_ | (with_reducible refine BlkAt.setSame ?_ _ _) | (with_reducible refine BlkAt.setCell ?_ ?_ _; rotate_left; ((try simp) <;> omega)) | (with_reducible refine BlkAt.ext (w := ?_) ?_ ?_; rotate_left 2; (with_reducible assumption)) | fail))); (next => kernel_rfl); (try simp only [Act.put, List.setIfInBounds_toArray, List.set_cons_zero, List.set_cons_succ])) | (refine q_load_fld (by rfl) _ _ (by rfl) (fun _ h => h) _ _ (by rfl) ?_ ?_ ?_ ?_ ?_ ?_; rotate_left; (next => (repeat (first | (with_reducible refine BlkAt.new _ _ _ _ ?_; ((try simp) <;> omega)) | (with_reducible assumption) | (with_reducible refine Blk.at (t := ?_) ?_; rotate_left; with_reducible assumption) | with_reducible refine BlkAt.alloc ?_ _ | with_reducible refine BlkAt.drew ?_ | (with_reducible refine BlkAt.setSame ?_ _ _) | (with_reducible refine BlkAt.setCell ?_ ?_ _; rotate_left; ((try simp) <;> omega)) | (with_reducible refine BlkAt.ext (w := ?_) ?_ ?_; rotate_left 2; (with_reducible assumption)) | fail))); rotate_left; (next => first | (simp only [go_sem]; rfl) | rfl); (next => kernel_rfl); (try simp only [Act.put, List.setIfInBounds_toArray, List.set_cons_zero, List.set_cons_succ])) | (refine q_rem (by rfl) _ _ _ _ (by rfl) _ _ (by rfl) (by rfl) (by kernel_rfl) (by kernel_rfl) ?_ ?_; (next => omega); (try simp only [Act.put, List.setIfInBounds_toArray, List.set_cons_zero, List.set_cons_succ])) | (refine q_step_ex (by rfl) ?_; apply Exists.intro; refine ⟨fun W hW => ?_, ?_⟩; (next => (have hWc := fun (b o : Nat) (h : b < _) => (Ext.out hW).cell (p := ⟨b, o, none⟩) h); (try have hLK := HLK.out W (Ext.out hW)); go_simp; first | rfl | fail | fail); (try simp only [Act.put, List.setIfInBounds_toArray, List.set_cons_zero, List.set_cons_succ])) | fail)
  refine wpQuiet_nil ?_
  intro w3 hb3
  have hK3 := hK2.ext hb3
  have hB3 := below_ext hB2 hb3
  have X3 := X2.ext hb3
  obtain ⟨D, hown, hD⟩ := X3.os
  have hz3 := hb3.size
  clear c2 hxl2 hK2
  go_wp2_with (first | (at_mapUpdate; refine wpList_mapUpdate_in _ rfl _ _ _ 134 rfl 101 3 lawK Tryz.underlying134 _ bs n D rfl hown ?_ _ _ (kl s i) rfl rfl (keyK hs hi) (num v) [] (plainElem_int Tryz.underlying3 hv) ?_; (next => unfold maxLen; omega); intro w4 hown4 hturn4) | fail)
  have hU4 := turned_butL hturn4
  have hK4 := hK3.upd (show w.heap.size ≠ bs by omega) hU4
  have hd4 := X3.hd.upd hne.1 hU4
  obtain ⟨E, hom3, hE⟩ := X3.om
  have hom4 := owns_upd hom3 hU4 (Ne.symm hne.2.2)
  have hz4 : w4.heap.size = w3.heap.size := hU4.size
  have c4m : w4.cell? ⟨xb, 1, none⟩ = some (.map (some bm)) := hd4.cell 1
  have hxl4 : xb < w4.heap.size := by omega
  have hkl4 : w.heap.size < w4.heap.size := by omega
  have HLK : Hid (∀ W, Below w4.heap.size w4 W → (Instr.lookup 135 (.map (some bm)) (.int .i64 s) false).run Tryz.prog W = .ok (.int .i64 (cntS L s)) W) := Lib.hid (fun W hW => count_at (owns_below hom4 hW) hE hs)
  have hk0 : w4.cell? ⟨w.heap.size, 0, none⟩ = some (.int .i64 s) := hK4.cell 0
  have hc1000 : (cntS L s : Int) < 1000 := by omega
  generalize hce : cntS L s = c at *
  clear hom3 hK3
  refine wp_region_below_tail 8 (by kernel_rfl) (by kernel_rfl) ?_
  simp only [List.take_succ_cons, List.take_zero, List.drop_succ_cons, List.drop_zero]
  repeat (first | go_big_quiet_skip | (go_big_quiet_want; go_big_quiet_op; go_big_quiet_on) | (refine q_load_fld (by rfl) _ _ (by rfl) (fun _ h => h) _ _ (by rfl) ?_ ?_ ?_ ?_ ?_ ?_; rotate_left; (next => (repeat (first | (with_reducible refine BlkAt.new _ _ _ _ ?_; ((try simp) <;> omega)) | (with_reducible assumption) | (with_reducible refine Blk.at (t := ?_) ?_; rotate_left; with_reducible assumption) | with_reducible refine BlkAt.alloc ?_ _ | with_reducible refine BlkAt.drew ?_ | (with_reducible refine BlkAt.setSame ?_ _ _) | (with_reducible refine BlkAt.setCell ?_ ?_ _; rotate_left; ((try simp) <;> omega)) | (with_reducible refine BlkAt.ext (w := ?_) ?_ ?_; rotate_left 2; (with_reducible assumption)) | fail))); rotate_left; (next => first | (simp only [go_sem]; rfl) | rfl); (next => kernel_rfl); (try simp only [Act.put, List.setIfInBounds_toArray, List.set_cons_zero, List.set_cons_succ])) | (refine q_rem (by rfl) _ _ _ _ (by rfl) _ _ (by rfl) (by rfl) (by kernel_rfl) (by kernel_rfl) ?_ ?_; (next => omega); (try simp only [Act.put, List.setIfInBounds_toArray, List.set_cons_zero, List.set_cons_succ])) | (refine q_step_ex (by rfl) ?_; apply Exists.intro; refine ⟨fun W hW => ?_, ?_⟩; (next => (have hWc := fun (b o : Nat) (h : b < _) => (Ext.out hW).cell (p := ⟨b, o, none⟩) h); (try have hLK := HLK.out W (Ext.out hW)); go_simp; first | rfl | fail | fail); (try simp only [Act.put, List.setIfInBounds_toArray, List.set_cons_zero, List.set_cons_succ])) | fail)
  refine wpQuiet_nil ?_
  intro w5 hb5
  rw [show IntKind.i64.wrap ((c : Int) + 1) = ((c + 1 : Nat) : Int) from by rw [IntKind.wrap_i64]; omega]
  simp only [List.getElem_toArray, List.getElem_cons_succ, List.getElem_cons_zero]
  have hom5 := owns_below hom4 hb5
  have hwf : (Lit.int .i64 ((c + 1 : Nat) : Int)).wf = true := WalkArith.wf_i64 (by omega)
  go_wp2_with (first | (at_mapUpdate; refine wpList_mapUpdate_in _ rfl _ _ _ 135 rfl 3 3 lawI Tryz.underlying135 _ bm n E rfl hom5 ?_ _ _ (.int .i64 s) rfl rfl (keyOf_int_mk Tryz.underlying3 hs) (num ((c + 1 : Nat) : Int)) [] (plainElem_int Tryz.underlying3 hwf) ?_; (next => unfold maxLen; omega); intro w6 hown6 hturn6) | fail)
  go_ret
  have hU6 := turned_butL hturn6
  have hown5 := owns_below hown4 hb5
  have hX := HX.out
  have e1 : cntS (L ++ [⟨s, i, v⟩]) s = c + 1 := by rw [cnt_snoc, if_pos rfl, hce]
  have hM : ManyAt (E.put (.int .i64 s) (num ((c + 1 : Nat) : Int))) (L ++ [⟨s, i, v⟩]) := by
    rw [← e1]
    exact hE.set hom5.isMap (fun s' h => by rw [cnt_snoc, if_neg (Ne.symm h)])
  refine ⟨rfl, ⟨(hd4.ext hb5).upd hne.2.1 hU6, ⟨_, owns_upd hown5 hU6 hne.2.2, hD.put hown.isMap hs hi HO.out⟩, ⟨_, hown6, hM⟩, hne, ?_, ?_, ?_⟩, ?_⟩
  · intro r hr
    rcases List.mem_append.1 hr with h | h
    · exact hX.wf r h
    · simp at h
      subst h
      exact ⟨hs, hi, hv⟩
  · refine List.pairwise_append.2 ⟨hX.uniq, by simp, fun a ha b hb => ?_⟩
    simp at hb
    subst hb
    intro h
    have h2 := HO.out
    unfold Idx.look at h2
    rw [List.find?_eq_none] at h2
    exact h2 a ha (by simpa [R3.is] using h)
  · simp
    omega
  · have hU4' : ButL [bs, bm] w.heap.size w w4 := (ButL.of_below hB3).upd (by simp) hU4
    exact (hU4'.ext (by omega) hb5).upd (by simp) hU6
/-- A row less. -/
def dropR (L : List R3) (s i : Int) : List R3 := L.filter fun r => !R3.is s i r
theorem look_drop (L : List R3) (s i s' i' : Int) : look (dropR L s i) s' i' = if s = s' ∧ i = i' then none else look L s' i' := by
  unfold look dropR
  by_cases e : s = s' ∧ i = i'
  · obtain ⟨rfl, rfl⟩ := e
    rw [if_pos ⟨rfl, rfl⟩, List.find?_eq_none]
    intro r hr
    have := (List.mem_filter.1 hr).2
    simpa using this
  · rw [if_neg e]
    refine find_filter_keep (fun r hr => ?_) L
    simp only [R3.is, decide_eq_true_eq] at hr
    have : ¬ (r.sym = s ∧ r.id = i) := fun h => e ⟨h.1.symm.trans hr.1, h.2.symm.trans hr.2⟩
    simp [R3.is, this]
theorem drop_none {L : List R3} {s i : Int} (h : look L s i = none) : dropR L s i = L := by
  unfold look at h
  rw [List.find?_eq_none] at h
  unfold dropR
  exact List.filter_eq_self.2 (fun r hr => by have := h r hr; simpa using this)
theorem cnt_other (L : List R3) (s i s' : Int) (h : s' ≠ s) : cntS (dropR L s i) s' = cntS L s' := by
  unfold cntS dropR
  rw [List.filter_filter]
  congr 1
  refine List.filter_congr (fun r _ => ?_)
  by_cases e : r.sym = s'
  · have : ¬ (r.sym = s ∧ r.id = i) := fun h1 => h (e.symm.trans h1.1)
    simp [e, R3.is]
    exact .inl h
  · simp [e]
theorem cnt_drop {s i : Int} : ∀ {L : List R3}, Uniq L → (look L s i).isSome = true → cntS (dropR L s i) s + 1 = cntS L s
  | [], _, h => by simp [look] at h
  | r :: L, hu, h => by
    obtain ⟨hr, hu⟩ := List.pairwise_cons.1 hu
    by_cases e : r.sym = s ∧ r.id = i
    · obtain ⟨rfl, rfl⟩ := e
      have hn : look L r.sym r.id = none := by
        unfold look
        rw [List.find?_eq_none]
        intro x hx hx2
        simp only [R3.is, decide_eq_true_eq] at hx2
        exact hr x hx ⟨hx2.1.symm, hx2.2.symm⟩
      have hd : dropR (r :: L) r.sym r.id = L := by
        have := drop_none hn
        unfold dropR at this ⊢
        rw [List.filter_cons]
        simp [R3.is]
        simpa [R3.is] using this
      rw [hd]
      simp [cntS]
    · have hl : look (r :: L) s i = look L s i := by
        unfold look
        rw [List.find?_cons]
        simp [R3.is, e]
      rw [hl] at h
      have ih := cnt_drop hu h
      have hd : dropR (r :: L) s i = r :: dropR L s i := by
        unfold dropR
        rw [List.filter_cons]
        simp [R3.is, e]
      rw [hd]
      unfold cntS at ih ⊢
      by_cases e2 : r.sym = s
      · simp [e2]
        omega
      · simp [e2]
        omega
theorem SlotsAt.drop {D : Dt} (hD : SlotsAt D L) {s i : Int} (hs : Wf s) (hi : Wf i) : SlotsAt (D.del (kl s i)) (dropR L s i) := by
  intro s' i' hs' hi'
  rw [look_drop]
  by_cases e : s = s' ∧ i = i'
  · obtain ⟨rfl, rfl⟩ := e
    rw [if_pos ⟨rfl, rfl⟩]
    exact ⟨has_del_same, atKey_del_same _⟩
  · rw [if_neg e]
    have hne : kl s' i' ≠ kl s i := fun h => e (by obtain ⟨h1, h2⟩ := kl_inj hs' hi' hs hi h; exact ⟨h1.symm, h2.symm⟩)
    rw [has_del_other hne, atKey_del_other hne]
    exact hD s' i' hs' hi'
end
/-! ### Clear -/
theorem grown_of {w w' : World} (hb : Below w.heap.size w w') : w.grownBy w' none := ⟨hb.os, hb.tape, hb.output, hb.size, fun i hi _ => hb.block i hi⟩
/-- What a range that strikes a symbol's keys has left. -/
def Struck (D D' : Dt) (sym : Int) (left : Lit → Bool) : Prop := ∀ s i, Wf s → Wf i → has D' (kl s i) = (has D (kl s i) && (!decide (s = sym) || left (kl s i))) ∧ (has D' (kl s i) = true → D'.atKey (kl s i) zd = D.atKey (kl s i) zd)
theorem struck_start (D : Dt) (sym : Int) : Struck D D sym (has D) := fun s i _ _ => ⟨by cases has D (kl s i) <;> simp, fun _ => rfl⟩
theorem sameK {s i s' i' : Int} (hs : Wf s) (hi : Wf i) (hs' : Wf s') (hi' : Wf i') : (kl s i).sameKey (kl s' i') = decide (s = s' ∧ i = i') := by
  by_cases e : s = s' ∧ i = i'
  · obtain ⟨rfl, rfl⟩ := e
    rw [WideAt.sameKey_self (lawK.key (keyK hs hi))]
    simp
  · rw [Maps.sameKey_ne (fun h => e (kl_inj hs hi hs' hi' h))]
    simp [e]
theorem struck_del {D D' : Dt} {sym : Int} {left : Lit → Bool} (h : Struck D D' sym left) {i0 : Int} (hs0 : Wf sym) (hi0 : Wf i0) : Struck D (D'.del (kl sym i0)) sym (fun z => left z && !z.sameKey (kl sym i0)) := by
  intro s i hs hi
  obtain ⟨h1, h2⟩ := h s i hs hi
  by_cases e : s = sym ∧ i = i0
  · obtain ⟨rfl, rfl⟩ := e
    rw [has_del_same]
    refine ⟨?_, fun h => by cases h⟩
    show false = (has D (kl s i) && (!decide (s = s) || (left (kl s i) && !(kl s i).sameKey (kl s i))))
    rw [sameK hs hi hs hi]
    simp
  · have hne : kl s i ≠ kl sym i0 := fun h => e (kl_inj hs hi hs0 hi0 h)
    rw [has_del_other hne, atKey_del_other hne]
    refine ⟨?_, h2⟩
    rw [h1]
    show _ = (_ && (_ || (left (kl s i) && !(kl s i).sameKey (kl sym i0))))
    rw [sameK hs hi hs0 hi0]
    simp [e]
theorem struck_stay {D D' : Dt} {sym : Int} {left : Lit → Bool} (h : Struck D D' sym left) {s0 i0 : Int} (hs0 : Wf s0) (hi0 : Wf i0) (hne : s0 ≠ sym) : Struck D D' sym (fun z => left z && !z.sameKey (kl s0 i0)) := by
  intro s i hs hi
  obtain ⟨h1, h2⟩ := h s i hs hi
  refine ⟨?_, h2⟩
  rw [h1]
  show _ = (_ && (_ || (left (kl s i) && !(kl s i).sameKey (kl s0 i0))))
  rw [sameK hs hi hs0 hi0]
  by_cases e : s = sym
  · have : ¬ (s = s0 ∧ i = i0) := fun h => hne (h.1.symm.trans e)
    simp [this]
  · simp [e]
def clearR (L : List R3) (s : Int) : List R3 := L.filter fun r => !decide (r.sym = s)
theorem look_clear (L : List R3) (s s' i' : Int) : look (clearR L s) s' i' = if s' = s then none else look L s' i' := by
  unfold look clearR
  by_cases e : s' = s
  · subst e
    rw [if_pos rfl, List.find?_eq_none]
    intro r hr h
    have h1 := (List.mem_filter.1 hr).2
    simp only [R3.is, decide_eq_true_eq] at h
    simp [h.1] at h1
  · rw [if_neg e]
    refine find_filter_keep (fun r hr => ?_) L
    simp only [R3.is, decide_eq_true_eq] at hr
    have : r.sym ≠ s := fun h => e (hr.1.symm.trans h)
    simp [this]
theorem cnt_clear (L : List R3) (s s' : Int) : cntS (clearR L s) s' = if s' = s then 0 else cntS L s' := by
  unfold cntS clearR
  rw [List.filter_filter]
  by_cases e : s' = s
  · subst e
    rw [if_pos rfl]
    rw [List.length_eq_zero_iff, List.filter_eq_nil_iff]
    intro r _
    by_cases h : r.sym = s' <;> simp [h]
  · rw [if_neg e]
    congr 1
    refine List.filter_congr (fun r _ => ?_)
    by_cases h : r.sym = s'
    · simp [h, e]
    · simp [h]
theorem clear_none {L : List R3} {s : Int} (h : cntS L s = 0) : clearR L s = L := by
  unfold cntS at h
  rw [List.length_eq_zero_iff, List.filter_eq_nil_iff] at h
  unfold clearR
  exact List.filter_eq_self.2 (fun r hr => by have := h r hr; simpa using this)
theorem SlotsAt.clear {D D' : Dt} {L : List R3} (hD : SlotsAt D L) {sym : Int} {left : Lit → Bool} (h : Struck D D' sym left) (hl : ∀ kl, left kl = false) : SlotsAt D' (clearR L sym) := by
  intro s i hs hi
  obtain ⟨h1, h2⟩ := h s i hs hi
  obtain ⟨k1, k2⟩ := hD s i hs hi
  rw [hl] at h1
  rw [look_clear]
  by_cases e : s = sym
  · rw [if_pos e]
    have : has D' (kl s i) = false := by rw [h1]; simp [e]
    exact ⟨this, atKey_of_not_has this _⟩
  · rw [if_neg e]
    have h3 : has D' (kl s i) = has D (kl s i) := by rw [h1]; simp [e]
    refine ⟨by rw [h3, k1], ?_⟩
    by_cases h4 : has D' (kl s i) = true
    · rw [h2 h4, k2]
    · have h5 : has D' (kl s i) = false := by simpa using h4
      rw [atKey_of_not_has h5, ← k2, atKey_of_not_has (by rw [← h3]; exact h5)]
theorem new_any (w : World) : Calls Tryz.prog 42 #[] w fun e w' => ∃ xb bs bm, e = .returned (.pointer (some ⟨xb, 0, none⟩)) ∧ (w.heap.size ≤ xb ∧ w.heap.size ≤ bs ∧ w.heap.size ≤ bm) ∧ Xq w' xb bs bm 0 [] ∧ Below w.heap.size w w' := by
  have hmm := @run_makeMap Tryz.prog
  go_enter Tryz.func42, Tryz.ntmps42
  go_wp2_with fail
  go_ret
  refine ⟨w.heap.size + 1 + 1, w.heap.size, w.heap.size + 1, ?_, ⟨by omega, by omega, by omega⟩, ⟨?_, ?_, ?_, by omega, fun r h => (by cases h), List.Pairwise.nil, ⟨Nat.le_refl _, by omega⟩⟩, ?_⟩
  · first | rfl | simp
  · refine Blk.new _ _ _ _ ?_
    rw [sz_alloc, sz_alloc]
  · exact ⟨.map [], ((World.ownsMap_made w _ _ _).alloc _).alloc _, fun s i _ _ => ⟨rfl, rfl⟩⟩
  · refine ⟨.map [], ?_, fun s _ => rfl⟩
    have h := (World.ownsMap_made (w.alloc (.map #[] 0)) Tryz.prog 3 (plainElem (H := Unit) Tryz.prog 3)).alloc (.cells #[.map (some w.heap.size), .map (some (w.heap.size + 1))] 137)
    rw [sz_alloc] at h
    exact h
  · (repeat (first | with_reducible exact Below.refl _ _ | (with_reducible assumption) | (with_reducible refine below_alloc ?_ _) | (with_reducible refine below_ext (w1 := ?_) ?_ ?_; rotate_left 2; (with_reducible assumption)) | (with_reducible refine Below.setCell ?_ ?_ _; rotate_left; ((try simp) <;> omega)) | (with_reducible refine Below.drew ?_) | (with_reducible refine below_drewN ?_ _) | fail))
end Idx
end Go.Proofs.YtacpjpkhmdcagaaGreat
