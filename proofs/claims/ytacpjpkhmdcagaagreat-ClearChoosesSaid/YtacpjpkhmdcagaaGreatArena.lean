/- This text proves contracts of the package arena: New, Take, Drop, Get, Set, Used, Room, over a block of 4003 cells that is held as data. It has no conditions but those that they state. -/
import Derived.Test.YtacpjpkhmdcagaaGreatQuiet
import Derived.Test.YtacpjpkhmdcagaaGreatOwn
import Derived.Deep.RegionWith
namespace Go.Proofs.YtacpjpkhmdcagaaGreat
set_option linter.unusedVariables false
open Go.RowKit

namespace Are
set_option maxHeartbeats 400000
set_option maxRecDepth 10000
/-- An arena as data. -/
structure St where
  size : Nat
  free : Int
  used : Int
  o : Nat → Ord
  nx : Nat → Int
/-- The cells of an arena. -/
structure Hold (cs : Array Value) (s : St) : Prop where
  len : cs.size = 4003
  size : cs[4000]? = some (.int .i64 s.size)
  free : cs[4001]? = some (.int .i64 s.free)
  used : cs[4002]? = some (.int .i64 s.used)
  nx : ∀ n, n < 500 → cs[n * 8 + 7]? = some (.int .i64 (s.nx n))
  o : ∀ n, n < 500 → ∀ j, j < 7 → cs[n * 8 + j]? = (s.o n).arr[j]?

theorem Hold.setNx {cs : Array Value} {s : St} (h : Hold cs s) {n : Nat} (hn : n < 500) (v : Int) : Hold (cs.setIfInBounds (n * 8 + 7) (.int .i64 v)) { s with nx := fun k => if k = n then v else s.nx k } := by
  obtain ⟨h1, h2, h3, h4, h5, h6⟩ := h
  refine ⟨by simp [h1], ?_, ?_, ?_, fun k hk => ?_, fun k hk j hj => ?_⟩
  · rw [Array.getElem?_setIfInBounds_ne (by omega)]; exact h2
  · rw [Array.getElem?_setIfInBounds_ne (by omega)]; exact h3
  · rw [Array.getElem?_setIfInBounds_ne (by omega)]; exact h4
  · by_cases e : k = n
    · subst e
      rw [Array.getElem?_setIfInBounds_self_of_lt (by omega)]
      simp
    · rw [Array.getElem?_setIfInBounds_ne (by omega)]
      simpa [e] using h5 k hk
  · rw [Array.getElem?_setIfInBounds_ne (by omega)]; exact h6 k hk j hj
theorem Hold.setFree {cs : Array Value} {s : St} (h : Hold cs s) (v : Int) : Hold (cs.setIfInBounds 4001 (.int .i64 v)) { s with free := v } := by
  obtain ⟨h1, h2, h3, h4, h5, h6⟩ := h
  refine ⟨by simp [h1], ?_, ?_, ?_, fun k hk => ?_, fun k hk j hj => ?_⟩
  · rw [Array.getElem?_setIfInBounds_ne (by omega)]; exact h2
  · rw [Array.getElem?_setIfInBounds_self_of_lt (by omega)]
  · rw [Array.getElem?_setIfInBounds_ne (by omega)]; exact h4
  · rw [Array.getElem?_setIfInBounds_ne (by omega)]; exact h5 k hk
  · rw [Array.getElem?_setIfInBounds_ne (by omega)]; exact h6 k hk j hj
theorem Hold.setUsed {cs : Array Value} {s : St} (h : Hold cs s) (v : Int) : Hold (cs.setIfInBounds 4002 (.int .i64 v)) { s with used := v } := by
  obtain ⟨h1, h2, h3, h4, h5, h6⟩ := h
  refine ⟨by simp [h1], ?_, ?_, ?_, fun k hk => ?_, fun k hk j hj => ?_⟩
  · rw [Array.getElem?_setIfInBounds_ne (by omega)]; exact h2
  · rw [Array.getElem?_setIfInBounds_ne (by omega)]; exact h3
  · rw [Array.getElem?_setIfInBounds_self_of_lt (by omega)]
  · rw [Array.getElem?_setIfInBounds_ne (by omega)]; exact h5 k hk
  · rw [Array.getElem?_setIfInBounds_ne (by omega)]; exact h6 k hk j hj

/-- An arena lies there. -/
def Ar (w : World) (g : Nat) (s : St) : Prop := ∃ cs, Blk w g 133 cs ∧ Hold cs s
theorem Ar.lt {w : World} {g : Nat} {s : St} (h : Ar w g s) : g < w.heap.size := by obtain ⟨cs, hb, _⟩ := h; exact hb.lt
theorem Ar.ext {w w' : World} {g : Nat} {s : St} (h : Ar w g s) (hb : Below w.heap.size w w') : Ar w' g s := by obtain ⟨cs, h1, h2⟩ := h; exact ⟨cs, h1.ext hb, h2⟩
theorem Ar.cSize {w : World} {g : Nat} {s : St} (h : Ar w g s) : w.cell? ⟨g, 4000, none⟩ = some (.int .i64 s.size) := by obtain ⟨cs, h1, h2⟩ := h; rw [h1.cell]; exact h2.size
theorem Ar.cFree {w : World} {g : Nat} {s : St} (h : Ar w g s) : w.cell? ⟨g, 4001, none⟩ = some (.int .i64 s.free) := by obtain ⟨cs, h1, h2⟩ := h; rw [h1.cell]; exact h2.free
theorem Ar.cUsed {w : World} {g : Nat} {s : St} (h : Ar w g s) : w.cell? ⟨g, 4002, none⟩ = some (.int .i64 s.used) := by obtain ⟨cs, h1, h2⟩ := h; rw [h1.cell]; exact h2.used
theorem Ar.cNx {w : World} {g : Nat} {s : St} (h : Ar w g s) {n : Nat} (hn : n < 500) : w.cell? ⟨g, n * 8 + 7, none⟩ = some (.int .i64 (s.nx n)) := by obtain ⟨cs, h1, h2⟩ := h; rw [h1.cell]; exact h2.nx n hn
theorem Ar.fr {w : World} {g : Nat} {s : St} (h : Ar w g s) (i : Nat) : w.frozen? ⟨g, i, none⟩ = false := by obtain ⟨cs, h1, h2⟩ := h; exact h1.frozen i

/-- A slot's cells. -/
def slotArr (o : Ord) (n : Int) : Array Value := (o.cells ++ [Value.int .i64 n]).toArray
theorem built_slot (o : Ord) (n : Int) : Tryz.prog.built 130 [(0, .agg o.arr), (1, .int .i64 n)] = some (slotArr o n) := by kernel_rfl
theorem built_slot0 (n : Int) : Tryz.prog.built 130 [(1, .int .i64 n)] = some (slotArr ⟨0, 0, 0, 0, 0, 0, 0⟩ n) := by kernel_rfl
def zeros : Array Value := Array.replicate 4003 (.int .i64 0)
theorem built_arena (v : Int) : Tryz.prog.built 133 [(1, .int .i64 v)] = some (zeros.setIfInBounds 4000 (.int .i64 v)) := by
  have h : Tryz.prog.built 133 [(1, .int .i64 v)] = Instr.fill (fun x => #[(0, 4000), (4000, 1), (4001, 1), (4002, 1)][x]?) zeros [(1, .int .i64 v)] := by kernel_rfl
  rw [h]
  simp [Instr.fill, Value.cells, zeros]
def ord0 : Ord := ⟨0, 0, 0, 0, 0, 0, 0⟩
theorem Hold.setSlot {cs : Array Value} {s : St} (h : Hold cs s) {n : Nat} (hn : n < 500) (x : Ord) (v : Int) :
    Hold (putC cs (n * 8) (slotArr x v).toList) { s with nx := fun k => if k = n then v else s.nx k, o := fun k => if k = n then x else s.o k } := by
  obtain ⟨h1, h2, h3, h4, h5, h6⟩ := h
  have hl : (slotArr x v).toList.length = 8 := rfl
  refine ⟨by rw [put_size]; exact h1, ?_, ?_, ?_, fun k hk => ?_, fun k hk j hj => ?_⟩
  · rw [put_out _ _ _ _ (by omega)]; exact h2
  · rw [put_out _ _ _ _ (by omega)]; exact h3
  · rw [put_out _ _ _ _ (by omega)]; exact h4
  · by_cases e : k = n
    · subst e
      rw [put_in _ _ _ _ (by omega) (by omega)]
      simp [slotArr, Ord.cells]
    · rw [put_out _ _ _ _ (by omega)]
      simpa [e] using h5 k hk
  · by_cases e : k = n
    · subst e
      rw [put_in _ _ _ _ (by omega) (by omega)]
      simp only [if_true]
      match j, hj with
      | 0, _ => rfl
      | 1, _ => rfl
      | 2, _ => rfl
      | 3, _ => rfl
      | 4, _ => rfl
      | 5, _ => rfl
      | 6, _ => rfl
    · rw [put_out _ _ _ _ (by omega)]
      simpa [e] using h6 k hk j hj
theorem Hold.setOrd {cs : Array Value} {s : St} (h : Hold cs s) {n : Nat} (hn : n < 500) (x : Ord) :
    Hold (putC cs (n * 8) x.arr.toList) { s with o := fun k => if k = n then x else s.o k } := by
  obtain ⟨h1, h2, h3, h4, h5, h6⟩ := h
  have hl : x.arr.toList.length = 7 := rfl
  refine ⟨by rw [put_size]; exact h1, ?_, ?_, ?_, fun k hk => ?_, fun k hk j hj => ?_⟩
  · rw [put_out _ _ _ _ (by omega)]; exact h2
  · rw [put_out _ _ _ _ (by omega)]; exact h3
  · rw [put_out _ _ _ _ (by omega)]; exact h4
  · rw [put_out _ _ _ _ (by omega)]
    exact h5 k hk
  · by_cases e : k = n
    · subst e
      rw [put_in _ _ _ _ (by omega) (by omega)]
      simp
    · rw [put_out _ _ _ _ (by omega)]
      simpa [e] using h6 k hk j hj

/-! ### at -/
def has (s : St) (n : Int) : Bool := decide (0 ≤ n ∧ n < s.size ∧ s.nx n.toNat = -2)
theorem at_yes (g : Nat) (s : St) (n : Nat) (w : World) (hA : Ar w g s) (hs : s.size ≤ 500) (hn : n < s.size) (hx : s.nx n = -2) :
    Calls Tryz.prog 95 #[.pointer (some ⟨g, 0, none⟩), .int .i64 n] w fun e w' => e = .returned (.pointer (some ⟨g, n * 8, none⟩)) ∧ w = w' := by
  have c1 := hA.cSize
  have c2 := hA.cNx (show n < 500 by omega)
  have hX : (s.nx n != -2) = false := by simp [hx]
  have e1 : (n : Int) < (s.size : Int) := by omega
  clear hx
  go_enter Tryz.func95, Tryz.ntmps95
  go_wp2_with fail
  go_ret
  exact ⟨rfl, rfl⟩
theorem at_no (g : Nat) (s : St) (n : Int) (w : World) (hA : Ar w g s) (hs : s.size ≤ 500) (hx : has s n = false) :
    Calls Tryz.prog 95 #[.pointer (some ⟨g, 0, none⟩), .int .i64 n] w fun e w' => e = .returned (.pointer none) ∧ w = w' := by
  have c1 := hA.cSize
  have hx : ¬ (0 ≤ n ∧ n < s.size ∧ s.nx n.toNat = -2) := by simpa only [has, decide_eq_false_iff_not] using hx
  by_cases h0 : n < 0
  · clear hx
    go_enter Tryz.func95, Tryz.ntmps95
    go_wp2_with fail
    go_ret
    exact ⟨rfl, rfl⟩
  · by_cases h1 : n < s.size
    · obtain ⟨n, rfl⟩ : ∃ k : Nat, n = k := ⟨n.toNat, by omega⟩
      have c2 := hA.cNx (show n < 500 by omega)
      have hX : (s.nx n != -2) = true := by
        rw [bne_iff_ne]
        intro h
        exact hx ⟨by omega, h1, by simpa using h⟩
      clear hx
      go_enter Tryz.func95, Tryz.ntmps95
      go_wp2_with fail
      go_ret
      exact ⟨rfl, rfl⟩
    · clear hx
      go_enter Tryz.func95, Tryz.ntmps95
      go_wp2_with fail
      go_ret
      exact ⟨rfl, rfl⟩
theorem at_nil (n : Int) (w : World) :
    Calls Tryz.prog 95 #[.pointer none, .int .i64 n] w fun e w' => e = .returned (.pointer none) ∧ w = w' := by
  go_enter Tryz.func95, Tryz.ntmps95
  go_wp2_with fail
  go_ret
  exact ⟨rfl, rfl⟩

/-! ### New -/
def st0 (n i : Nat) : St := ⟨n, 0, 0, fun _ => ord0, fun k => if k < i then k + 1 else 0⟩
def new0 (n : Nat) : St := ⟨n, 0, 0, fun _ => ord0, fun k => if k = n - 1 then -1 else if k < n then k + 1 else 0⟩
theorem hold0 (n : Nat) : Hold (zeros.setIfInBounds 4000 (.int .i64 n)) (st0 n 0) := by
  have hz : ∀ i, i < 4003 → zeros[i]? = some (Value.int .i64 0) := fun i hi => by rw [zeros, Array.getElem?_replicate, if_pos hi]
  have hl : zeros.size = 4003 := Array.size_replicate
  refine ⟨by rw [Array.size_setIfInBounds]; exact hl, ?_, ?_, ?_, fun k hk => ?_, fun k hk j hj => ?_⟩
  · rw [Array.getElem?_setIfInBounds_self_of_lt (by omega)]
    rfl
  · rw [Array.getElem?_setIfInBounds_ne (by omega), hz _ (by omega)]
    rfl
  · rw [Array.getElem?_setIfInBounds_ne (by omega), hz _ (by omega)]
    rfl
  · rw [Array.getElem?_setIfInBounds_ne (by omega), hz _ (by omega)]
    rfl
  · rw [Array.getElem?_setIfInBounds_ne (by omega), hz _ (by omega)]
    match j, hj with
    | 0, _ => rfl
    | 1, _ => rfl
    | 2, _ => rfl
    | 3, _ => rfl
    | 4, _ => rfl
    | 5, _ => rfl
    | 6, _ => rfl
theorem Hold.eq {cs : Array Value} {s s' : St} (h : Hold cs s) (e : s = s') : Hold cs s' := e ▸ h
theorem st_ext {s s' : St} (h1 : s.size = s'.size) (h2 : s.free = s'.free) (h3 : s.used = s'.used) (h4 : ∀ k, s.o k = s'.o k) (h5 : ∀ k, s.nx k = s'.nx k) : s = s' := by
  obtain ⟨a, b, c, d, e⟩ := s
  obtain ⟨a', b', c', d', e'⟩ := s'
  simp only at h1 h2 h3 h4 h5
  obtain rfl := funext h4
  obtain rfl := funext h5
  subst h1 h2 h3
  rfl
theorem new_bad (n : Int) (w : World) (h : ¬ (1 ≤ n ∧ n ≤ 500)) :
    Calls Tryz.prog 41 #[.int .i64 n] w fun e w' => e = .returned (.tuple #[.pointer none, .int .i64 9]) ∧ w = w' := by
  by_cases h0 : n < 1
  · go_enter Tryz.func41, Tryz.ntmps41
    go_wp2_with fail
    go_ret2
    exact ⟨rfl, rfl⟩
  · have h1 : 500 < n := by omega
    clear h
    go_enter Tryz.func41, Tryz.ntmps41
    go_wp2_with fail
    go_ret2
    exact ⟨rfl, rfl⟩
theorem new_any (n : Nat) (w : World) (h1 : 1 ≤ n) (h2 : n ≤ 500) :
    Calls Tryz.prog 41 #[.int .i64 n] w fun e w' => ∃ g, e = .returned (.tuple #[.pointer (some ⟨g, 0, none⟩), .int .i64 0]) ∧ w.heap.size ≤ g ∧ Ar w' g (new0 n) ∧ Below w.heap.size w w' := by
  go_enter Tryz.func41, Tryz.ntmps41
  go_wp2_with (first | (refine wpList_build_is (by rfl) _ _ (by rfl) ?_ ?_ ?_; rotate_left; (next => simp only [List.map_toArray, List.map_cons, List.map_nil, go_sem]; exact built_arena _)) | fail)
  have hB0 : Blk (w.alloc (.cells (zeros.setIfInBounds 4000 (.int .i64 n)) 133)) w.heap.size 133 (zeros.setIfInBounds 4000 (.int .i64 n)) := Blk.new _ _ _ _ rfl
  have hH0 := hold0 n
  have hb0 : Below w.heap.size w (w.alloc (.cells (zeros.setIfInBounds 4000 (.int .i64 n)) 133)) := by (repeat (first | with_reducible exact Below.refl _ _ | (with_reducible assumption) | (with_reducible refine below_alloc ?_ _) | (with_reducible refine below_ext (w1 := ?_) ?_ ?_; rotate_left 2; (with_reducible assumption)) | (with_reducible refine Below.setCell ?_ ?_ _; rotate_left; ((try simp) <;> omega)) | (with_reducible refine Below.drew ?_) | (with_reducible refine below_drewN ?_ _) | fail))
  generalize hw1 : w.alloc (.cells (zeros.setIfInBounds 4000 (.int .i64 n)) 133) = w1 at *
  generalize zeros.setIfInBounds 4000 (.int .i64 n) = cs0 at *
  clear hw1
  go_loopw [16] (fun a wr => ∃ i : Nat, a = .int .i64 i ∧ i ≤ n ∧ (∃ cs, Blk wr w.heap.size 133 cs ∧ Hold cs (st0 n i)) ∧ Below w.heap.size w wr) (fun a _ => n - (intOf a).toNat)
  case atStart => exact ⟨0, rfl, by omega, ⟨_, hB0, hH0⟩, hb0⟩
  case round =>
    obtain ⟨i, rfl, hin, ⟨cs, hB, hH⟩, hb⟩ := hrel
    have hlen := hH.len
    by_cases hlt : i < n
    · go_wp2_with (first | ((with_reducible show wpList _ _ _ (⟨_, .store _ _ _, _, _, _, _⟩ :: _) _ _); refine wpList_store_fld (by rfl) _ _ _ (by rfl) _ _ (by rfl) _ (by rfl) _ _ hB ?_ ?_ (by rfl) (by rfl) ?_; (next => first | omega | ((try simp) <;> omega)); (next => kernel_rfl); intro w2 hB2 hU2) | fail)
      have hH2 := hH.setNx (show i < 500 by omega) (i + 1)
      have hH3 : Hold _ (st0 n (i + 1)) := hH2.eq (st_ext rfl rfl rfl (fun _ => rfl) (fun k => by
        simp only [st0]
        by_cases e : k = i
        · subst e; rw [if_pos rfl, if_pos (by omega)]
        · rw [if_neg e]
          by_cases e2 : k < i
          · rw [if_pos e2, if_pos (by omega)]
          · rw [if_neg e2, if_neg (by omega)]))
      go_wp2_with fail
      go_roundw
      case rel => exact ⟨i + 1, by go_num, by omega, ⟨_, hB2, hH3⟩, below_upd hb (Nat.le_refl _) hU2⟩
      case measure => simp [intOf]; omega
    · have hi : i = n := by omega
      subst hi
      obtain ⟨m, rfl⟩ : ∃ m, i = m + 1 := ⟨i - 1, by omega⟩
      go_wp2_with (first | ((with_reducible show wpList _ _ _ (⟨_, .store _ _ _, _, _, _, _⟩ :: _) _ _); refine wpList_store_fld (by rfl) _ _ _ (by rfl) _ _ (by rfl) _ (by rfl) _ _ hB ?_ ?_ (by rfl) (by rfl) ?_; (next => first | omega | ((try simp) <;> omega)); (next => kernel_rfl); intro w2 hB2 hU2) | fail)
      go_ret2
      have hH2 := hH.setNx (show m < 500 by omega) (-1)
      have hH3 : Hold _ (new0 (m + 1)) := hH2.eq (st_ext rfl rfl rfl (fun _ => rfl) (fun k => by
        simp only [st0, new0]
        rw [Nat.add_sub_cancel]))
      exact ⟨_, rfl, Nat.le_refl _, ⟨_, hB2, hH3⟩, below_upd hb (Nat.le_refl _) hU2⟩

/-! ### Take -/
theorem slotArr_one (o : Ord) (n : Int) : (slotArr o n).all (·.oneCell') = true := by simp [slotArr, Ord.cells, Value.oneCell']
theorem ordArr_one (o : Ord) : o.arr.all (·.oneCell') = true := by simp [Ord.arr, Ord.cells, Value.oneCell']
theorem slotArr_size (o : Ord) (n : Int) : (slotArr o n).size = 8 := rfl
def takeS (s : St) (k : Nat) (o : Ord) : St := ⟨s.size, s.nx k, s.used + 1, fun i => if i = k then o else s.o i, fun i => if i = k then -2 else s.nx i⟩
theorem take_nil (o : Ord) (w : World) :
    Calls Tryz.prog 49 #[.pointer none, .agg o.arr] w fun e w' => e = .returned (.tuple #[.int .i64 0, .int .i64 1]) ∧ Below w.heap.size w w' := by
  go_enter Tryz.func49, Tryz.ntmps49
  go_wp2_with fail
  go_ret2
  exact ⟨rfl, by (repeat (first | with_reducible exact Below.refl _ _ | (with_reducible assumption) | (with_reducible refine below_alloc ?_ _) | (with_reducible refine below_ext (w1 := ?_) ?_ ?_; rotate_left 2; (with_reducible assumption)) | (with_reducible refine Below.setCell ?_ ?_ _; rotate_left; ((try simp) <;> omega)) | (with_reducible refine Below.drew ?_) | (with_reducible refine below_drewN ?_ _) | fail))⟩
theorem take_full (g : Nat) (s : St) (o : Ord) (w : World) (hA : Ar w g s) (hf : s.free = -1) :
    Calls Tryz.prog 49 #[.pointer (some ⟨g, 0, none⟩), .agg o.arr] w fun e w' => e = .returned (.tuple #[.int .i64 0, .int .i64 7]) ∧ Below w.heap.size w w' := by
  have c1 := (hA.ext (w' := w.alloc (.cells o.arr 52)) (by (repeat (first | with_reducible exact Below.refl _ _ | (with_reducible assumption) | (with_reducible refine below_alloc ?_ _) | (with_reducible refine below_ext (w1 := ?_) ?_ ?_; rotate_left 2; (with_reducible assumption)) | (with_reducible refine Below.setCell ?_ ?_ _; rotate_left; ((try simp) <;> omega)) | (with_reducible refine Below.drew ?_) | (with_reducible refine below_drewN ?_ _) | fail)))).cFree
  rw [hf] at c1
  go_enter Tryz.func49, Tryz.ntmps49
  go_wp2_with fail
  go_ret2
  exact ⟨rfl, by (repeat (first | with_reducible exact Below.refl _ _ | (with_reducible assumption) | (with_reducible refine below_alloc ?_ _) | (with_reducible refine below_ext (w1 := ?_) ?_ ?_; rotate_left 2; (with_reducible assumption)) | (with_reducible refine Below.setCell ?_ ?_ _; rotate_left; ((try simp) <;> omega)) | (with_reducible refine Below.drew ?_) | (with_reducible refine below_drewN ?_ _) | fail))⟩
theorem take_any (g : Nat) (s : St) (k : Nat) (o : Ord) (w : World) (hA : Ar w g s) (hf : s.free = k) (hk : k < 500) (hu : 0 ≤ s.used ∧ s.used ≤ 500) :
    Calls Tryz.prog 49 #[.pointer (some ⟨g, 0, none⟩), .agg o.arr] w fun e w' => e = .returned (.tuple #[.int .i64 k, .int .i64 0]) ∧ Ar w' g (takeS s k o) ∧ But g w.heap.size w w' := by
  have hb1 : Below w.heap.size w (w.alloc (.cells o.arr 52)) := by (repeat (first | with_reducible exact Below.refl _ _ | (with_reducible assumption) | (with_reducible refine below_alloc ?_ _) | (with_reducible refine below_ext (w1 := ?_) ?_ ?_; rotate_left 2; (with_reducible assumption)) | (with_reducible refine Below.setCell ?_ ?_ _; rotate_left; ((try simp) <;> omega)) | (with_reducible refine Below.drew ?_) | (with_reducible refine below_drewN ?_ _) | fail))
  have hlt := hA.lt
  have hA1 := hA.ext hb1
  have c1 := hA1.cFree
  have c2 := hA1.cNx hk
  rw [hf] at c1
  have hK : ((k : Int) == -1) = false := by simp
  have hO : Blk (w.alloc (.cells o.arr 52)) w.heap.size 52 o.arr := Blk.new _ _ _ _ rfl
  obtain ⟨cs, hB, hH⟩ := hA1
  have hlen := hH.len
  have hki : (k : Int) < 500 := by omega
  clear hf
  go_enter Tryz.func49, Tryz.ntmps49
  go_wp2_with (first | ((with_reducible show wpList _ _ _ (⟨_, .store _ _ _, _, _, _, _⟩ :: _) _ _); refine wpList_store_fld (by rfl) _ _ _ (by rfl) _ _ (by rfl) _ (by rfl) _ _ hB ?_ ?_ (by rfl) (by rfl) ?_; (next => first | omega | ((try simp) <;> omega)); (next => kernel_rfl); intro w2 hB2 hU2) | fail)
  replace hB2 : Blk w2 g 133 (cs.setIfInBounds 4001 (.int .i64 (s.nx k))) := hB2
  have hH2 := hH.setFree (s.nx k)
  have hO2 := hO.upd (by omega) hU2
  refine wp_region_below_tail 7 (by kernel_rfl) (by kernel_rfl) ?_
  simp only [List.take_succ_cons, List.take_zero, List.drop_succ_cons, List.drop_zero]
  repeat (first | (refine q_build (by rfl) _ _ (by rfl) ?_ ?_ ?_; rotate_left; (next => simp only [List.map_toArray, List.map_cons, List.map_nil, go_sem]; exact built_slot _ _); (try simp only [Act.put, List.setIfInBounds_toArray, List.set_cons_zero, List.set_cons_succ])) | go_big_quiet_skip | (go_big_quiet_want; go_big_quiet_op; go_big_quiet_on) | (refine q_load_blk (by rfl) 52 _ (by rfl) ?_ (.pointer (some ⟨_, 0, none⟩)) (by rfl) ?_ _ (fun _ h => h) Tryz.underlying52 rfl ?_ ?_; rotate_left; (next => (repeat (first | (with_reducible refine BlkAt.new _ _ _ _ ?_; ((try simp) <;> omega)) | (with_reducible assumption) | (with_reducible refine Blk.at (t := ?_) ?_; rotate_left; with_reducible assumption) | with_reducible refine BlkAt.alloc ?_ _ | with_reducible refine BlkAt.drew ?_ | (with_reducible refine BlkAt.setSame ?_ _ _) | (with_reducible refine BlkAt.setCell ?_ ?_ _; rotate_left; ((try simp) <;> omega)) | (with_reducible refine BlkAt.ext (w := ?_) ?_ ?_; rotate_left 2; (with_reducible assumption)) | fail))); (next => kernel_rfl); (try simp only [Act.put, List.setIfInBounds_toArray, List.set_cons_zero, List.set_cons_succ])) | (refine q_load_fld (by rfl) _ _ (by rfl) (fun _ h => h) _ _ (by rfl) ?_ ?_ ?_ ?_ ?_ ?_; rotate_left; (next => (repeat (first | (with_reducible refine BlkAt.new _ _ _ _ ?_; ((try simp) <;> omega)) | (with_reducible assumption) | (with_reducible refine Blk.at (t := ?_) ?_; rotate_left; with_reducible assumption) | with_reducible refine BlkAt.alloc ?_ _ | with_reducible refine BlkAt.drew ?_ | (with_reducible refine BlkAt.setSame ?_ _ _) | (with_reducible refine BlkAt.setCell ?_ ?_ _; rotate_left; ((try simp) <;> omega)) | (with_reducible refine BlkAt.ext (w := ?_) ?_ ?_; rotate_left 2; (with_reducible assumption)) | fail))); rotate_left; (next => first | (simp only [go_sem]; rfl) | rfl); (next => kernel_rfl); (try simp only [Act.put, List.setIfInBounds_toArray, List.set_cons_zero, List.set_cons_succ])) | (refine q_rem (by rfl) _ _ _ _ (by rfl) _ _ (by rfl) (by rfl) (by kernel_rfl) (by kernel_rfl) ?_ ?_; (next => omega); (try simp only [Act.put, List.setIfInBounds_toArray, List.set_cons_zero, List.set_cons_succ])) | (refine q_step_ex (by rfl) ?_; apply Exists.intro; refine ⟨fun W hW => ?_, ?_⟩; (next => (have hWc := fun (b o : Nat) (h : b < _) => (Ext.out hW).cell (p := ⟨b, o, none⟩) h); (try have hLK := HLK.out W (Ext.out hW)); go_simp; first | rfl | fail); (try simp only [Act.put, List.setIfInBounds_toArray, List.set_cons_zero, List.set_cons_succ])) | fail)
  refine wpQuiet_nil ?_
  intro wq hbq
  have hB3 := hB2.ext hbq
  have hlen2 := hH2.len
  ((with_reducible show wpList _ _ _ (⟨_, .store _ _ _, _, _, _, _⟩ :: _) _ _); refine wpList_store_put (by rfl) _ _ _ (by rfl) _ _ _ (by rfl) (by rfl) _ _ hB3 ?_ ?_ ?_ ?_; (next => kernel_rfl); (next => rw [slotArr_size]; omega); (next => first | exact slotArr_one _ _ | exact ordArr_one _ | (simp [Value.oneCell']; done)); intro w3 hB4 hU3)
  have hH3 := hH2.setSlot hk o (-2)
  have c3 : w3.cell? ⟨g, 4002, none⟩ = some (Value.int .i64 s.used) := by rw [hB4.cell]; exact hH3.used
  have hlen3 := hH3.len
  go_wp2_with (first | ((with_reducible show wpList _ _ _ (⟨_, .store _ _ _, _, _, _, _⟩ :: _) _ _); refine wpList_store_fld (by rfl) _ _ _ (by rfl) _ _ (by rfl) _ (by rfl) _ _ hB4 ?_ ?_ (by rfl) (by rfl) ?_; (next => first | omega | ((try simp) <;> omega)); (next => kernel_rfl); intro w4 hB5 hU4) | fail)
  have hH4 := hH3.setUsed (s.used + 1)
  have e1 : IntKind.i64.wrap (s.used + 1) = s.used + 1 := IntWalk.i64_in _ (by omega)
  go_ret2
  refine ⟨rfl, ⟨_, hB5, ?_⟩, ((((But.of_below hb1).upd hU2).ext (by have := hU2.size; have := hb1.size; omega) hbq).upd hU3).upd hU4⟩
  exact hH4

/-! ### Get, Set, Drop, Used, Room -/
theorem room_nil (w : World) :
    Calls Tryz.prog 71 #[.pointer none] w fun e w' => e = .returned (.int .i64 0) ∧ w = w' := by
  go_enter Tryz.func71, Tryz.ntmps71
  go_wp2_with fail
  go_ret
  exact ⟨rfl, rfl⟩
theorem room_any (g : Nat) (s : St) (w : World) (hA : Ar w g s) (hs : s.size ≤ 500) (hu : 0 ≤ s.used ∧ s.used ≤ 500) :
    Calls Tryz.prog 71 #[.pointer (some ⟨g, 0, none⟩)] w fun e w' => e = .returned (.int .i64 (s.size - s.used)) ∧ Below w.heap.size w w' := by
  have c1 := hA.cUsed
  have c2 := hA.cSize
  have e1 : (0 : Int) ≤ s.size ∧ (s.size : Int) ≤ 500 := by omega
  have hlt := hA.lt
  go_enter Tryz.func71, Tryz.ntmps71
  go_wp2_with fail
  refine wp_region_below_lit (by kernel_rfl) (by kernel_rfl) ?_
  repeat (first | go_big_quiet_skip | (go_big_quiet_want; go_big_quiet_op; go_big_quiet_on) | (refine q_load_fld (by rfl) _ _ (by rfl) (fun _ h => h) _ _ (by rfl) ?_ ?_ ?_ ?_ ?_ ?_; rotate_left; (next => (repeat (first | (with_reducible refine BlkAt.new _ _ _ _ ?_; ((try simp) <;> omega)) | (with_reducible assumption) | (with_reducible refine Blk.at (t := ?_) ?_; rotate_left; with_reducible assumption) | with_reducible refine BlkAt.alloc ?_ _ | with_reducible refine BlkAt.drew ?_ | (with_reducible refine BlkAt.setSame ?_ _ _) | (with_reducible refine BlkAt.setCell ?_ ?_ _; rotate_left; ((try simp) <;> omega)) | (with_reducible refine BlkAt.ext (w := ?_) ?_ ?_; rotate_left 2; (with_reducible assumption)) | fail))); rotate_left; (next => first | (simp only [go_sem]; rfl) | rfl); (next => kernel_rfl); (try simp only [Act.put, List.setIfInBounds_toArray, List.set_cons_zero, List.set_cons_succ])) | (refine q_rem (by rfl) _ _ _ _ (by rfl) _ _ (by rfl) (by rfl) (by kernel_rfl) (by kernel_rfl) ?_ ?_; (next => omega); (try simp only [Act.put, List.setIfInBounds_toArray, List.set_cons_zero, List.set_cons_succ])) | (refine q_step_ex (by rfl) ?_; apply Exists.intro; refine ⟨fun W hW => ?_, ?_⟩; (next => (have hWc := fun (b o : Nat) (h : b < _) => (Ext.out hW).cell (p := ⟨b, o, none⟩) h); (try have hLK := HLK.out W (Ext.out hW)); go_simp; first | rfl | fail); (try simp only [Act.put, List.setIfInBounds_toArray, List.set_cons_zero, List.set_cons_succ])) | fail)
  refine wpQuiet_nil ?_
  intro wq hbq
  go_wp2_with fail
  go_ret
  exact ⟨by show Ending.returned (.int .i64 (IntKind.i64.wrap _)) = _; rw [IntWalk.i64_in _ (by omega)], by (repeat (first | with_reducible exact Below.refl _ _ | (with_reducible assumption) | (with_reducible refine below_alloc ?_ _) | (with_reducible refine below_ext (w1 := ?_) ?_ ?_; rotate_left 2; (with_reducible assumption)) | (with_reducible refine Below.setCell ?_ ?_ _; rotate_left; ((try simp) <;> omega)) | (with_reducible refine Below.drew ?_) | (with_reducible refine below_drewN ?_ _) | fail))⟩
theorem get_nil (n : Int) (w : World) :
    Calls Tryz.prog 80 #[.pointer none, .int .i64 n] w fun e w' => e = .returned (.tuple #[.agg ord0.arr, .bool false]) ∧ Below w.heap.size w w' := by
  go_enter Tryz.func80, Tryz.ntmps80
  go_wp2_with (first | (go_at_call 95; refine (at_nil _ _).mono ?_; rintro e w' ⟨rfl, rfl⟩) | fail)
  refine bodyPost_ret (v := .tuple #[.agg ord0.arr, .bool false]) (by simp [results, Tryz.results80, go_sem]; first | done | rfl | exact ⟨rfl, rfl⟩) rfl ⟨rfl, by (repeat (first | with_reducible exact Below.refl _ _ | (with_reducible assumption) | (with_reducible refine below_alloc ?_ _) | (with_reducible refine below_ext (w1 := ?_) ?_ ?_; rotate_left 2; (with_reducible assumption)) | (with_reducible refine Below.setCell ?_ ?_ _; rotate_left; ((try simp) <;> omega)) | (with_reducible refine Below.drew ?_) | (with_reducible refine below_drewN ?_ _) | fail))⟩
theorem get_no (g : Nat) (s : St) (n : Int) (w : World) (hA : Ar w g s) (hs : s.size ≤ 500) (hx : has s n = false) :
    Calls Tryz.prog 80 #[.pointer (some ⟨g, 0, none⟩), .int .i64 n] w fun e w' => e = .returned (.tuple #[.agg ord0.arr, .bool false]) ∧ Below w.heap.size w w' := by
  have HX := Lib.hid hx
  clear hx
  go_enter Tryz.func80, Tryz.ntmps80
  go_wp2_with (first | (go_at_call 95; refine (at_no g s _ _ (hA.ext (by (repeat (first | with_reducible exact Below.refl _ _ | (with_reducible assumption) | (with_reducible refine below_alloc ?_ _) | (with_reducible refine below_ext (w1 := ?_) ?_ ?_; rotate_left 2; (with_reducible assumption)) | (with_reducible refine Below.setCell ?_ ?_ _; rotate_left; ((try simp) <;> omega)) | (with_reducible refine Below.drew ?_) | (with_reducible refine below_drewN ?_ _) | fail)))) hs HX.out).mono ?_; rintro e w' ⟨rfl, rfl⟩) | fail)
  refine bodyPost_ret (v := .tuple #[.agg ord0.arr, .bool false]) (by simp [results, Tryz.results80, go_sem]; first | done | rfl | exact ⟨rfl, rfl⟩) rfl ⟨rfl, by (repeat (first | with_reducible exact Below.refl _ _ | (with_reducible assumption) | (with_reducible refine below_alloc ?_ _) | (with_reducible refine below_ext (w1 := ?_) ?_ ?_; rotate_left 2; (with_reducible assumption)) | (with_reducible refine Below.setCell ?_ ?_ _; rotate_left; ((try simp) <;> omega)) | (with_reducible refine Below.drew ?_) | (with_reducible refine below_drewN ?_ _) | fail))⟩
theorem Ar.range {w : World} {g : Nat} {s : St} (h : Ar w g s) {n : Nat} (hn : n < 500) : w.rangeAt g (n * 8) (s.o n).cells := fun j v hv => by
  obtain ⟨cs, h1, h2⟩ := h
  have hj : j < 7 := (List.getElem?_eq_some_iff.1 hv).1
  rw [h1.cell, h2.o n hn j hj, ← hv]
  simp [Ord.arr]
theorem get_yes (g : Nat) (s : St) (n : Nat) (w : World) (hA : Ar w g s) (hs : s.size ≤ 500) (hn : n < s.size) (hx : s.nx n = -2) :
    Calls Tryz.prog 80 #[.pointer (some ⟨g, 0, none⟩), .int .i64 n] w fun e w' => e = .returned (.tuple #[.agg (s.o n).arr, .bool true]) ∧ Below w.heap.size w w' := by
  have HX := Lib.hid hx
  clear hx
  have hR : Blk (w.alloc (.cells ord0.arr 52)) w.heap.size 52 ord0.arr := Blk.new _ _ _ _ rfl
  go_enter Tryz.func80, Tryz.ntmps80
  go_wp2_with (first | (go_at_call 95; refine (at_yes g s _ _ (hA.ext (by (repeat (first | with_reducible exact Below.refl _ _ | (with_reducible assumption) | (with_reducible refine below_alloc ?_ _) | (with_reducible refine below_ext (w1 := ?_) ?_ ?_; rotate_left 2; (with_reducible assumption)) | (with_reducible refine Below.setCell ?_ ?_ _; rotate_left; ((try simp) <;> omega)) | (with_reducible refine Below.drew ?_) | (with_reducible refine below_drewN ?_ _) | fail)))) hs hn HX.out).mono ?_; rintro e w' ⟨rfl, rfl⟩) | (refine wpList_load_mid (by rfl) _ _ (by rfl) _ _ (by rfl) _ _ ((hA.ext (by (repeat (first | with_reducible exact Below.refl _ _ | (with_reducible assumption) | (with_reducible refine below_alloc ?_ _) | (with_reducible refine below_ext (w1 := ?_) ?_ ?_; rotate_left 2; (with_reducible assumption)) | (with_reducible refine Below.setCell ?_ ?_ _; rotate_left; ((try simp) <;> omega)) | (with_reducible refine Below.drew ?_) | (with_reducible refine below_drewN ?_ _) | fail)))).range (show n < 500 by omega)) Tryz.underlying52 rfl (by kernel_rfl) ?_) | ((with_reducible show wpList _ _ _ (⟨_, .store 52 _ _, _, _, _, _⟩ :: _) _ _); refine wpList_store_blk (by rfl) 52 _ _ (by rfl) _ _ (by rfl) (by rfl) _ _ hR (by kernel_rfl) (by rfl) ?_ ?_; (next => first | (simp [Value.oneCell']; done) | (simp [Value.oneCell']; done) | exact Are.ordArr_one _); intro w2 hR2 hU2) | fail)
  have hcR : ∀ i, w2.cell? ⟨w.heap.size, i, none⟩ = (s.o n).arr[i]? := fun i => hR2.cell i
  refine bodyPost_ret (v := .tuple #[.agg (s.o n).arr, .bool true]) (by simp [results, Tryz.results80, go_sem, hcR]; first | done | rfl) rfl ⟨rfl, below_upd (by (repeat (first | with_reducible exact Below.refl _ _ | (with_reducible assumption) | (with_reducible refine below_alloc ?_ _) | (with_reducible refine below_ext (w1 := ?_) ?_ ?_; rotate_left 2; (with_reducible assumption)) | (with_reducible refine Below.setCell ?_ ?_ _; rotate_left; ((try simp) <;> omega)) | (with_reducible refine Below.drew ?_) | (with_reducible refine below_drewN ?_ _) | fail))) (Nat.le_refl _) hU2⟩
theorem ordArr_size (o : Ord) : o.arr.size = 7 := rfl
def setS (s : St) (k : Nat) (o : Ord) : St := { s with o := fun i => if i = k then o else s.o i }
def dropS (s : St) (k : Nat) : St := ⟨s.size, k, s.used - 1, fun i => if i = k then ord0 else s.o i, fun i => if i = k then s.free else s.nx i⟩
end Are
end Go.Proofs.YtacpjpkhmdcagaaGreat
