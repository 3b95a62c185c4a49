/- This text proves how a side's levels lie, and where a price stands among them: contracts of the package ladder: key, place, and of slices.BinarySearchFunc at levels. It has no conditions but those that it states. -/
import Derived.Test.YtacpjpkhmdcagaaGreatLadD
namespace Go.Proofs.YtacpjpkhmdcagaaGreat
set_option linter.unusedVariables false
open Go.RowKit
namespace Lad
set_option maxHeartbeats 2000000
set_option maxRecDepth 10000
def keyF (side p : Int) : Int := if side = 0 then wrap64 (-p) else p
/-- A ladder lies there. -/
structure La (w : World) (g : Nat) (side most : Int) (v : Value) (ls : List Lvl) (u : Nat → Nat) : Prop where
  hd : Blk w g 142 #[.int .i64 side, .int .i64 most, v, .int .u64 (u 0), .int .u64 (u 1), .int .u64 (u 2), .int .u64 (u 3)]
  row : w.ownsRow (g + 1) 156 4 v ls.length (flatL ls)
  len : ls.length ≤ 200
  rng : ∀ l ∈ ls, 1 ≤ l.price ∧ l.price ≤ 9223372036854775807
theorem La.ext {w w' : World} {g : Nat} {side most : Int} {v : Value} {ls : List Lvl} {u : Nat → Nat} (h : La w g side most v ls u) (hb : Below w.heap.size w w') : La w' g side most v ls u :=
  ⟨h.hd.ext hb, owns_ext h.row hb, h.len, h.rng⟩
section
variable {w : World} {g : Nat} {side most : Int} {v : Value} {ls : List Lvl} {u : Nat → Nat}
theorem key_at (hs : w.cell? ⟨g, 0, none⟩ = some (.int .i64 side)) (p : Int) (hp : I64 p) : Calls Tryz.prog 90 #[.pointer (some ⟨g, 0, none⟩), .int .i64 p] w fun e w' => e = .returned (.int .i64 (keyF side p)) ∧ w = w' := by
  obtain ⟨p1, p2⟩ := hp
  by_cases h : side = 0
  · have hF : Hid (keyF side p = wrap64 (-p)) := Lib.hid (by unfold keyF; rw [if_pos h])
    subst h
    go_enter Tryz.func90, Tryz.ntmps90
    go_wp2_with fail
    go_ret
    exact ⟨by rw [hF.out]; rfl, rfl⟩
  · have hF : Hid (keyF side p = p) := Lib.hid (by unfold keyF; rw [if_neg h])
    have h1 : (side == 0) = false := by simpa using h
    go_enter Tryz.func90, Tryz.ntmps90
    go_wp2_with fail
    go_ret
    exact ⟨by rw [hF.out]; rfl, rfl⟩
def cmpF (x k : Int) : Int := if x < k then -1 else if k < x then 1 else 0
def CmpPost (x k : Int) (w : World) (e : Ending) (w' : World) : Prop := e = .returned (.int .i64 (cmpF x k)) ∧ Below w.heap.size w w'
theorem place1_any {bk : Nat} (hk : w.cell? ⟨bk, 0, none⟩ = some (.func (.func 90) #[.pointer (some ⟨g, 0, none⟩)] #[])) (hs : w.cell? ⟨g, 0, none⟩ = some (.int .i64 side)) (l : Lvl) (k : Int) (hp : I64 l.price) :
    Calls Tryz.prog 92 #[.agg l.arr, .int .i64 k, .pointer (some ⟨bk, 0, none⟩)] w (CmpPost (keyF side l.price) k w) := by
  have hK : ∀ W, Below w.heap.size w W → Calls Tryz.prog 90 #[.pointer (some ⟨g, 0, none⟩), .int .i64 l.price] W fun e w' => e = .returned (.int .i64 (keyF side l.price)) ∧ W = w' := fun W hW => key_at ((hW.cell (p := ⟨g, 0, none⟩) (cell_lt hs)).trans hs) l.price hp
  have hbl : bk < w.heap.size := cell_lt hk
  replace hK := Lib.hid hK
  generalize keyF side l.price = x at *
  by_cases h1 : x < k
  · have hF : Hid (cmpF x k = -1) := Lib.hid (by unfold cmpF; rw [if_pos h1])
    go_enter Tryz.func92, Tryz.ntmps92
    go_wp2_with (first | (go_at_call 90; refine (hK.out _ (below_alloc (Below.refl _ _) _)).mono ?_; rintro e w' ⟨rfl, rfl⟩) | fail)
    go_ret
    exact ⟨by rw [hF.out]; rfl, by (repeat (first | with_reducible exact Below.refl _ _ | (with_reducible assumption) | (with_reducible refine below_alloc ?_ _) | (with_reducible refine below_ext (w1 := ?_) ?_ ?_; rotate_left 2; (with_reducible assumption)) | (with_reducible refine Below.setCell ?_ ?_ _; rotate_left; ((try simp) <;> omega)) | (with_reducible refine Below.drew ?_) | (with_reducible refine below_drewN ?_ _) | fail))⟩
  · by_cases h2 : k < x
    · have hF : Hid (cmpF x k = 1) := Lib.hid (by unfold cmpF; rw [if_neg h1, if_pos h2])
      go_enter Tryz.func92, Tryz.ntmps92
      go_wp2_with (first | (go_at_call 90; refine (hK.out _ (below_alloc (Below.refl _ _) _)).mono ?_; rintro e w' ⟨rfl, rfl⟩) | fail)
      go_ret
      exact ⟨by rw [hF.out]; rfl, by (repeat (first | with_reducible exact Below.refl _ _ | (with_reducible assumption) | (with_reducible refine below_alloc ?_ _) | (with_reducible refine below_ext (w1 := ?_) ?_ ?_; rotate_left 2; (with_reducible assumption)) | (with_reducible refine Below.setCell ?_ ?_ _; rotate_left; ((try simp) <;> omega)) | (with_reducible refine Below.drew ?_) | (with_reducible refine below_drewN ?_ _) | fail))⟩
    · have hF : Hid (cmpF x k = 0) := Lib.hid (by unfold cmpF; rw [if_neg h1, if_neg h2])
      go_enter Tryz.func92, Tryz.ntmps92
      go_wp2_with (first | (go_at_call 90; refine (hK.out _ (below_alloc (Below.refl _ _) _)).mono ?_; rintro e w' ⟨rfl, rfl⟩) | fail)
      go_ret
      exact ⟨by rw [hF.out]; rfl, by (repeat (first | with_reducible exact Below.refl _ _ | (with_reducible assumption) | (with_reducible refine below_alloc ?_ _) | (with_reducible refine below_ext (w1 := ?_) ?_ ?_; rotate_left 2; (with_reducible assumption)) | (with_reducible refine Below.setCell ?_ ?_ _; rotate_left; ((try simp) <;> omega)) | (with_reducible refine Below.drew ?_) | (with_reducible refine below_drewN ?_ _) | fail))⟩
theorem cmp_as {f : Nat} {args : Array Value} {w : World} {x k z : Int} (h : Calls Tryz.prog f args w (CmpPost x k w)) (hz : cmpF x k = z) : Calls Tryz.prog f args w fun e w' => e = .returned (.int .i64 z) ∧ Below w.heap.size w w' :=
  h.mono fun e w' ⟨h1, h2⟩ => ⟨by rw [h1, hz], h2⟩
/-- Where a key stands among rising ones. -/
structure Stands (kf : Nat → Int) (n : Nat) (k : Int) (i : Nat) : Prop where
  le : i ≤ n
  lo : ∀ j, j < i → kf j < k
  hi : ∀ j, i ≤ j → j < n → k ≤ kf j
def SeaPost (kf : Nat → Int) (n : Nat) (k : Int) (w : World) (e : Ending) (w' : World) : Prop :=
  ∃ (i : Nat) (f : Bool), Stands kf n k i ∧ (f = true ↔ i < n ∧ kf i = k) ∧ e = .returned (.tuple #[.int .i64 i, .bool f]) ∧ Below w.heap.size w w'
theorem search_any {A : Option Addr} {n cap bk : Nat} {kf : Nat → Int} {k : Int} (hn : n ≤ 1000) (hup : ∀ i j, i < j → j < n → kf i < kf j)
    (hA : ∀ j, j < n → ∃ (l : Lvl) (b o : Nat), A = some ⟨b, o, none⟩ ∧ w.rangeAt b (o + j * 4) l.cells ∧ b < w.heap.size ∧ ∀ W, Below w.heap.size w W → Calls Tryz.prog 92 #[.agg l.cells.toArray, .int .i64 k, .pointer (some ⟨bk, 0, none⟩)] W (CmpPost (kf j) k W)) :
    Calls Tryz.prog 91 #[.slice A n cap, .int .i64 k, .func (.func 92) #[] #[.pointer (some ⟨bk, 0, none⟩)]] w (SeaPost kf n k w) := by
  replace hA := Lib.hid hA
  replace hup := Lib.hid hup
  go_enter Tryz.func91, Tryz.ntmps91
  go_wp2_with fail
  go_loopw [9, 10] (fun i j wr => ∃ a b : Nat, i = .int .i64 a ∧ j = .int .i64 b ∧ a ≤ b ∧ b ≤ n ∧ Hid (∀ q, q < a → kf q < k) ∧ Hid (∀ q, b ≤ q → q < n → k ≤ kf q) ∧ Below w.heap.size w wr) (fun i j _ => (intOf j).toNat - (intOf i).toNat)
  case atStart => exact ⟨0, n, rfl, rfl, Nat.zero_le _, Nat.le_refl _, Lib.hid (fun q h => absurd h (Nat.not_lt_zero q)), Lib.hid (fun q h1 h2 => absurd h2 (by omega)), Below.refl _ _⟩
  case round =>
    obtain ⟨a, b, rfl, rfl, hab, hbn, hlo, hhi, hb⟩ := hrel
    by_cases hlt : a < b
    · have e1 : (a : Int) < (b : Int) := by omega
      obtain ⟨m, hm⟩ : ∃ m : Nat, ((a : Int) + (b : Int)) / 2 = (m : Int) := ⟨(a + b) / 2, by omega⟩
      have hm1 : a ≤ m ∧ m < b := by omega
      obtain ⟨l, b0, o0, rfl, hr0, hl0, hc0⟩ := hA.out m (by omega)
      have hrr : wr.rangeAt b0 (o0 + m * 4) l.cells := fun j v hv => (hb.cell (cell_lt (hr0 j v hv))).trans (hr0 j v hv)
      by_cases hkm : kf m < k
      · have hlo2 : Hid (∀ q, q < m + 1 → kf q < k) := Lib.hid (fun q hq => by
          rcases Nat.lt_or_ge q m with h | h
          · exact Int.lt_trans (hup.out q m h (by omega)) hkm
          · rw [show q = m by omega]; exact hkm)
        have hcc := Lib.hid (cmp_as (hc0 wr hb) (show cmpF (kf m) k = -1 by unfold cmpF; rw [if_pos hkm]))
        clear hc0 hr0 hA hkm hup hlo
        go_wp2_with (first | (go_at_call 92; refine hcc.out.mono ?_; rintro e w2 ⟨rfl, hb2⟩) | ((with_reducible show wpList _ _ _ (⟨_, .load 156 _, _, _, _, _⟩ :: _) _ wr); refine wpList_load_midw (by rfl) _ _ (by rfl) _ _ (by rfl) _ _ hrr Tryz.underlying156 rfl (by kernel_rfl) ?_) | fail)
        go_roundw
        case rel => exact ⟨m + 1, b, by go_num, rfl, by omega, hbn, hlo2, hhi, below_ext hb hb2⟩
        case measure => simp [intOf]; omega
      · have hhi2 : Hid (∀ q, m ≤ q → q < n → k ≤ kf q) := Lib.hid (fun q h1 h2 => by
          rcases Nat.lt_or_ge m q with h | h
          · have := hup.out m q h h2
            omega
          · rw [show q = m by omega]; omega)
        by_cases hke : kf m = k
        · have hcc := Lib.hid (cmp_as (hc0 wr hb) (show cmpF (kf m) k = 0 by unfold cmpF; rw [if_neg hkm, if_neg (by omega)]))
          clear hc0 hr0 hA hkm hup hhi hke
          go_wp2_with (first | (go_at_call 92; refine hcc.out.mono ?_; rintro e w2 ⟨rfl, hb2⟩) | ((with_reducible show wpList _ _ _ (⟨_, .load 156 _, _, _, _, _⟩ :: _) _ wr); refine wpList_load_midw (by rfl) _ _ (by rfl) _ _ (by rfl) _ _ hrr Tryz.underlying156 rfl (by kernel_rfl) ?_) | fail)
          go_roundw
          case rel => exact ⟨a, m, rfl, rfl, by omega, by omega, hlo, hhi2, below_ext hb hb2⟩
          case measure => simp [intOf]; omega
        · have hcc := Lib.hid (cmp_as (hc0 wr hb) (show cmpF (kf m) k = 1 by unfold cmpF; rw [if_neg hkm, if_pos (by omega)]))
          clear hc0 hr0 hA hkm hup hhi hke
          go_wp2_with (first | (go_at_call 92; refine hcc.out.mono ?_; rintro e w2 ⟨rfl, hb2⟩) | ((with_reducible show wpList _ _ _ (⟨_, .load 156 _, _, _, _, _⟩ :: _) _ wr); refine wpList_load_midw (by rfl) _ _ (by rfl) _ _ (by rfl) _ _ hrr Tryz.underlying156 rfl (by kernel_rfl) ?_) | fail)
          go_roundw
          case rel => exact ⟨a, m, rfl, rfl, by omega, by omega, hlo, hhi2, below_ext hb hb2⟩
          case measure => simp [intOf]; omega
    · have hae : b = a := by omega
      subst hae
      have hst : Stands kf n k b := ⟨hbn, hlo.out, hhi.out⟩
      by_cases hbn2 : b < n
      · have e1 : (b : Int) < (n : Int) := by omega
        obtain ⟨l, b0, o0, rfl, hr0, hl0, hc0⟩ := hA.out b hbn2
        have hrr : wr.rangeAt b0 (o0 + b * 4) l.cells := fun j v hv => (hb.cell (cell_lt (hr0 j v hv))).trans (hr0 j v hv)
        by_cases hke : kf b = k
        · have hP : Hid (∀ w2, Below w.heap.size w w2 → SeaPost kf n k w (.returned (.tuple #[.int .i64 b, .bool true])) w2) := Lib.hid (fun w2 h2 => ⟨b, true, hst, by simp [hbn2, hke], rfl, h2⟩)
          have hcc := Lib.hid (cmp_as (hc0 wr hb) (show cmpF (kf b) k = 0 by unfold cmpF; rw [if_neg (by omega), if_neg (by omega)]))
          clear hc0 hr0 hA hup hhi hlo hke hst
          go_wp2_with (first | (go_at_call 92; refine hcc.out.mono ?_; rintro e w2 ⟨rfl, hb2⟩) | ((with_reducible show wpList _ _ _ (⟨_, .load 156 _, _, _, _, _⟩ :: _) _ wr); refine wpList_load_midw (by rfl) _ _ (by rfl) _ _ (by rfl) _ _ hrr Tryz.underlying156 rfl (by kernel_rfl) ?_) | fail)
          go_ret2
          exact hP.out _ (below_ext hb hb2)
        · have hP : Hid (∀ w2, Below w.heap.size w w2 → SeaPost kf n k w (.returned (.tuple #[.int .i64 b, .bool false])) w2) := Lib.hid (fun w2 h2 => ⟨b, false, hst, by simp [hke], rfl, h2⟩)
          have hge := hhi.out b (Nat.le_refl _) hbn2
          have hcc := Lib.hid (cmp_as (hc0 wr hb) (show cmpF (kf b) k = 1 by unfold cmpF; rw [if_neg (by omega), if_pos (by omega)]))
          clear hc0 hr0 hA hup hhi hlo hke hst hge
          go_wp2_with (first | (go_at_call 92; refine hcc.out.mono ?_; rintro e w2 ⟨rfl, hb2⟩) | ((with_reducible show wpList _ _ _ (⟨_, .load 156 _, _, _, _, _⟩ :: _) _ wr); refine wpList_load_midw (by rfl) _ _ (by rfl) _ _ (by rfl) _ _ hrr Tryz.underlying156 rfl (by kernel_rfl) ?_) | fail)
          go_ret2
          exact hP.out _ (below_ext hb hb2)
      · have hP : Hid (∀ w2, Below w.heap.size w w2 → SeaPost kf n k w (.returned (.tuple #[.int .i64 b, .bool false])) w2) := Lib.hid (fun w2 h2 => ⟨b, false, hst, by simp [hbn2], rfl, h2⟩)
        have hbe : b = n := by omega
        clear hst hhi hlo hA hup hbn2
        subst hbe
        go_wp2_with fail
        go_ret2
        exact hP.out _ hb
theorem stands_one {kf : Nat → Int} {n : Nat} {k : Int} {i j : Nat} (h1 : Stands kf n k i) (h2 : Stands kf n k j) : i = j := by
  rcases Nat.lt_trichotomy i j with h | h | h
  · have a := h2.lo i h
    have b := h1.hi i (Nat.le_refl _) (by have := h2.le; omega)
    omega
  · exact h
  · have a := h1.lo j h
    have b := h2.hi j (Nat.le_refl _) (by have := h1.le; omega)
    omega
theorem stands_ex {kf : Nat → Int} {k : Int} : ∀ n, (∀ i j, i < j → j < n → kf i < kf j) → ∃ i, Stands kf n k i
  | 0, _ => ⟨0, Nat.le_refl _, fun j h => absurd h (Nat.not_lt_zero j), fun j _ h => absurd h (Nat.not_lt_zero j)⟩
  | n + 1, hup => by
    by_cases h : kf n < k
    · refine ⟨n + 1, Nat.le_refl _, fun j hj => ?_, fun j h1 h2 => absurd h2 (by omega)⟩
      rcases Nat.lt_or_ge j n with h1 | h1
      · exact Int.lt_trans (hup j n h1 (by omega)) h
      · rw [show j = n by omega]; exact h
    · obtain ⟨i, hs⟩ := stands_ex n (fun i j h1 h2 => hup i j h1 (by omega))
      refine ⟨i, Nat.le_succ_of_le hs.le, hs.lo, fun j h1 h2 => ?_⟩
      rcases Nat.lt_or_ge j n with h3 | h3
      · exact hs.hi j h1 h3
      · rw [show j = n by omega]; omega
def keys (side : Int) (ls : List Lvl) (j : Nat) : Int := (ls.map fun l => keyF side l.price).getD j 0
theorem keys_at {ls : List Lvl} {j : Nat} (hj : j < ls.length) : keys side ls j = keyF side (ls[j]'hj).price := by
  simp [keys, hj]
theorem La.rd (L : La w g side most v ls u) : ∃ A cap, v = .slice A ls.length cap ∧ Rd w 4 A (ls.map Lvl.cells) ∧ (A = none → cap = 0) := by
  rcases L.row.2 with ⟨rfl, h0⟩ | ⟨b, cap, cur, rfl, hb, hg, hc, _, _, ht⟩
  · have : ls = [] := List.eq_nil_of_length_eq_zero h0
    subst this
    exact ⟨none, 0, rfl, fun hne => absurd rfl hne, fun _ => rfl⟩
  · exact ⟨some ⟨b, 0, none⟩, cap, rfl, rd_own (show Blk w b 156 cur from hg) (n := ls.length) (fun r hr => by obtain ⟨x, _, rfl⟩ := List.mem_map.1 hr; rfl) ht, fun h => by cases h⟩
theorem rd_lvl {A : Option Addr} {ls : List Lvl} (h : Rd w 4 A (ls.map Lvl.cells)) {i : Nat} (hi : i < ls.length) : ∃ b o, A = some ⟨b, o, none⟩ ∧ w.rangeAt b (o + i * 4) (ls[i]'hi).cells ∧ b < w.heap.size := by
  obtain ⟨b, o, rfl, hc⟩ := h.at hi
  exact ⟨b, o, rfl, fun j u hu => by rw [Nat.add_assoc]; exact hc j u hu, cell_lt (hc 0 _ rfl)⟩
/-- The levels' keys rise. -/
def Up (side : Int) (ls : List Lvl) : Prop := ∀ i j, i < j → j < ls.length → keys side ls i < keys side ls j
theorem place_any (L : La w g side most v ls u) (hup : Up side ls) (p : Int) (hp : I64 p) {i : Nat} (hst : Stands (keys side ls) ls.length (keyF side p) i) : Calls Tryz.prog 72 #[.pointer (some ⟨g, 0, none⟩), .int .i64 p] w fun e w' => e = .returned (.tuple #[.int .i64 i, .bool (decide (i < ls.length ∧ keys side ls i = keyF side p))]) ∧ Below w.heap.size w w' := by
  have hmf : ∀ (fn : Fn) (first cap : Array Value) (W : World), (Instr.makeFunc fn first cap).run Tryz.prog W = .ok (.func fn first cap) W := fun _ _ _ _ => rfl
  obtain ⟨A, cap, rfl, hrd, _⟩ := L.rd
  have hK : ∀ W, Below w.heap.size w W → Calls Tryz.prog 90 #[.pointer (some ⟨g, 0, none⟩), .int .i64 p] W fun e W' => e = .returned (.int .i64 (keyF side p)) ∧ W = W' := fun W hW => key_at ((L.hd.ext hW).cell 0) p hp
  have hS : ∀ W, Below w.heap.size w W → W.cell? ⟨w.heap.size, 0, none⟩ = some (.func (.func 90) #[.pointer (some ⟨g, 0, none⟩)] #[]) → Calls Tryz.prog 91 #[.slice A ls.length cap, .int .i64 (keyF side p), .func (.func 92) #[] #[.pointer (some ⟨w.heap.size, 0, none⟩)]] W fun e W' => e = .returned (.tuple #[.int .i64 i, .bool (decide (i < ls.length ∧ keys side ls i = keyF side p))]) ∧ Below W.heap.size W W' := fun W hW hf => by
    refine Calls.mono (R := SeaPost (keys side ls) ls.length (keyF side p) W) ?_ (fun e W' ⟨i', f, h1, h2, h3, h4⟩ => by
      obtain rfl := stands_one hst h1
      refine ⟨?_, h4⟩
      rw [h3]
      congr 2
      rw [Bool.eq_iff_iff.2 (h2.trans decide_eq_true_iff.symm)])
    refine search_any (by have := L.len; omega) hup (fun j hj => ?_)
    obtain ⟨b, o, e, hr, hl⟩ := rd_lvl (hrd.below hW) hj
    refine ⟨_, b, o, e, hr, hl, fun W' hW' => ?_⟩
    rw [keys_at hj]
    have h1 := L.rng _ (List.getElem_mem hj)
    exact place1_any ((hW'.cell (p := ⟨w.heap.size, 0, none⟩) (cell_lt hf)).trans hf) (((L.hd.ext hW).ext hW').cell 0) _ _ ⟨by omega, by omega⟩
  have c2 : w.cell? ⟨g, 2, none⟩ = some (.slice A ls.length cap) := L.hd.cell 2
  have hgl := L.hd.lt
  generalize decide (i < ls.length ∧ keys side ls i = keyF side p) = f at *
  generalize keyF side p = kp at *
  replace hK := Lib.hid hK
  replace hS := Lib.hid hS
  clear hup hrd L hst
  go_enter Tryz.func72, Tryz.ntmps72
  go_wp2_with (first | ((with_reducible show wpList _ _ _ (⟨_, .store _ _ _, _, _, _, _⟩ :: _) _ _); refine wpList_store_fld (by rfl) _ _ _ (by rfl) _ _ (by rfl) _ (by rfl) _ _ (Blk.new w _ _ _ rfl) (by decide) (by kernel_rfl) (by rfl) (by rfl) ?_; intro w1 hB1 hU1) | fail)
  have hb1 := below_upd (below_alloc (Below.refl w.heap.size w) _) (Nat.le_refl _) hU1
  have c12 : w1.cell? ⟨g, 2, none⟩ = some (.slice A ls.length cap) := (hb1.cell (p := ⟨g, 2, none⟩) hgl).trans c2
  have cf : w1.cell? ⟨w.heap.size, 0, none⟩ = some (.func (.func 90) #[.pointer (some ⟨g, 0, none⟩)] #[]) := hB1.cell 0
  have hz1 := hB1.lt
  have hgl1 : g < w1.heap.size := by omega
  have hf1 : ∀ W, Ext w1 W → W.cell? ⟨w.heap.size, 0, none⟩ = some (.func (.func 90) #[.pointer (some ⟨g, 0, none⟩)] #[]) := fun W hW => (hW.out.cell (p := ⟨w.heap.size, 0, none⟩) hz1).trans cf
  replace hf1 := Lib.hid hf1
  clear c2 hU1
  simp only [Act.put]
  refine wp_region_below_lit (by kernel_rfl) (by kernel_rfl) ?_
  repeat (first | go_big_quiet_skip | (go_big_quiet_want; go_big_quiet_op; go_big_quiet_on) | (refine q_load_fld (by rfl) _ _ (by rfl) (fun _ h => h) _ _ (by rfl) ?_ ?_ ?_ ?_ ?_ ?_; rotate_left; (next => (repeat (first | (with_reducible refine BlkAt.new _ _ _ _ ?_; ((try simp) <;> omega)) | (with_reducible assumption) | (with_reducible refine Blk.at (t := ?_) ?_; rotate_left; with_reducible assumption) | with_reducible refine BlkAt.alloc ?_ _ | with_reducible refine BlkAt.drew ?_ | (with_reducible refine BlkAt.setSame ?_ _ _) | (with_reducible refine BlkAt.setCell ?_ ?_ _; rotate_left; ((try simp) <;> omega)) | (with_reducible refine BlkAt.ext (w := ?_) ?_ ?_; rotate_left 2; (with_reducible assumption)) | fail))); rotate_left; (next => first | (simp only [go_sem]; rfl) | rfl); (next => kernel_rfl); (try simp only [Act.put, List.setIfInBounds_toArray, List.set_cons_zero, List.set_cons_succ])) | (refine q_rem (by rfl) _ _ _ _ (by rfl) _ _ (by rfl) (by rfl) (by kernel_rfl) (by kernel_rfl) ?_ ?_; (next => omega); (try simp only [Act.put, List.setIfInBounds_toArray, List.set_cons_zero, List.set_cons_succ])) | (refine q_step_ex (by rfl) ?_; apply Exists.intro; refine ⟨fun W hW => ?_, ?_⟩; (next => (have hWc := fun (b o : Nat) (h : b < _) => (Ext.out hW).cell (p := ⟨b, o, none⟩) h); (try have hLK := HLK.out W (Ext.out hW)); go_simp; first | rfl | (go_at_call 90; refine (hK.out _ (below_ext hb1 hW)).mono ?_; rintro e w'' ⟨rfl, rfl⟩; exact ⟨rfl, hW⟩) | (go_at_call 91; refine (hS.out _ (below_ext hb1 hW) (hf1.out _ hW)).mono ?_; rintro e w'' ⟨rfl, hb2⟩; exact ⟨rfl, below_ext hW hb2⟩) | fail); (try simp only [Act.put, List.setIfInBounds_toArray, List.set_cons_zero, List.set_cons_succ])) | fail)
  refine wpQuiet_nil ?_
  intro w2 hb2
  go_wp2_with fail
  go_ret2
  exact ⟨rfl, below_ext hb1 hb2⟩
end
end Lad
end Go.Proofs.YtacpjpkhmdcagaaGreat
