/- This text proves what the document's rows of lengths hold, and how they are made: contracts of the package damperref38: long, lengths, Common. It has no conditions but those that they state. -/
import Derived.Test.YtpopfjfmppmjdaaCmp
namespace Go.Proofs.Ytpopfjfmppmjdaa
set_option linter.unusedVariables false
open Go.RowKit
namespace Cmp
set_option maxHeartbeats 1000000
set_option maxRecDepth 10000
def upN (f : Nat → Nat) (i v : Nat) : Nat → Nat := fun j => if j = i then v else f j
theorem upN_same (f : Nat → Nat) (i v : Nat) : upN f i v i = v := by simp [upN]
theorem upN_ne (f : Nat → Nat) {i j : Nat} (v : Nat) (h : j ≠ i) : upN f i v j = f j := by simp [upN, h]
/-- Rows from I on lie there. -/
structure Lg (w : World) (bo n m I : Nat) (br : Nat → Nat) (f : Nat → Nat → Nat) : Prop where
  out : ∃ cs, Blk w bo 44 cs ∧ cs.size = n ∧ ∀ i, I ≤ i → i < n → cs[i]? = some (.slice (some ⟨br i, 0, none⟩) m m)
  row : ∀ i, I ≤ i → i < n → ∃ rs, Blk w (br i) 3 rs ∧ rs.size = m ∧ ∀ k, k < m → rs[k]? = some (.int .i64 (f i k : Nat))
  inj : ∀ i j, I ≤ i → i < n → I ≤ j → j < n → br i = br j → i = j
  ne : ∀ i, I ≤ i → i < n → br i ≠ bo
section
variable {w : World} {bo n m I : Nat} {br : Nat → Nat} {f : Nat → Nat → Nat}
theorem Lg.ext {w' : World} (l : Lg w bo n m I br f) (hb : Below w.heap.size w w') : Lg w' bo n m I br f := by
  refine ⟨?_, fun i hi hn => ?_, l.inj, l.ne⟩
  · obtain ⟨cs, h1, h2⟩ := l.out
    exact ⟨cs, h1.ext hb, h2⟩
  · obtain ⟨rs, h1, h2⟩ := l.row i hi hn
    exact ⟨rs, h1.ext hb, h2⟩
theorem Lg.eq {g : Nat → Nat → Nat} (l : Lg w bo n m I br f) (h : ∀ i k, i < n → k < m → f i k = g i k) : Lg w bo n m I br g := by
  refine ⟨l.out, fun i hi hn => ?_, l.inj, l.ne⟩
  obtain ⟨rs, h1, h2, h3⟩ := l.row i hi hn
  exact ⟨rs, h1, h2, fun k hk => by rw [h3 k hk, h i k hn hk]⟩
theorem Lg.cOut (l : Lg w bo n m I br f) {i : Nat} (hi : I ≤ i) (hn : i < n) : w.cell? ⟨bo, i, none⟩ = some (.slice (some ⟨br i, 0, none⟩) m m) := by
  obtain ⟨cs, h1, _, h3⟩ := l.out
  rw [h1.cell]
  exact h3 i hi hn
theorem Lg.cRow (l : Lg w bo n m I br f) {i k : Nat} (hi : I ≤ i) (hn : i < n) (hk : k < m) : w.cell? ⟨br i, k, none⟩ = some (.int .i64 (f i k : Nat)) := by
  obtain ⟨rs, h1, _, h3⟩ := l.row i hi hn
  rw [h1.cell]
  exact h3 k hk
theorem Lg.cVal (l : Lg w bo n m I br f) {i k v : Nat} (hv : Hid (f i k = v)) (hi : I ≤ i) (hn : i < n) (hk : k < m) : w.cell? ⟨br i, k, none⟩ = some (.int .i64 (v : Nat)) := by
  rw [l.cRow hi hn hk, hv.out]
theorem Lg.lt (l : Lg w bo n m I br f) : bo < w.heap.size := by
  obtain ⟨cs, h1, _⟩ := l.out
  exact h1.lt
theorem Lg.ltRow (l : Lg w bo n m I br f) {i : Nat} (hi : I ≤ i) (hn : i < n) : br i < w.heap.size := by
  obtain ⟨cs, h1, _⟩ := l.row i hi hn
  exact h1.lt
/-- A new row of noughts. -/
theorem Lg.add {w' : World} {i0 b0 : Nat} {cs rs : Array Value} (l : Lg w bo n m (i0 + 1) br f) (h0 : i0 < n) (hcs : Blk w bo 44 cs) (hf : ∀ k, k < m → f i0 k = 0)
    (hrs : Blk w' b0 3 rs) (hrz : rs.size = m ∧ ∀ k, k < m → rs[k]? = some (.int .i64 0)) (hb0 : w.heap.size ≤ b0) (hcs' : Blk w' bo 44 (cs.setIfInBounds i0 (.slice (some ⟨b0, 0, none⟩) m m)))
    (hk : ∀ g, g < w.heap.size → g ≠ bo → w'.heap[g]? = w.heap[g]?) : Lg w' bo n m i0 (upN br i0 b0) f := by
  obtain ⟨c, h1, h2, h3⟩ := l.out
  have e : c = cs := by
    have h4 : some (Obj.cells c 44 (0, 0)) = some (Obj.cells cs 44 (0, 0)) := h1.symm.trans hcs
    injection h4 with h4
    injection h4
  subst e
  have hlt : ∀ i, i0 + 1 ≤ i → i < n → br i < w.heap.size := fun i hi hn => l.ltRow hi hn
  have hbl := h1.lt
  refine ⟨⟨_, hcs', by simp [h2], fun i hi hn => ?_⟩, fun i hi hn => ?_, fun i j hi hin hj hjn he => ?_, fun i hi hn => ?_⟩
  · by_cases e : i = i0
    · subst e
      rw [Array.getElem?_setIfInBounds_self_of_lt (by omega), upN_same]
    · rw [Array.getElem?_setIfInBounds_ne (fun h => e h.symm), upN_ne _ _ e]
      exact h3 i (by omega) hn
  · by_cases e : i = i0
    · subst e
      rw [upN_same]
      exact ⟨rs, hrs, hrz.1, fun k hk => by rw [hrz.2 k hk, hf k hk]; rfl⟩
    · rw [upN_ne _ _ e]
      obtain ⟨r, k1, k2⟩ := l.row i (by omega) hn
      exact ⟨r, (hk _ k1.lt (l.ne i (by omega) hn)).trans k1, k2⟩
  · by_cases e1 : i = i0
    · by_cases e2 : j = i0
      · omega
      · subst e1
        rw [upN_same, upN_ne _ _ e2] at he
        have := hlt j (by omega) hjn
        omega
    · by_cases e2 : j = i0
      · subst e2
        rw [upN_same, upN_ne _ _ e1] at he
        have := hlt i (by omega) hin
        omega
      · rw [upN_ne _ _ e1, upN_ne _ _ e2] at he
        exact l.inj i j (by omega) hin (by omega) hjn he
  · by_cases e : i = i0
    · subst e
      rw [upN_same]
      omega
    · rw [upN_ne _ _ e]
      exact l.ne i (by omega) hn
theorem Lg.set {w' : World} {i0 k0 v : Nat} {rs : Array Value} (l : Lg w bo n m I br f) (hi0 : I ≤ i0) (hn0 : i0 < n) (hk0 : k0 < m) (hrs : Blk w (br i0) 3 rs)
    (h : Blk w' (br i0) 3 (rs.setIfInBounds k0 (.int .i64 v))) (u : Upd (br i0) w w') : Lg w' bo n m I br (put2 f i0 k0 v) := by
  refine ⟨?_, fun i hi hn => ?_, l.inj, l.ne⟩
  · obtain ⟨cs, h1, h2⟩ := l.out
    exact ⟨cs, h1.upd (fun e => l.ne i0 hi0 hn0 e.symm) u, h2⟩
  · obtain ⟨r, h1, h2, h3⟩ := l.row i hi hn
    by_cases e : i = i0
    · subst e
      have e : r = rs := by
        have h4 : some (Obj.cells r 3 (0, 0)) = some (Obj.cells rs 3 (0, 0)) := h1.symm.trans hrs
        injection h4 with h4
        injection h4
      subst e
      refine ⟨_, h, by simp [h2], fun k hk => ?_⟩
      by_cases e : k = k0
      · subst e
        rw [Array.getElem?_setIfInBounds_self_of_lt (by omega)]
        simp [put2]
      · rw [Array.getElem?_setIfInBounds_ne (fun h => e h.symm), h3 k hk]
        simp [put2, e]
    · refine ⟨r, h1.upd (fun h => e (l.inj i i0 hi hn hi0 hn0 h)) u, h2, fun k hk => ?_⟩
      rw [h3 k hk]
      simp [put2, e]
end
theorem V_new (a b : List Msg) (I : Nat) : ∀ k, k < b.length + 1 → V a b (I + 1) (b.length + 1) I k = 0 := fun k hk => by
  unfold V
  rw [if_neg (by omega)]
theorem V_edge (a b : List Msg) {i0 k0 : Nat} (h : i0 = a.length ∨ k0 = b.length) : ∀ i k, i < a.length + 1 → k < b.length + 1 → V a b (i0 + 1) (k0 + 1) i k = V a b (i0 + 1) k0 i k := fun i k hi hk => by
  unfold V
  by_cases h1 : i0 + 1 ≤ i ∨ (i + 1 = i0 + 1 ∧ k0 + 1 ≤ k)
  · rw [if_pos h1, if_pos (by omega)]
  · rw [if_neg h1]
    split
    · rw [T_end _ _ _ _ (by omega)]
    · rfl
theorem V_begin (a b : List Msg) : ∀ i k, i < a.length + 1 → k < b.length + 1 → V a b (a.length + 1) (b.length + 1) i k = 0 := fun i k hi hk => by
  unfold V
  rw [if_neg (by omega)]
section
variable {w : World} {A : Option Addr} {ca : Nat} {B : Option Addr} {cb : Nat} {a b : List Msg}
theorem long_any (hla : (a.length : Int) ≤ 9223372036854775807) (hlb : (b.length : Int) ≤ 9223372036854775807) (c : Bool) (hc : Hid (c = decide (300 < a.length ∨ 300 < b.length))) :
    Calls Try.prog 18 #[.slice A a.length ca, .slice B b.length cb] w fun e w' => e = .returned (.bool c) ∧ w' = w := by
  by_cases h1 : (300 : Int) < (a.length : Int)
  · have e1 := hc.out
    rw [decide_eq_true (by omega)] at e1
    clear hc
    subst e1
    go_enter Try.func18, Try.ntmps18
    go_wp2_with fail
    go_ret
    exact ⟨rfl, rfl⟩
  · by_cases h2 : (300 : Int) < (b.length : Int)
    · have e1 := hc.out
      rw [decide_eq_true (by omega)] at e1
      clear hc
      subst e1
      go_enter Try.func18, Try.ntmps18
      go_wp2_with fail
      go_ret
      exact ⟨rfl, rfl⟩
    · have e1 := hc.out
      rw [decide_eq_false (by omega)] at e1
      clear hc
      subst e1
      go_enter Try.func18, Try.ntmps18
      go_wp2_with fail
      go_ret
      exact ⟨rfl, rfl⟩
def LengthsPost (a b : List Msg) (w : World) (e : Ending) (w' : World) : Prop :=
  ∃ bo br, e = .returned (.slice (some ⟨bo, 0, none⟩) (a.length + 1) (a.length + 1)) ∧ Lg w' bo (a.length + 1) (b.length + 1) 0 br (T a b) ∧ Below w.heap.size w w'
theorem lengths_any (hla : a.length ≤ 300) (hlb : b.length ≤ 300) (hA : Rd w 9 A (a.map Msg.cells)) (hB : Rd w 9 B (b.map Msg.cells)) :
    Calls Try.prog 19 #[.slice A a.length ca, .slice B b.length cb] w (LengthsPost a b w) := by
  replace hA := Lib.hid hA
  replace hB := Lib.hid hB
  go_enter Try.func19, Try.ntmps19
  go_wp2_with (refine wpList_make_blk (by rfl) _ _ 45 (by rfl) 44 (.slice none 0 0) 1 24 .i64 .i64 (a.length + 1) (by rfl) (by rfl) Try.underlying45 (by kernel_rfl) ⟨by omega, by omega⟩ ?_; intro w2 hBT hb2 hz2)
  have hR0 := hBT.lt
  have hsz0 : (madeCells (Value.slice none 0 0).cells ((a.length + 1) * 1)).size = a.length + 1 := by rw [size_madeCells, Nat.mul_one]
  have l0 : Lg w2 w.heap.size (a.length + 1) (b.length + 1) (a.length + 1) (fun _ => 0) (V a b (a.length + 1) (b.length + 1)) := ⟨⟨_, hBT, hsz0, fun i h1 h2 => by omega⟩, fun i h1 h2 => by omega, fun i j h1 h2 => by omega, fun i h1 h2 => by omega⟩
  clear hBT hsz0 hz2 hR0
  go_loopw [6] (fun v wr => ∃ (n : Int) (I : Nat) (br : Nat → Nat), v = .int .i64 n ∧ n = (I : Int) - 1 ∧ I ≤ a.length + 1 ∧ Lg wr w.heap.size (a.length + 1) (b.length + 1) I br (V a b I (b.length + 1)) ∧ Below w.heap.size w wr) (fun v _ => (intOf v + 1).toNat)
  case atStart => exact ⟨_, a.length + 1, _, rfl, by omega, Nat.le_refl _, l0, hb2⟩
  case round =>
    obtain ⟨n, I, br, rfl, hn, hI, l, hb⟩ := hrel
    by_cases h0 : I = 0
    · subst h0
      obtain rfl : n = -1 := by omega
      clear hn
      go_wp2_with fail
      go_ret
      exact ⟨_, _, rfl, l.eq (V_all a b), hb⟩
    · obtain ⟨i, rfl⟩ : ∃ i, I = i + 1 := ⟨I - 1, by omega⟩
      obtain rfl : n = (i : Int) := by omega
      clear hn h0
      have hin : i < a.length + 1 := hI
      have hi1 : (i : Int) < (a.length : Int) + 1 := by omega
      obtain ⟨cs, hC, hcz, hcs⟩ := l.out
      clear hcs
      have hlo := l.lt
      go_wp2_with (first | (refine wpList_make_blk (by rfl) _ _ 44 (by rfl) 3 (.int .i64 0) 1 8 .i64 .i64 (b.length + 1) (by rfl) (by rfl) Try.underlying44 (by kernel_rfl) ⟨by omega, by omega⟩ ?_; intro w4 hR4 hb4 hz4'; have hz4 := Lib.hid hz4'; clear hz4'; have hC4 := hC.ext hb4) | (refine wpList_store_fld (by rfl) _ _ _ (by rfl) _ _ (by rfl) _ (by rfl) _ _ hC4 ?_ ?_ (by rfl) (by rfl) ?_; (next => first | omega | ((try simp) <;> omega)); (next => kernel_rfl); intro w5 hC5 hU5))
      have hR5 := hR4.upd (g' := w.heap.size) (by omega) hU5
      have l5 := l.add (b0 := wr.heap.size) hin hC (V_new a b i) hR5 ⟨by rw [size_madeCells, Nat.mul_one], fun k hk => madeCells_all (fun i hi => by (match i, hi with | 0, _ => rfl)) (by decide) _ _ (by omega)⟩ (Nat.le_refl _) hC5 (fun g h1 h2 => (hU5.block g h2).trans (hb4.block g h1))
      have hb5 := below_upd (below_ext hb hb4) (Nat.le_refl _) hU5
      have hbri : w.heap.size ≤ upN br i wr.heap.size i := by rw [upN_same]; exact hb.size
      generalize upN br i wr.heap.size = br' at *
      clear hR5 hR4 hC hC4 hC5 hz4 hU5 hb4 l hcz hlo hb
      go_loopw [7] (fun v wj => ∃ (n : Int) (K : Nat), v = .int .i64 n ∧ n = (K : Int) - 1 ∧ K ≤ b.length + 1 ∧ Lg wj w.heap.size (a.length + 1) (b.length + 1) i br' (V a b (i + 1) K) ∧ Below w.heap.size w wj) (fun v _ => (intOf v + 1).toNat)
      case atStart => exact ⟨_, b.length + 1, rfl, by omega, Nat.le_refl _, l5, hb5⟩
      case round =>
        obtain ⟨n, K, rfl, hn, hK, lk, hbk⟩ := hrel
        by_cases h0 : K = 0
        · subst h0
          obtain rfl : n = -1 := by omega
          clear hn
          go_wp2_with fail
          go_roundw
          case rel => exact ⟨_, i, br', rfl, by omega, by omega, lk.eq (V_rowEnd a b i), hbk⟩
          case measure => first | (simp [intOf]; done) | (simp [intOf]; omega)
        · obtain ⟨k, rfl⟩ : ∃ k, K = k + 1 := ⟨K - 1, by omega⟩
          obtain rfl : n = (k : Int) := by omega
          clear hn h0
          by_cases hia : i = a.length
          · have lk2 := lk.eq (V_edge a b (.inl hia))
            have e1 : (i : Int) = (a.length : Int) := by omega
            clear hia
            go_wp2_with fail
            go_roundw
            case rel => exact ⟨_, k, rfl, by omega, by omega, lk2, hbk⟩
            case measure => first | (simp [intOf]; done) | (simp [intOf]; omega)
          · by_cases hkb : k = b.length
            · have lk2 := lk.eq (V_edge a b (.inr hkb))
              have e1 : ¬ (i : Int) = (a.length : Int) := by omega
              have e2 : (k : Int) = (b.length : Int) := by omega
              clear hia hkb
              go_wp2_with fail
              go_roundw
              case rel => exact ⟨_, k, rfl, by omega, by omega, lk2, hbk⟩
              case measure => first | (simp [intOf]; done) | (simp [intOf]; omega)
            · have hi : i < a.length := by omega
              have hk : k < b.length := by omega
              have e1 : ¬ (i : Int) = (a.length : Int) := by omega
              have e2 : ¬ (k : Int) = (b.length : Int) := by omega
              have e3 : ((i : Int) == (a.length : Int)) = false := by simpa using e1
              have e4 : ((k : Int) == (b.length : Int)) = false := by simpa using e2
              have hk1 : (k : Int) < (b.length : Int) := by omega
              have hk2 : (k : Int) < (b.length : Int) + 1 := by omega
              have hi2 : (i : Int) < (a.length : Int) := by omega
              obtain ⟨ba, oa, rfl, ra, la⟩ := rd_msg (hA.out.below hbk) hi
              obtain ⟨bb, ob, rfl, rb, lb⟩ := rd_msg (hB.out.below hbk) hk
              have hT := Lib.hid (T_step a b i k hi hk)
              have g1 := T_le a b (i + 1) k
              have g2 := T_le a b i (k + 1)
              have g3 := T_le a b (i + 1) (k + 1)
              obtain ⟨i1, hi1e⟩ : ∃ n, n = i + 1 := ⟨_, rfl⟩
              obtain ⟨k1, hk1e⟩ : ∃ n, n = k + 1 := ⟨_, rfl⟩
              have p1 := Lib.hid (V_in a b (I := i + 1) (K := k + 1) (i := i1) (k := k) (.inl (by omega)))
              have p2 := Lib.hid (V_in a b (I := i + 1) (K := k + 1) (i := i) (k := k1) (.inr ⟨rfl, by omega⟩))
              have p3 := Lib.hid (V_in a b (I := i + 1) (K := k + 1) (i := i1) (k := k1) (.inl (by omega)))
              rw [← hi1e, ← hk1e] at hT
              rw [← hi1e] at g1 g3
              rw [← hk1e] at g2 g3
              have u1 : IntKind.i64.wrap ((i : Int) + 1) = (i1 : Int) := by rw [IntWalk.i64_in _ (by omega)]; omega
              have u2 : IntKind.i64.wrap ((k : Int) + 1) = (k1 : Int) := by rw [IntWalk.i64_in _ (by omega)]; omega
              have hi3 : (i1 : Int) < (a.length : Int) + 1 := by omega
              have hk3 : (k1 : Int) < (b.length : Int) + 1 := by omega
              have hi1n : i1 < a.length + 1 := by omega
              have hk1n : k1 < b.length + 1 := by omega
              have hi1l : i ≤ i1 := by omega
              clear hi1e hk1e hia hkb
              generalize T a b i1 k = p at *
              generalize T a b i k1 = q at *
              generalize T a b i1 k1 = r at *
              obtain ⟨r1, hr1⟩ : ∃ n, n = r + 1 := ⟨_, rfl⟩
              have u3 : IntKind.i64.wrap ((r : Int) + 1) = (r1 : Int) := by rw [IntWalk.i64_in _ (by omega)]; omega
              rw [← hr1] at hT
              clear hr1
              generalize a[i] = x at *
              generalize b[k] = y at *
              cases e : eqM x y
              · by_cases hpq : p < q
                · have hT2 : Hid (T a b i k = q) := Lib.hid (by rw [hT.out, e]; first | rfl | (simp; omega) | omega)
                  replace e := Lib.hid e
                  clear hT
                  go_wp2_with fail
                  refine wp_region_below_lit (by kernel_rfl) (by kernel_rfl) ?_
                  repeat (first | go_big_quiet_skip | (go_big_quiet_want; go_big_quiet_op; go_big_quiet_on) | (refine q_load_mid (by rfl) _ _ (by rfl) (fun _ h => h) _ _ (by rfl) _ _ (by assumption) Try.underlying40 rfl (by kernel_rfl) ?_; (try simp only [Act.put, List.setIfInBounds_toArray, List.set_cons_zero, List.set_cons_succ])) | (refine Cmp.q_eqmv (by rfl) _ _ _ (by rfl) _ _ (by rfl) (by rfl) _ (by assumption) ?_; (try simp only [Act.put, List.setIfInBounds_toArray, List.set_cons_zero, List.set_cons_succ])) | (refine q_load_fld (by rfl) _ _ (by rfl) (fun _ h => h) _ _ (by rfl) ?_ ?_ ?_ ?_ ?_ ?_; rotate_left; (next => (repeat (first | (with_reducible refine BlkAt.new _ _ _ _ ?_; ((try simp) <;> omega)) | (with_reducible assumption) | (with_reducible refine Blk.at (t := ?_) ?_; rotate_left; with_reducible assumption) | with_reducible refine BlkAt.alloc ?_ _ | with_reducible refine BlkAt.drew ?_ | (with_reducible refine BlkAt.setSame ?_ _ _) | (with_reducible refine BlkAt.setCell ?_ ?_ _; rotate_left; ((try simp) <;> omega)) | (with_reducible refine BlkAt.ext (w := ?_) ?_ ?_; rotate_left 2; (with_reducible assumption)) | fail))); rotate_left; (next => first | (simp only [go_sem]; rfl) | rfl); (next => kernel_rfl); (try simp only [Act.put, List.setIfInBounds_toArray, List.set_cons_zero, List.set_cons_succ])) | (refine q_rem (by rfl) _ _ _ _ (by rfl) _ _ (by rfl) (by rfl) (by kernel_rfl) (by kernel_rfl) ?_ ?_; (next => omega); (try simp only [Act.put, List.setIfInBounds_toArray, List.set_cons_zero, List.set_cons_succ])) | (refine q_step_ex (by rfl) ?_; apply Exists.intro; refine ⟨fun W hW => ?_, ?_⟩; (next => (have hWc := fun (b o : Nat) (h : b < _) => (Ext.out hW).cell (p := ⟨b, o, none⟩) h); (try have hLK := HLK.out W (Ext.out hW)); go_simp; first | rfl | fail | fail); (try simp only [Act.put, List.setIfInBounds_toArray, List.set_cons_zero, List.set_cons_succ])) | fail)
                  refine wpQuiet_nil ?_
                  intro w6 hb6
                  have l6 := lk.ext hb6
                  have d0 := l6.cOut (Nat.le_refl _) hin
                  have d1 := l6.cOut hi1l hi1n
                  have m0 := l6.lt
                  have m1 := l6.ltRow (Nat.le_refl _) hin
                  have m2 := l6.ltRow hi1l hi1n
                  have d2 := l6.cVal p1 hi1l hi1n (show k < b.length + 1 by omega)
                  have d3 := l6.cVal p2 (Nat.le_refl _) hin hk1n
                  go_wp2_with fail
                  refine wp_region_below_tail 22 (by kernel_rfl) (by kernel_rfl) ?_
                  simp only [List.take_succ_cons, List.take_zero, List.drop_succ_cons, List.drop_zero]
                  repeat (first | go_big_quiet_skip | (go_big_quiet_want; go_big_quiet_op; go_big_quiet_on) | (refine q_load_fld (by rfl) _ _ (by rfl) (fun _ h => h) _ _ (by rfl) ?_ ?_ ?_ ?_ ?_ ?_; rotate_left; (next => (repeat (first | (with_reducible refine BlkAt.new _ _ _ _ ?_; ((try simp) <;> omega)) | (with_reducible assumption) | (with_reducible refine Blk.at (t := ?_) ?_; rotate_left; with_reducible assumption) | with_reducible refine BlkAt.alloc ?_ _ | with_reducible refine BlkAt.drew ?_ | (with_reducible refine BlkAt.setSame ?_ _ _) | (with_reducible refine BlkAt.setCell ?_ ?_ _; rotate_left; ((try simp) <;> omega)) | (with_reducible refine BlkAt.ext (w := ?_) ?_ ?_; rotate_left 2; (with_reducible assumption)) | fail))); rotate_left; (next => first | (simp only [go_sem]; rfl) | rfl); (next => kernel_rfl); (try simp only [Act.put, List.setIfInBounds_toArray, List.set_cons_zero, List.set_cons_succ])) | (refine q_rem (by rfl) _ _ _ _ (by rfl) _ _ (by rfl) (by rfl) (by kernel_rfl) (by kernel_rfl) ?_ ?_; (next => omega); (try simp only [Act.put, List.setIfInBounds_toArray, List.set_cons_zero, List.set_cons_succ])) | (refine q_step_ex (by rfl) ?_; apply Exists.intro; refine ⟨fun W hW => ?_, ?_⟩; (next => (have hWc := fun (b o : Nat) (h : b < _) => (Ext.out hW).cell (p := ⟨b, o, none⟩) h); (try have hLK := HLK.out W (Ext.out hW)); go_simp; first | rfl | fail | fail); (try simp only [Act.put, List.setIfInBounds_toArray, List.set_cons_zero, List.set_cons_succ])) | fail)
                  refine wpQuiet_nil ?_
                  intro w7 hb7
                  have l7 := l6.ext hb7
                  obtain ⟨rs, hrs, hrz, hrv⟩ := l7.row i (Nat.le_refl _) hin
                  clear hrv
                  have d7 := l7.cOut (Nat.le_refl _) hin
                  go_wp2_with (refine wpList_store_fld (by rfl) _ _ _ (by rfl) _ _ (by rfl) _ (by rfl) _ _ hrs ?_ ?_ (by rfl) (by rfl) ?_; (next => first | omega | ((try simp) <;> omega)); (next => kernel_rfl); intro w8 hB8 hU8)
                  go_roundw
                  case rel => exact ⟨_, k, rfl, by omega, by omega, (by have h9 := l7.set (Nat.le_refl _) hin (by omega) hrs hB8 hU8; rw [← hT2.out] at h9; exact h9.eq (V_put a b i k)), below_upd (below_ext (below_ext hbk hb6) hb7) hbri hU8⟩
                  case measure => first | (simp [intOf]; done) | (simp [intOf]; omega)
                · have hT2 : Hid (T a b i k = p) := Lib.hid (by rw [hT.out, e]; first | rfl | (simp; omega) | omega)
                  replace e := Lib.hid e
                  clear hT
                  go_wp2_with fail
                  refine wp_region_below_lit (by kernel_rfl) (by kernel_rfl) ?_
                  repeat (first | go_big_quiet_skip | (go_big_quiet_want; go_big_quiet_op; go_big_quiet_on) | (refine q_load_mid (by rfl) _ _ (by rfl) (fun _ h => h) _ _ (by rfl) _ _ (by assumption) Try.underlying40 rfl (by kernel_rfl) ?_; (try simp only [Act.put, List.setIfInBounds_toArray, List.set_cons_zero, List.set_cons_succ])) | (refine Cmp.q_eqmv (by rfl) _ _ _ (by rfl) _ _ (by rfl) (by rfl) _ (by assumption) ?_; (try simp only [Act.put, List.setIfInBounds_toArray, List.set_cons_zero, List.set_cons_succ])) | (refine q_load_fld (by rfl) _ _ (by rfl) (fun _ h => h) _ _ (by rfl) ?_ ?_ ?_ ?_ ?_ ?_; rotate_left; (next => (repeat (first | (with_reducible refine BlkAt.new _ _ _ _ ?_; ((try simp) <;> omega)) | (with_reducible assumption) | (with_reducible refine Blk.at (t := ?_) ?_; rotate_left; with_reducible assumption) | with_reducible refine BlkAt.alloc ?_ _ | with_reducible refine BlkAt.drew ?_ | (with_reducible refine BlkAt.setSame ?_ _ _) | (with_reducible refine BlkAt.setCell ?_ ?_ _; rotate_left; ((try simp) <;> omega)) | (with_reducible refine BlkAt.ext (w := ?_) ?_ ?_; rotate_left 2; (with_reducible assumption)) | fail))); rotate_left; (next => first | (simp only [go_sem]; rfl) | rfl); (next => kernel_rfl); (try simp only [Act.put, List.setIfInBounds_toArray, List.set_cons_zero, List.set_cons_succ])) | (refine q_rem (by rfl) _ _ _ _ (by rfl) _ _ (by rfl) (by rfl) (by kernel_rfl) (by kernel_rfl) ?_ ?_; (next => omega); (try simp only [Act.put, List.setIfInBounds_toArray, List.set_cons_zero, List.set_cons_succ])) | (refine q_step_ex (by rfl) ?_; apply Exists.intro; refine ⟨fun W hW => ?_, ?_⟩; (next => (have hWc := fun (b o : Nat) (h : b < _) => (Ext.out hW).cell (p := ⟨b, o, none⟩) h); (try have hLK := HLK.out W (Ext.out hW)); go_simp; first | rfl | fail | fail); (try simp only [Act.put, List.setIfInBounds_toArray, List.set_cons_zero, List.set_cons_succ])) | fail)
                  refine wpQuiet_nil ?_
                  intro w6 hb6
                  have l6 := lk.ext hb6
                  have d0 := l6.cOut (Nat.le_refl _) hin
                  have d1 := l6.cOut hi1l hi1n
                  have m0 := l6.lt
                  have m1 := l6.ltRow (Nat.le_refl _) hin
                  have m2 := l6.ltRow hi1l hi1n
                  have d2 := l6.cVal p1 hi1l hi1n (show k < b.length + 1 by omega)
                  have d3 := l6.cVal p2 (Nat.le_refl _) hin hk1n
                  go_wp2_with fail
                  refine wp_region_below_tail 22 (by kernel_rfl) (by kernel_rfl) ?_
                  simp only [List.take_succ_cons, List.take_zero, List.drop_succ_cons, List.drop_zero]
                  repeat (first | go_big_quiet_skip | (go_big_quiet_want; go_big_quiet_op; go_big_quiet_on) | (refine q_load_fld (by rfl) _ _ (by rfl) (fun _ h => h) _ _ (by rfl) ?_ ?_ ?_ ?_ ?_ ?_; rotate_left; (next => (repeat (first | (with_reducible refine BlkAt.new _ _ _ _ ?_; ((try simp) <;> omega)) | (with_reducible assumption) | (with_reducible refine Blk.at (t := ?_) ?_; rotate_left; with_reducible assumption) | with_reducible refine BlkAt.alloc ?_ _ | with_reducible refine BlkAt.drew ?_ | (with_reducible refine BlkAt.setSame ?_ _ _) | (with_reducible refine BlkAt.setCell ?_ ?_ _; rotate_left; ((try simp) <;> omega)) | (with_reducible refine BlkAt.ext (w := ?_) ?_ ?_; rotate_left 2; (with_reducible assumption)) | fail))); rotate_left; (next => first | (simp only [go_sem]; rfl) | rfl); (next => kernel_rfl); (try simp only [Act.put, List.setIfInBounds_toArray, List.set_cons_zero, List.set_cons_succ])) | (refine q_rem (by rfl) _ _ _ _ (by rfl) _ _ (by rfl) (by rfl) (by kernel_rfl) (by kernel_rfl) ?_ ?_; (next => omega); (try simp only [Act.put, List.setIfInBounds_toArray, List.set_cons_zero, List.set_cons_succ])) | (refine q_step_ex (by rfl) ?_; apply Exists.intro; refine ⟨fun W hW => ?_, ?_⟩; (next => (have hWc := fun (b o : Nat) (h : b < _) => (Ext.out hW).cell (p := ⟨b, o, none⟩) h); (try have hLK := HLK.out W (Ext.out hW)); go_simp; first | rfl | fail | fail); (try simp only [Act.put, List.setIfInBounds_toArray, List.set_cons_zero, List.set_cons_succ])) | fail)
                  refine wpQuiet_nil ?_
                  intro w7 hb7
                  have l7 := l6.ext hb7
                  obtain ⟨rs, hrs, hrz, hrv⟩ := l7.row i (Nat.le_refl _) hin
                  clear hrv
                  have d7 := l7.cOut (Nat.le_refl _) hin
                  go_wp2_with (refine wpList_store_fld (by rfl) _ _ _ (by rfl) _ _ (by rfl) _ (by rfl) _ _ hrs ?_ ?_ (by rfl) (by rfl) ?_; (next => first | omega | ((try simp) <;> omega)); (next => kernel_rfl); intro w8 hB8 hU8)
                  go_roundw
                  case rel => exact ⟨_, k, rfl, by omega, by omega, (by have h9 := l7.set (Nat.le_refl _) hin (by omega) hrs hB8 hU8; rw [← hT2.out] at h9; exact h9.eq (V_put a b i k)), below_upd (below_ext (below_ext hbk hb6) hb7) hbri hU8⟩
                  case measure => first | (simp [intOf]; done) | (simp [intOf]; omega)
              · have hT2 : Hid (T a b i k = r1) := Lib.hid (by rw [hT.out, e]; first | rfl | (simp; omega) | omega)
                replace e := Lib.hid e
                clear hT
                go_wp2_with fail
                refine wp_region_below_lit (by kernel_rfl) (by kernel_rfl) ?_
                repeat (first | go_big_quiet_skip | (go_big_quiet_want; go_big_quiet_op; go_big_quiet_on) | (refine q_load_mid (by rfl) _ _ (by rfl) (fun _ h => h) _ _ (by rfl) _ _ (by assumption) Try.underlying40 rfl (by kernel_rfl) ?_; (try simp only [Act.put, List.setIfInBounds_toArray, List.set_cons_zero, List.set_cons_succ])) | (refine Cmp.q_eqmv (by rfl) _ _ _ (by rfl) _ _ (by rfl) (by rfl) _ (by assumption) ?_; (try simp only [Act.put, List.setIfInBounds_toArray, List.set_cons_zero, List.set_cons_succ])) | (refine q_load_fld (by rfl) _ _ (by rfl) (fun _ h => h) _ _ (by rfl) ?_ ?_ ?_ ?_ ?_ ?_; rotate_left; (next => (repeat (first | (with_reducible refine BlkAt.new _ _ _ _ ?_; ((try simp) <;> omega)) | (with_reducible assumption) | (with_reducible refine Blk.at (t := ?_) ?_; rotate_left; with_reducible assumption) | with_reducible refine BlkAt.alloc ?_ _ | with_reducible refine BlkAt.drew ?_ | (with_reducible refine BlkAt.setSame ?_ _ _) | (with_reducible refine BlkAt.setCell ?_ ?_ _; rotate_left; ((try simp) <;> omega)) | (with_reducible refine BlkAt.ext (w := ?_) ?_ ?_; rotate_left 2; (with_reducible assumption)) | fail))); rotate_left; (next => first | (simp only [go_sem]; rfl) | rfl); (next => kernel_rfl); (try simp only [Act.put, List.setIfInBounds_toArray, List.set_cons_zero, List.set_cons_succ])) | (refine q_rem (by rfl) _ _ _ _ (by rfl) _ _ (by rfl) (by rfl) (by kernel_rfl) (by kernel_rfl) ?_ ?_; (next => omega); (try simp only [Act.put, List.setIfInBounds_toArray, List.set_cons_zero, List.set_cons_succ])) | (refine q_step_ex (by rfl) ?_; apply Exists.intro; refine ⟨fun W hW => ?_, ?_⟩; (next => (have hWc := fun (b o : Nat) (h : b < _) => (Ext.out hW).cell (p := ⟨b, o, none⟩) h); (try have hLK := HLK.out W (Ext.out hW)); go_simp; first | rfl | fail | fail); (try simp only [Act.put, List.setIfInBounds_toArray, List.set_cons_zero, List.set_cons_succ])) | fail)
                refine wpQuiet_nil ?_
                intro w6 hb6
                have l6 := lk.ext hb6
                have d0 := l6.cOut (Nat.le_refl _) hin
                have d1 := l6.cOut hi1l hi1n
                have m0 := l6.lt
                have m1 := l6.ltRow (Nat.le_refl _) hin
                have m2 := l6.ltRow hi1l hi1n
                have d2 := l6.cVal p3 hi1l hi1n hk1n
                go_wp2_with fail
                refine wp_region_below_tail 15 (by kernel_rfl) (by kernel_rfl) ?_
                simp only [List.take_succ_cons, List.take_zero, List.drop_succ_cons, List.drop_zero]
                repeat (first | go_big_quiet_skip | (go_big_quiet_want; go_big_quiet_op; go_big_quiet_on) | (refine q_load_fld (by rfl) _ _ (by rfl) (fun _ h => h) _ _ (by rfl) ?_ ?_ ?_ ?_ ?_ ?_; rotate_left; (next => (repeat (first | (with_reducible refine BlkAt.new _ _ _ _ ?_; ((try simp) <;> omega)) | (with_reducible assumption) | (with_reducible refine Blk.at (t := ?_) ?_; rotate_left; with_reducible assumption) | with_reducible refine BlkAt.alloc ?_ _ | with_reducible refine BlkAt.drew ?_ | (with_reducible refine BlkAt.setSame ?_ _ _) | (with_reducible refine BlkAt.setCell ?_ ?_ _; rotate_left; ((try simp) <;> omega)) | (with_reducible refine BlkAt.ext (w := ?_) ?_ ?_; rotate_left 2; (with_reducible assumption)) | fail))); rotate_left; (next => first | (simp only [go_sem]; rfl) | rfl); (next => kernel_rfl); (try simp only [Act.put, List.setIfInBounds_toArray, List.set_cons_zero, List.set_cons_succ])) | (refine q_rem (by rfl) _ _ _ _ (by rfl) _ _ (by rfl) (by rfl) (by kernel_rfl) (by kernel_rfl) ?_ ?_; (next => omega); (try simp only [Act.put, List.setIfInBounds_toArray, List.set_cons_zero, List.set_cons_succ])) | (refine q_step_ex (by rfl) ?_; apply Exists.intro; refine ⟨fun W hW => ?_, ?_⟩; (next => (have hWc := fun (b o : Nat) (h : b < _) => (Ext.out hW).cell (p := ⟨b, o, none⟩) h); (try have hLK := HLK.out W (Ext.out hW)); go_simp; first | rfl | fail | fail); (try simp only [Act.put, List.setIfInBounds_toArray, List.set_cons_zero, List.set_cons_succ])) | fail)
                refine wpQuiet_nil ?_
                intro w7 hb7
                have l7 := l6.ext hb7
                obtain ⟨rs, hrs, hrz, hrv⟩ := l7.row i (Nat.le_refl _) hin
                clear hrv
                have d7 := l7.cOut (Nat.le_refl _) hin
                go_wp2_with (refine wpList_store_fld (by rfl) _ _ _ (by rfl) _ _ (by rfl) _ (by rfl) _ _ hrs ?_ ?_ (by rfl) (by rfl) ?_; (next => first | omega | ((try simp) <;> omega)); (next => kernel_rfl); intro w8 hB8 hU8)
                go_roundw
                case rel => exact ⟨_, k, rfl, by omega, by omega, (by have h9 := l7.set (Nat.le_refl _) hin (by omega) hrs hB8 hU8; rw [← hT2.out] at h9; exact h9.eq (V_put a b i k)), below_upd (below_ext (below_ext hbk hb6) hb7) hbri hU8⟩
                case measure => first | (simp [intOf]; done) | (simp [intOf]; omega)
theorem rcommon_long (hca : (a.length : Int) ≤ 9223372036854775807) (hcb : (b.length : Int) ≤ 9223372036854775807) (h : 300 < a.length ∨ 300 < b.length) :
    Calls Try.prog 8 #[.slice A a.length ca, .slice B b.length cb] w fun e w' => e = .returned (.int .i64 (-1)) ∧ w' = w := by
  have hc := Lib.hid (long_any (a := a) (b := b) (A := A) (ca := ca) (B := B) (cb := cb) (w := w) hca hcb true (Lib.hid (by rw [decide_eq_true h])))
  clear h
  go_enter Try.func8, Try.ntmps8
  go_wp2_with (go_at_call 18; refine hc.out.mono ?_; rintro e w4 ⟨rfl, rfl⟩)
  go_ret
  exact ⟨rfl, rfl⟩
theorem rcommon_any (hla : a.length ≤ 300) (hlb : b.length ≤ 300) (hA : Rd w 9 A (a.map Msg.cells)) (hB : Rd w 9 B (b.map Msg.cells)) :
    Calls Try.prog 8 #[.slice A a.length ca, .slice B b.length cb] w fun e w' => e = .returned (.int .i64 (lcs a b : Nat)) ∧ Below w.heap.size w w' := by
  have hc := Lib.hid (long_any (a := a) (b := b) (A := A) (ca := ca) (B := B) (cb := cb) (w := w) (by omega) (by omega) false (Lib.hid (by rw [decide_eq_false (by omega)])))
  have hd := Lib.hid (lengths_any (ca := ca) (cb := cb) hla hlb hA hB)
  have hv : Hid (T a b 0 0 = lcs a b) := Lib.hid rfl
  go_enter Try.func8, Try.ntmps8
  go_wp2_with (first | (go_at_call 18; refine hc.out.mono ?_; rintro e w4 ⟨rfl, rfl⟩) | (go_at_call 19; refine hd.out.mono ?_; rintro e w5 ⟨bo, br, rfl, l5, hb5⟩; have d0 := l5.cOut (i := 0) (Nat.le_refl _) (by omega); have d1 := l5.cVal hv (Nat.le_refl _) (by omega) (by omega)) | fail)
  go_ret
  exact ⟨rfl, hb5⟩
end
end Cmp
end Go.Proofs.Ytpopfjfmppmjdaa
