/- This text proves what a table of two lists holds, how it is made, and how it is read: contracts of the package compare: at, fill, Common. It has no conditions but those that they state. -/
import Derived.Test.YtpopfjfmppmjdaaCmpLaw
import Derived.Deep.RegionWith
namespace Go.Proofs.Ytpopfjfmppmjdaa
set_option linter.unusedVariables false
open Go.RowKit
namespace Cmp
set_option maxHeartbeats 1000000
set_option maxRecDepth 10000
/-! ### a table as data -/
theorem idx_lt {i n k m : Nat} (hi : i < n) (hk : k < m) : i * m + k < n * m := by
  have h1 : (i + 1) * m ≤ n * m := Nat.mul_le_mul_right m hi
  rw [Nat.succ_mul] at h1
  omega
theorem idx_inj {i j k l m : Nat} (hk : k < m) (hl : l < m) (h : i * m + k = j * m + l) : i = j ∧ k = l := by
  have h1 : (i * m + k) / m = i := by rw [Nat.mul_comm, Nat.mul_add_div (by omega), Nat.div_eq_of_lt hk, Nat.add_zero]
  have h2 : (j * m + l) / m = j := by rw [Nat.mul_comm, Nat.mul_add_div (by omega), Nat.div_eq_of_lt hl, Nat.add_zero]
  rw [h, h2] at h1
  subst h1
  exact ⟨rfl, by omega⟩
def Tab (cs : Array Value) (n m : Nat) (f : Nat → Nat → Nat) : Prop := cs.size = n * m ∧ ∀ i k, i < n → k < m → cs[i * m + k]? = some (.int .i64 (f i k : Nat))
def put2 (f : Nat → Nat → Nat) (i k v : Nat) : Nat → Nat → Nat := fun i' k' => if i' = i ∧ k' = k then v else f i' k'
theorem Tab.set {cs : Array Value} {n m : Nat} {f : Nat → Nat → Nat} (t : Tab cs n m f) {i k : Nat} (hi : i < n) (hk : k < m) (v : Nat) : Tab (cs.setIfInBounds (i * m + k) (.int .i64 v)) n m (put2 f i k v) := by
  refine ⟨by simp [t.1], fun i' k' hi' hk' => ?_⟩
  by_cases e : i' = i ∧ k' = k
  · obtain ⟨rfl, rfl⟩ := e
    rw [Array.getElem?_setIfInBounds_self_of_lt (by rw [t.1]; exact idx_lt hi hk)]
    simp [put2]
  · rw [Array.getElem?_setIfInBounds_ne (fun h => e (by obtain ⟨h1, h2⟩ := idx_inj hk hk' h; exact ⟨h1.symm, h2.symm⟩))]
    rw [t.2 i' k' hi' hk']
    simp [put2, e]
theorem Tab.eq {cs : Array Value} {n m : Nat} {f g : Nat → Nat → Nat} (t : Tab cs n m f) (h : ∀ i k, i < n → k < m → f i k = g i k) : Tab cs n m g :=
  ⟨t.1, fun i k hi hk => by rw [t.2 i k hi hk, h i k hi hk]⟩
theorem tab_zero (n m : Nat) : Tab (madeCells #[.int .i64 0] (n * m)) n m (fun _ _ => 0) :=
  ⟨size_madeCells _ _, fun i k hi hk => madeCells_all (fun i hi => by
    match i, hi with
    | 0, _ => rfl) (by decide) _ _ (idx_lt hi hk)⟩
/-- What is filled: the rows from I on, and of the row ahead of them what lies from K on. -/
def V (a b : List Msg) (I K i k : Nat) : Nat := if I ≤ i ∨ (i + 1 = I ∧ K ≤ k) then T a b i k else 0
theorem V_start (a b : List Msg) : ∀ i k, i < a.length + 1 → k < b.length + 1 → (fun _ _ => 0 : Nat → Nat → Nat) i k = V a b a.length (b.length + 1) i k := fun i k hi hk => by
  unfold V
  split
  · rw [T_end _ _ _ _ (.inl (by omega))]
  · rfl
theorem V_row (a b : List Msg) (I : Nat) : ∀ i k, i < a.length + 1 → k < b.length + 1 → V a b I (b.length + 1) i k = V a b I b.length i k := fun i k hi hk => by
  unfold V
  split
  · rw [if_pos (by omega)]
  · split
    · rw [T_end _ _ _ _ (.inr (by omega))]
    · rfl
theorem V_rowEnd (a b : List Msg) (i0 : Nat) : ∀ i k, i < a.length + 1 → k < b.length + 1 → V a b (i0 + 1) 0 i k = V a b i0 (b.length + 1) i k := fun i k hi hk => by
  unfold V
  by_cases h : i0 ≤ i
  · rw [if_pos (by omega), if_pos (by omega)]
  · rw [if_neg (by omega), if_neg (by omega)]
theorem V_put (a b : List Msg) (i0 k0 : Nat) : ∀ i k, i < a.length + 1 → k < b.length + 1 → put2 (V a b (i0 + 1) (k0 + 1)) i0 k0 (T a b i0 k0) i k = V a b (i0 + 1) k0 i k := fun i k hi hk => by
  unfold put2
  by_cases h : i = i0 ∧ k = k0
  · obtain ⟨rfl, rfl⟩ := h
    rw [if_pos ⟨rfl, rfl⟩]
    unfold V
    rw [if_pos (by omega)]
  · rw [if_neg h]
    unfold V
    by_cases h1 : i0 + 1 ≤ i ∨ (i + 1 = i0 + 1 ∧ k0 + 1 ≤ k)
    · rw [if_pos h1, if_pos (by omega)]
    · rw [if_neg h1, if_neg (by omega)]
theorem V_all (a b : List Msg) : ∀ i k, i < a.length + 1 → k < b.length + 1 → V a b 0 (b.length + 1) i k = T a b i k := fun i k _ _ => by
  unfold V
  rw [if_pos (.inl (Nat.zero_le _))]
/-- A table lies there. -/
structure Tb (w : World) (g bt : Nat) (A : Option Addr) (ca : Nat) (B : Option Addr) (cb : Nat) (a b : List Msg) (f : Nat → Nat → Nat) : Prop where
  hd : Blk w g 50 #[.slice A a.length ca, .slice B b.length cb, .slice (some ⟨bt, 0, none⟩) ((a.length + 1) * (b.length + 1)) ((a.length + 1) * (b.length + 1))]
  tb : ∃ cs, Blk w bt 3 cs ∧ Tab cs (a.length + 1) (b.length + 1) f
  ne : g ≠ bt
  len : a.length ≤ 300 ∧ b.length ≤ 300
theorem Tb.ext {w w' : World} {g bt : Nat} {A : Option Addr} {ca : Nat} {B : Option Addr} {cb : Nat} {a b : List Msg} {f : Nat → Nat → Nat} (t : Tb w g bt A ca B cb a b f) (hb : Below w.heap.size w w') : Tb w' g bt A ca B cb a b f :=
  ⟨t.hd.ext hb, by obtain ⟨cs, h1, h2⟩ := t.tb; exact ⟨cs, h1.ext hb, h2⟩, t.ne, t.len⟩
theorem Tb.eq {w : World} {g bt : Nat} {A : Option Addr} {ca : Nat} {B : Option Addr} {cb : Nat} {a b : List Msg} {f f' : Nat → Nat → Nat} (t : Tb w g bt A ca B cb a b f) (h : ∀ i k, i < a.length + 1 → k < b.length + 1 → f i k = f' i k) : Tb w g bt A ca B cb a b f' :=
  ⟨t.hd, by obtain ⟨cs, h1, h2⟩ := t.tb; exact ⟨cs, h1, h2.eq h⟩, t.ne, t.len⟩
theorem rd_msg {w : World} {A : Option Addr} {a : List Msg} (h : Rd w 9 A (a.map Msg.cells)) {i : Nat} (hi : i < a.length) : ∃ b o, A = some ⟨b, o, none⟩ ∧ w.rangeAt b (o + i * 9) (a[i]'hi).cells ∧ b < w.heap.size := by
  obtain ⟨b, o, rfl, hc⟩ := h.at hi
  exact ⟨b, o, rfl, fun j u hu => by rw [Nat.add_assoc]; exact hc j u hu, cell_lt (hc 0 _ rfl)⟩
section
variable {w : World} {g bt : Nat} {A : Option Addr} {ca : Nat} {B : Option Addr} {cb : Nat} {a b : List Msg} {f : Nat → Nat → Nat}
theorem bounds (hla : a.length ≤ 300) (hlb : b.length ≤ 300) {i k : Nat} (hi : i ≤ a.length) (hk : k ≤ b.length) :
    ∃ r m N : Nat, m = i * (b.length + 1) + k ∧ N = (a.length + 1) * (b.length + 1) ∧ m < N ∧ N ≤ 90601 ∧
      IntKind.i64.wrap ((b.length : Int) + 1) = (b.length : Int) + 1 ∧ IntKind.i64.wrap ((i : Int) * ((b.length : Int) + 1)) = (r : Int) ∧ IntKind.i64.wrap ((r : Int) + (k : Int)) = (m : Int) := by
  have h1 : i * (b.length + 1) + k < (a.length + 1) * (b.length + 1) := idx_lt (by omega) (by omega)
  have h2 : (a.length + 1) * (b.length + 1) ≤ 301 * 301 := Nat.mul_le_mul (by omega) (by omega)
  have h3 : (i : Int) * ((b.length : Int) + 1) = ((i * (b.length + 1) : Nat) : Int) := by simp
  refine ⟨i * (b.length + 1), i * (b.length + 1) + k, (a.length + 1) * (b.length + 1), rfl, rfl, h1, h2, IntWalk.i64_in _ (by omega), ?_, ?_⟩
  · rw [h3]
    generalize i * (b.length + 1) = r at *
    exact IntWalk.i64_in _ (by omega)
  · generalize i * (b.length + 1) = r at *
    rw [IntWalk.i64_in _ (by omega)]
    omega
theorem at_any (t : Tb w g bt A ca B cb a b f) {I K : Int} (i k : Nat) (hI : I = i) (hK : K = k) (hi : i ≤ a.length) (hk : k ≤ b.length) :
    Calls Try.prog 17 #[.pointer (some ⟨g, 0, none⟩), .int .i64 I, .int .i64 K] w fun e w' => e = .returned (.int .i64 (f i k : Nat)) ∧ Below w.heap.size w w' := by
  subst hI hK
  obtain ⟨hhd, ⟨cs, hcs, htab⟩, hne, hla, hlb⟩ := t
  obtain ⟨r, m, N, h2, h3, h4, h5, u1, u2, u3⟩ := bounds hla hlb hi hk
  have h6 := htab.2 i k (by omega) (by omega)
  rw [← h2] at h6
  rw [← h3] at hhd
  have c1 : w.cell? ⟨g, 1, none⟩ = some (.slice B b.length cb) := hhd.cell 1
  have c2 : w.cell? ⟨g, 2, none⟩ = some (.slice (some ⟨bt, 0, none⟩) N N) := hhd.cell 2
  have c3 : w.cell? ⟨bt, m, none⟩ = some (.int .i64 (f i k : Nat)) := (hcs.cell _).trans h6
  have l1 := hhd.lt
  have l2 := hcs.lt
  have h7 : (m : Int) < N := by omega
  clear h6 h2 h3 htab hhd hcs
  generalize f i k = v at *
  go_enter Try.func17, Try.ntmps17
  go_wp2_with fail
  refine wp_region_below_lit (by kernel_rfl) (by kernel_rfl) ?_
  repeat (first | go_big_quiet_skip | (go_big_quiet_want; go_big_quiet_op; go_big_quiet_on) | (refine q_load_fld (by rfl) _ _ (by rfl) (fun _ h => h) _ _ (by rfl) ?_ ?_ ?_ ?_ ?_ ?_; rotate_left; (next => (repeat (first | (with_reducible refine BlkAt.new _ _ _ _ ?_; ((try simp) <;> omega)) | (with_reducible assumption) | (with_reducible refine Blk.at (t := ?_) ?_; rotate_left; with_reducible assumption) | with_reducible refine BlkAt.alloc ?_ _ | with_reducible refine BlkAt.drew ?_ | (with_reducible refine BlkAt.setSame ?_ _ _) | (with_reducible refine BlkAt.setCell ?_ ?_ _; rotate_left; ((try simp) <;> omega)) | (with_reducible refine BlkAt.ext (w := ?_) ?_ ?_; rotate_left 2; (with_reducible assumption)) | fail))); rotate_left; (next => first | (simp only [go_sem]; rfl) | rfl); (next => kernel_rfl); (try simp only [Act.put, List.setIfInBounds_toArray, List.set_cons_zero, List.set_cons_succ])) | (refine q_rem (by rfl) _ _ _ _ (by rfl) _ _ (by rfl) (by rfl) (by kernel_rfl) (by kernel_rfl) ?_ ?_; (next => omega); (try simp only [Act.put, List.setIfInBounds_toArray, List.set_cons_zero, List.set_cons_succ])) | (refine q_step_ex (by rfl) ?_; apply Exists.intro; refine ⟨fun W hW => ?_, ?_⟩; (next => (have hWc := fun (b o : Nat) (h : b < _) => (Ext.out hW).cell (p := ⟨b, o, none⟩) h); (try have hLK := HLK.out W (Ext.out hW)); go_simp; first | rfl | fail | fail); (try simp only [Act.put, List.setIfInBounds_toArray, List.set_cons_zero, List.set_cons_succ])) | fail)
  refine wpQuiet_nil ?_
  intro wq hbq
  go_wp2_with fail
  go_ret
  exact ⟨rfl, hbq⟩
theorem at_val (t : Tb w g bt A ca B cb a b f) {I K : Int} (i k v : Nat) (hv : Hid (f i k = v)) (hI : I = i) (hK : K = k) (hi : i ≤ a.length) (hk : k ≤ b.length) :
    Calls Try.prog 17 #[.pointer (some ⟨g, 0, none⟩), .int .i64 I, .int .i64 K] w fun e w' => e = .returned (.int .i64 (v : Nat)) ∧ Below w.heap.size w w' := by
  have h := at_any t i k hI hK hi hk
  rw [hv.out] at h
  exact h
theorem V_in (a b : List Msg) {I K i k : Nat} (h : I ≤ i ∨ (i + 1 = I ∧ K ≤ k)) : V a b I K i k = T a b i k := by
  unfold V
  rw [if_pos h]
theorem Tb.put {w' : World} {cs : Array Value} (t : Tb w g bt A ca B cb a b f) (hcs : Blk w bt 3 cs) {i k m v : Nat} (hi : i < a.length + 1) (hk : k < b.length + 1) (hm : m = i * (b.length + 1) + k)
    (h : Blk w' bt 3 (cs.setIfInBounds m (.int .i64 v))) (u : Upd bt w w') : Tb w' g bt A ca B cb a b (put2 f i k v) := by
  obtain ⟨hd, ⟨c, h1, h2⟩, hne, hl⟩ := t
  have e : c = cs := by
    have h3 : some (Obj.cells c 3 (0, 0)) = some (Obj.cells cs 3 (0, 0)) := h1.symm.trans hcs
    injection h3 with h3
    injection h3
  subst e
  subst hm
  exact ⟨hd.upd hne u, ⟨_, h, h2.set hi hk v⟩, hne, hl⟩
theorem Tb.putT {w' : World} {cs : Array Value} {i k m v : Nat} (t : Tb w g bt A ca B cb a b (V a b (i + 1) (k + 1))) (hcs : Blk w bt 3 cs) (hi : i < a.length) (hk : k < b.length) (hm : Hid (m = i * (b.length + 1) + k)) (hT : Hid (T a b i k = v))
    (h : Blk w' bt 3 (cs.setIfInBounds m (.int .i64 v))) (u : Upd bt w w') : Tb w' g bt A ca B cb a b (V a b (i + 1) k) := by
  have h1 := t.put hcs (by omega) (by omega) hm.out h u
  rw [← hT.out] at h1
  exact h1.eq (V_put a b i k)
theorem Tb.c2 {N : Nat} (t : Tb w g bt A ca B cb a b f) (hN : Hid (N = (a.length + 1) * (b.length + 1))) : w.cell? ⟨g, 2, none⟩ = some (.slice (some ⟨bt, 0, none⟩) N N) := by
  have h := t.hd.cell 2
  rw [← hN.out] at h
  exact h
theorem Tb.cs {N : Nat} (t : Tb w g bt A ca B cb a b f) (hN : Hid (N = (a.length + 1) * (b.length + 1))) : ∃ cs, Blk w bt 3 cs ∧ cs.size = N := by
  obtain ⟨cs, h1, h2⟩ := t.tb
  exact ⟨cs, h1, by rw [h2.1, hN.out]⟩
theorem rng_ext {w w' : World} {b o : Nat} {cs : List Value} (h : w.rangeAt b o cs) (hb : Below w.heap.size w w') : w'.rangeAt b o cs := fun j v hv => (hb.cell (cell_lt (h j v hv))).trans (h j v hv)
def FillPost (A : Option Addr) (ca : Nat) (B : Option Addr) (cb : Nat) (a b : List Msg) (w : World) (e : Ending) (w' : World) : Prop :=
  ∃ g bt, e = .returned (.pointer (some ⟨g, 0, none⟩)) ∧ Tb w' g bt A ca B cb a b (T a b) ∧ w.heap.size ≤ g ∧ w.heap.size ≤ bt ∧ Below w.heap.size w w'
theorem fill_any (hla : a.length ≤ 300) (hlb : b.length ≤ 300) (hA : Rd w 9 A (a.map Msg.cells)) (hB : Rd w 9 B (b.map Msg.cells)) :
    Calls Try.prog 16 #[.slice A a.length ca, .slice B b.length cb] w (FillPost A ca B cb a b w) := by
  obtain ⟨N, hN, hN2⟩ : ∃ N : Nat, N = (a.length + 1) * (b.length + 1) ∧ N ≤ 90601 := ⟨_, rfl, Nat.mul_le_mul (show a.length + 1 ≤ 301 by omega) (show b.length + 1 ≤ 301 by omega)⟩
  have hmf : ∀ (fn : Fn) (first cap : Array Value) (W : World), (Instr.makeFunc fn first cap).run Try.prog W = .ok (.func fn first cap) W := fun _ _ _ _ => rfl
  have u1 : IntKind.i64.wrap ((b.length : Int) + 1) = (b.length : Int) + 1 := IntWalk.i64_in _ (by omega)
  have u3 : ((a.length : Int) + 1) * ((b.length : Int) + 1) = (N : Int) := by rw [hN]; simp
  have u2 : IntKind.i64.wrap (((a.length : Int) + 1) * ((b.length : Int) + 1)) = (N : Int) := by
    rw [u3]
    exact IntWalk.i64_in _ (by omega)
  have hN2 : (N : Int) ≤ 90601 := by omega
  replace hN := Lib.hid hN
  clear u3
  go_enter Try.func16, Try.ntmps16
  go_wp2_with (refine wpList_make_blk (by rfl) _ _ 44 (by rfl) 3 (.int .i64 0) 1 8 .i64 .i64 N (by rfl) (by rfl) Try.underlying44 (by kernel_rfl) ⟨by omega, by omega⟩ ?_; intro w2 hBT hb2 hz2)
  have hG := Blk.new w2 50 #[.slice A a.length ca, .slice B b.length cb, .slice (some ⟨w.heap.size, 0, none⟩) N N] _ hz2
  have hBT1 := hBT.alloc (.cells #[.slice A a.length ca, .slice B b.length cb, .slice (some ⟨w.heap.size, 0, none⟩) N N] 50)
  have hb3 := below_alloc hb2 (.cells #[.slice A a.length ca, .slice B b.length cb, .slice (some ⟨w.heap.size, 0, none⟩) N N] 50)
  have t0 : Tb (w2.alloc (.cells #[.slice A a.length ca, .slice B b.length cb, .slice (some ⟨w.heap.size, 0, none⟩) N N] 50)) (w.heap.size + 1) w.heap.size A ca B cb a b (V a b a.length (b.length + 1)) := by
    refine ⟨by rw [← hN.out]; exact hG, ⟨_, hBT1, ?_⟩, by omega, hla, hlb⟩
    rw [Nat.mul_one, hN.out]
    exact (tab_zero (a.length + 1) (b.length + 1)).eq (V_start a b)
  clear hG hBT1 hBT hb2
  generalize w2.alloc (.cells #[.slice A a.length ca, .slice B b.length cb, .slice (some ⟨w.heap.size, 0, none⟩) N N] 50) = w3 at *
  clear hz2 u2
  go_loopw [7] (fun v wr => ∃ (n : Int) (I : Nat), v = .int .i64 n ∧ n = (I : Int) - 1 ∧ I ≤ a.length ∧ Tb wr (w.heap.size + 1) w.heap.size A ca B cb a b (V a b I (b.length + 1)) ∧ Below w.heap.size w wr) (fun v _ => (intOf v + 1).toNat)
  case atStart => exact ⟨_, a.length, rfl, rfl, Nat.le_refl _, t0, hb3⟩
  case round =>
    obtain ⟨n, I, rfl, hn, hI, t, hb⟩ := hrel
    by_cases h0 : I = 0
    · subst h0
      obtain rfl : n = -1 := by omega
      clear hn
      go_wp2_with fail
      go_ret
      exact ⟨_, _, rfl, t.eq (V_all a b), by omega, by omega, hb⟩
    · obtain ⟨i, rfl⟩ : ∃ i, I = i + 1 := ⟨I - 1, by omega⟩
      obtain rfl : n = (i : Int) := by omega
      clear hn h0
      go_wp2_with fail
      obtain ⟨wo, hwo⟩ : ∃ W, W = wr := ⟨_, rfl⟩
      subst hwo
      go_loopw [8] (fun v wr => ∃ (n : Int) (K : Nat), v = .int .i64 n ∧ n = (K : Int) - 1 ∧ K ≤ b.length ∧ Tb wr (w.heap.size + 1) w.heap.size A ca B cb a b (V a b (i + 1) K) ∧ Below w.heap.size w wr) (fun v _ => (intOf v + 1).toNat)
      case atStart => exact ⟨_, b.length, rfl, rfl, Nat.le_refl _, t.eq (V_row a b (i + 1)), hb⟩
      case round =>
        obtain ⟨n, K, rfl, hn, hK, tk, hbk⟩ := hrel
        by_cases h0 : K = 0
        · subst h0
          obtain rfl : n = -1 := by omega
          clear hn
          go_wp2_with fail
          go_roundw
          case rel => exact ⟨_, i, rfl, by omega, by omega, tk.eq (V_rowEnd a b i), hbk⟩
          case measure => simp [intOf]
        · obtain ⟨k, rfl⟩ : ∃ k, K = k + 1 := ⟨K - 1, by omega⟩
          obtain rfl : n = (k : Int) := by omega
          clear hn h0
          have hi : i < a.length := hI
          have hk : k < b.length := hK
          have hi1 : (i : Int) < (a.length : Int) := by omega
          have hk1 : (k : Int) < (b.length : Int) := by omega
          obtain ⟨ba, oa, rfl, ra, la⟩ := rd_msg (hA.below hbk) hi
          obtain ⟨bb, ob, rfl, rb, lb⟩ := rd_msg (hB.below hbk) hk
          have hT := Lib.hid (T_step a b i k hi hk)
          have g1 := T_le a b (i + 1) k
          have g2 := T_le a b i (k + 1)
          have g3 := T_le a b (i + 1) (k + 1)
          have p1 := Lib.hid (V_in a b (I := i + 1) (K := k + 1) (i := i + 1) (k := k) (.inl (Nat.le_refl _)))
          have p2 := Lib.hid (V_in a b (I := i + 1) (K := k + 1) (i := i) (k := k + 1) (.inr ⟨rfl, Nat.le_refl _⟩))
          have p3 := Lib.hid (V_in a b (I := i + 1) (K := k + 1) (i := i + 1) (k := k + 1) (.inl (Nat.le_refl _)))
          have hvp := Lib.hid (V_put a b i k)
          generalize T a b (i + 1) k = p at *
          generalize T a b i (k + 1) = q at *
          generalize T a b (i + 1) (k + 1) = r at *
          generalize a[i] = x at *
          generalize b[k] = y at *
          obtain ⟨rr, m, N', h2, h3, h4, h5, u1', u4, u5⟩ := bounds hla hlb (i := i) (k := k) (by omega) (by omega)
          obtain rfl : N = N' := by rw [hN.out, h3]
          clear h3
          replace h2 := Lib.hid h2
          have h7 : (m : Int) < N := by omega
          have hgt := tk.hd.lt
          have C1 : Hid (Calls Try.prog 17 #[.pointer (some ⟨w.heap.size + 1, 0, none⟩), .int .i64 ((i : Int) + 1), .int .i64 (k : Int)] wr fun e w' => e = .returned (.int .i64 (p : Nat)) ∧ Below wr.heap.size wr w') :=
            Lib.hid (at_val tk (i + 1) k p p1 (by omega) rfl (by omega) (by omega))
          have C2 : Hid (∀ W, Below wr.heap.size wr W → Calls Try.prog 17 #[.pointer (some ⟨w.heap.size + 1, 0, none⟩), .int .i64 (i : Int), .int .i64 ((k : Int) + 1)] W fun e w' => e = .returned (.int .i64 (q : Nat)) ∧ Below W.heap.size W w') :=
            Lib.hid (fun W h => at_val (tk.ext h) i (k + 1) q p2 rfl (by omega) (by omega) (by omega))
          have C3 : Hid (∀ W, Below wr.heap.size wr W → Calls Try.prog 17 #[.pointer (some ⟨w.heap.size + 1, 0, none⟩), .int .i64 ((i : Int) + 1), .int .i64 ((k : Int) + 1)] W fun e w' => e = .returned (.int .i64 (r : Nat)) ∧ Below W.heap.size W w') :=
            Lib.hid (fun W h => at_val (tk.ext h) (i + 1) (k + 1) r p3 (by omega) (by omega) (by omega) (by omega))
          clear p1 p2 p3
          cases e : eqM x y
          · by_cases hpq : p < q
            · have hT2 : Hid (T a b i k = q) := Lib.hid (by rw [hT.out, e]; first | rfl | (simp; omega) | omega)
              replace e := Lib.hid e
              clear hT
              go_wp2_with (go_at_call 17; first | (refine (C2.out w4 hb4).mono ?_; rintro e w5 ⟨rfl, hb5⟩) | (refine C1.out.mono ?_; rintro e w4 ⟨rfl, hb4⟩))
              have h5' := below_ext hb4 hb5
              have ra5 := rng_ext ra h5'
              have rb5 := rng_ext rb h5'
              have hz5 := h5'.size
              refine wp_region_below_lit (by kernel_rfl) (by kernel_rfl) ?_
              repeat (first | go_big_quiet_skip | (go_big_quiet_want; go_big_quiet_op; go_big_quiet_on) | (refine q_load_mid (by rfl) _ _ (by rfl) (fun _ h => h) _ _ (by rfl) _ _ (by assumption) Try.underlying40 rfl (by kernel_rfl) ?_; (try simp only [Act.put, List.setIfInBounds_toArray, List.set_cons_zero, List.set_cons_succ])) | (refine Cmp.q_eqmv (by rfl) _ _ _ (by rfl) _ _ (by rfl) (by rfl) _ (by assumption) ?_; (try simp only [Act.put, List.setIfInBounds_toArray, List.set_cons_zero, List.set_cons_succ])) | (refine q_load_fld (by rfl) _ _ (by rfl) (fun _ h => h) _ _ (by rfl) ?_ ?_ ?_ ?_ ?_ ?_; rotate_left; (next => (repeat (first | (with_reducible refine BlkAt.new _ _ _ _ ?_; ((try simp) <;> omega)) | (with_reducible assumption) | (with_reducible refine Blk.at (t := ?_) ?_; rotate_left; with_reducible assumption) | with_reducible refine BlkAt.alloc ?_ _ | with_reducible refine BlkAt.drew ?_ | (with_reducible refine BlkAt.setSame ?_ _ _) | (with_reducible refine BlkAt.setCell ?_ ?_ _; rotate_left; ((try simp) <;> omega)) | (with_reducible refine BlkAt.ext (w := ?_) ?_ ?_; rotate_left 2; (with_reducible assumption)) | fail))); rotate_left; (next => first | (simp only [go_sem]; rfl) | rfl); (next => kernel_rfl); (try simp only [Act.put, List.setIfInBounds_toArray, List.set_cons_zero, List.set_cons_succ])) | (refine q_rem (by rfl) _ _ _ _ (by rfl) _ _ (by rfl) (by rfl) (by kernel_rfl) (by kernel_rfl) ?_ ?_; (next => omega); (try simp only [Act.put, List.setIfInBounds_toArray, List.set_cons_zero, List.set_cons_succ])) | (refine q_step_ex (by rfl) ?_; apply Exists.intro; refine ⟨fun W hW => ?_, ?_⟩; (next => (have hWc := fun (b o : Nat) (h : b < _) => (Ext.out hW).cell (p := ⟨b, o, none⟩) h); (try have hLK := HLK.out W (Ext.out hW)); go_simp; first | rfl | fail | fail); (try simp only [Act.put, List.setIfInBounds_toArray, List.set_cons_zero, List.set_cons_succ])) | fail)
              refine wpQuiet_nil ?_
              intro w6 hb6
              have h6 := below_ext h5' hb6
              obtain ⟨cs, hcs, hcz⟩ := (tk.ext h6).cs hN
              have c2 := (tk.ext h6).c2 hN
              go_wp2_with (refine wpList_store_fld (by rfl) _ _ _ (by rfl) _ _ (by rfl) _ (by rfl) _ _ hcs ?_ ?_ (by rfl) (by rfl) ?_; (next => first | omega | ((try simp) <;> omega)); (next => kernel_rfl); intro w8 hB8 hU8)
              go_roundw
              case rel => exact ⟨_, k, rfl, by omega, by omega, (tk.ext h6).putT hcs hi hk h2 hT2 hB8 hU8, below_upd (below_ext hbk h6) (Nat.le_refl _) hU8⟩
              case measure => simp [intOf]
            · have hT2 : Hid (T a b i k = p) := Lib.hid (by rw [hT.out, e]; first | rfl | (simp; omega) | omega)
              replace e := Lib.hid e
              clear hT
              go_wp2_with (go_at_call 17; first | (refine (C2.out w4 hb4).mono ?_; rintro e w5 ⟨rfl, hb5⟩) | (refine C1.out.mono ?_; rintro e w4 ⟨rfl, hb4⟩))
              have h5' := below_ext hb4 hb5
              have ra5 := rng_ext ra h5'
              have rb5 := rng_ext rb h5'
              have hz5 := h5'.size
              refine wp_region_below_lit (by kernel_rfl) (by kernel_rfl) ?_
              repeat (first | go_big_quiet_skip | (go_big_quiet_want; go_big_quiet_op; go_big_quiet_on) | (refine q_load_mid (by rfl) _ _ (by rfl) (fun _ h => h) _ _ (by rfl) _ _ (by assumption) Try.underlying40 rfl (by kernel_rfl) ?_; (try simp only [Act.put, List.setIfInBounds_toArray, List.set_cons_zero, List.set_cons_succ])) | (refine Cmp.q_eqmv (by rfl) _ _ _ (by rfl) _ _ (by rfl) (by rfl) _ (by assumption) ?_; (try simp only [Act.put, List.setIfInBounds_toArray, List.set_cons_zero, List.set_cons_succ])) | (refine q_load_fld (by rfl) _ _ (by rfl) (fun _ h => h) _ _ (by rfl) ?_ ?_ ?_ ?_ ?_ ?_; rotate_left; (next => (repeat (first | (with_reducible refine BlkAt.new _ _ _ _ ?_; ((try simp) <;> omega)) | (with_reducible assumption) | (with_reducible refine Blk.at (t := ?_) ?_; rotate_left; with_reducible assumption) | with_reducible refine BlkAt.alloc ?_ _ | with_reducible refine BlkAt.drew ?_ | (with_reducible refine BlkAt.setSame ?_ _ _) | (with_reducible refine BlkAt.setCell ?_ ?_ _; rotate_left; ((try simp) <;> omega)) | (with_reducible refine BlkAt.ext (w := ?_) ?_ ?_; rotate_left 2; (with_reducible assumption)) | fail))); rotate_left; (next => first | (simp only [go_sem]; rfl) | rfl); (next => kernel_rfl); (try simp only [Act.put, List.setIfInBounds_toArray, List.set_cons_zero, List.set_cons_succ])) | (refine q_rem (by rfl) _ _ _ _ (by rfl) _ _ (by rfl) (by rfl) (by kernel_rfl) (by kernel_rfl) ?_ ?_; (next => omega); (try simp only [Act.put, List.setIfInBounds_toArray, List.set_cons_zero, List.set_cons_succ])) | (refine q_step_ex (by rfl) ?_; apply Exists.intro; refine ⟨fun W hW => ?_, ?_⟩; (next => (have hWc := fun (b o : Nat) (h : b < _) => (Ext.out hW).cell (p := ⟨b, o, none⟩) h); (try have hLK := HLK.out W (Ext.out hW)); go_simp; first | rfl | fail | fail); (try simp only [Act.put, List.setIfInBounds_toArray, List.set_cons_zero, List.set_cons_succ])) | fail)
              refine wpQuiet_nil ?_
              intro w6 hb6
              have h6 := below_ext h5' hb6
              obtain ⟨cs, hcs, hcz⟩ := (tk.ext h6).cs hN
              have c2 := (tk.ext h6).c2 hN
              go_wp2_with (refine wpList_store_fld (by rfl) _ _ _ (by rfl) _ _ (by rfl) _ (by rfl) _ _ hcs ?_ ?_ (by rfl) (by rfl) ?_; (next => first | omega | ((try simp) <;> omega)); (next => kernel_rfl); intro w8 hB8 hU8)
              go_roundw
              case rel => exact ⟨_, k, rfl, by omega, by omega, (tk.ext h6).putT hcs hi hk h2 hT2 hB8 hU8, below_upd (below_ext hbk h6) (Nat.le_refl _) hU8⟩
              case measure => simp [intOf]
          · by_cases hpq : p < q
            · have hT2 : Hid (T a b i k = r + 1) := Lib.hid (by rw [hT.out, e]; first | rfl | (simp; omega) | omega)
              replace e := Lib.hid e
              clear hT
              go_wp2_with (go_at_call 17; first | (refine (C2.out w4 hb4).mono ?_; rintro e w5 ⟨rfl, hb5⟩) | (refine C1.out.mono ?_; rintro e w4 ⟨rfl, hb4⟩))
              have h5' := below_ext hb4 hb5
              have ra5 := rng_ext ra h5'
              have rb5 := rng_ext rb h5'
              have hz5 := h5'.size
              refine wp_region_below_lit (by kernel_rfl) (by kernel_rfl) ?_
              repeat (first | go_big_quiet_skip | (go_big_quiet_want; go_big_quiet_op; go_big_quiet_on) | (refine q_load_mid (by rfl) _ _ (by rfl) (fun _ h => h) _ _ (by rfl) _ _ (by assumption) Try.underlying40 rfl (by kernel_rfl) ?_; (try simp only [Act.put, List.setIfInBounds_toArray, List.set_cons_zero, List.set_cons_succ])) | (refine Cmp.q_eqmv (by rfl) _ _ _ (by rfl) _ _ (by rfl) (by rfl) _ (by assumption) ?_; (try simp only [Act.put, List.setIfInBounds_toArray, List.set_cons_zero, List.set_cons_succ])) | (refine q_load_fld (by rfl) _ _ (by rfl) (fun _ h => h) _ _ (by rfl) ?_ ?_ ?_ ?_ ?_ ?_; rotate_left; (next => (repeat (first | (with_reducible refine BlkAt.new _ _ _ _ ?_; ((try simp) <;> omega)) | (with_reducible assumption) | (with_reducible refine Blk.at (t := ?_) ?_; rotate_left; with_reducible assumption) | with_reducible refine BlkAt.alloc ?_ _ | with_reducible refine BlkAt.drew ?_ | (with_reducible refine BlkAt.setSame ?_ _ _) | (with_reducible refine BlkAt.setCell ?_ ?_ _; rotate_left; ((try simp) <;> omega)) | (with_reducible refine BlkAt.ext (w := ?_) ?_ ?_; rotate_left 2; (with_reducible assumption)) | fail))); rotate_left; (next => first | (simp only [go_sem]; rfl) | rfl); (next => kernel_rfl); (try simp only [Act.put, List.setIfInBounds_toArray, List.set_cons_zero, List.set_cons_succ])) | (refine q_rem (by rfl) _ _ _ _ (by rfl) _ _ (by rfl) (by rfl) (by kernel_rfl) (by kernel_rfl) ?_ ?_; (next => omega); (try simp only [Act.put, List.setIfInBounds_toArray, List.set_cons_zero, List.set_cons_succ])) | (refine q_step_ex (by rfl) ?_; apply Exists.intro; refine ⟨fun W hW => ?_, ?_⟩; (next => (have hWc := fun (b o : Nat) (h : b < _) => (Ext.out hW).cell (p := ⟨b, o, none⟩) h); (try have hLK := HLK.out W (Ext.out hW)); go_simp; first | rfl | fail | fail); (try simp only [Act.put, List.setIfInBounds_toArray, List.set_cons_zero, List.set_cons_succ])) | fail)
              refine wpQuiet_nil ?_
              intro w6 hb6
              have h6 := below_ext h5' hb6
              go_wp2_with (first | (go_at_call 17; refine (C3.out w6 h6).mono ?_; rintro e w7 ⟨rfl, hb7⟩; have h7' := below_ext h6 hb7; obtain ⟨cs, hcs, hcz⟩ := (tk.ext h7').cs hN; have c2 := (tk.ext h7').c2 hN) | (refine wpList_store_fld (by rfl) _ _ _ (by rfl) _ _ (by rfl) _ (by rfl) _ _ hcs ?_ ?_ (by rfl) (by rfl) ?_; (next => first | omega | ((try simp) <;> omega)); (next => kernel_rfl); intro w8 hB8 hU8))
              go_roundw
              case rel => exact ⟨_, k, rfl, by omega, by omega, (tk.ext h7').putT hcs hi hk h2 hT2 hB8 hU8, below_upd (below_ext hbk h7') (Nat.le_refl _) hU8⟩
              case measure => simp [intOf]
            · have hT2 : Hid (T a b i k = r + 1) := Lib.hid (by rw [hT.out, e]; first | rfl | (simp; omega) | omega)
              replace e := Lib.hid e
              clear hT
              go_wp2_with (go_at_call 17; first | (refine (C2.out w4 hb4).mono ?_; rintro e w5 ⟨rfl, hb5⟩) | (refine C1.out.mono ?_; rintro e w4 ⟨rfl, hb4⟩))
              have h5' := below_ext hb4 hb5
              have ra5 := rng_ext ra h5'
              have rb5 := rng_ext rb h5'
              have hz5 := h5'.size
              refine wp_region_below_lit (by kernel_rfl) (by kernel_rfl) ?_
              repeat (first | go_big_quiet_skip | (go_big_quiet_want; go_big_quiet_op; go_big_quiet_on) | (refine q_load_mid (by rfl) _ _ (by rfl) (fun _ h => h) _ _ (by rfl) _ _ (by assumption) Try.underlying40 rfl (by kernel_rfl) ?_; (try simp only [Act.put, List.setIfInBounds_toArray, List.set_cons_zero, List.set_cons_succ])) | (refine Cmp.q_eqmv (by rfl) _ _ _ (by rfl) _ _ (by rfl) (by rfl) _ (by assumption) ?_; (try simp only [Act.put, List.setIfInBounds_toArray, List.set_cons_zero, List.set_cons_succ])) | (refine q_load_fld (by rfl) _ _ (by rfl) (fun _ h => h) _ _ (by rfl) ?_ ?_ ?_ ?_ ?_ ?_; rotate_left; (next => (repeat (first | (with_reducible refine BlkAt.new _ _ _ _ ?_; ((try simp) <;> omega)) | (with_reducible assumption) | (with_reducible refine Blk.at (t := ?_) ?_; rotate_left; with_reducible assumption) | with_reducible refine BlkAt.alloc ?_ _ | with_reducible refine BlkAt.drew ?_ | (with_reducible refine BlkAt.setSame ?_ _ _) | (with_reducible refine BlkAt.setCell ?_ ?_ _; rotate_left; ((try simp) <;> omega)) | (with_reducible refine BlkAt.ext (w := ?_) ?_ ?_; rotate_left 2; (with_reducible assumption)) | fail))); rotate_left; (next => first | (simp only [go_sem]; rfl) | rfl); (next => kernel_rfl); (try simp only [Act.put, List.setIfInBounds_toArray, List.set_cons_zero, List.set_cons_succ])) | (refine q_rem (by rfl) _ _ _ _ (by rfl) _ _ (by rfl) (by rfl) (by kernel_rfl) (by kernel_rfl) ?_ ?_; (next => omega); (try simp only [Act.put, List.setIfInBounds_toArray, List.set_cons_zero, List.set_cons_succ])) | (refine q_step_ex (by rfl) ?_; apply Exists.intro; refine ⟨fun W hW => ?_, ?_⟩; (next => (have hWc := fun (b o : Nat) (h : b < _) => (Ext.out hW).cell (p := ⟨b, o, none⟩) h); (try have hLK := HLK.out W (Ext.out hW)); go_simp; first | rfl | fail | fail); (try simp only [Act.put, List.setIfInBounds_toArray, List.set_cons_zero, List.set_cons_succ])) | fail)
              refine wpQuiet_nil ?_
              intro w6 hb6
              have h6 := below_ext h5' hb6
              go_wp2_with (first | (go_at_call 17; refine (C3.out w6 h6).mono ?_; rintro e w7 ⟨rfl, hb7⟩; have h7' := below_ext h6 hb7; obtain ⟨cs, hcs, hcz⟩ := (tk.ext h7').cs hN; have c2 := (tk.ext h7').c2 hN) | (refine wpList_store_fld (by rfl) _ _ _ (by rfl) _ _ (by rfl) _ (by rfl) _ _ hcs ?_ ?_ (by rfl) (by rfl) ?_; (next => first | omega | ((try simp) <;> omega)); (next => kernel_rfl); intro w8 hB8 hU8))
              go_roundw
              case rel => exact ⟨_, k, rfl, by omega, by omega, (tk.ext h7').putT hcs hi hk h2 hT2 hB8 hU8, below_upd (below_ext hbk h7') (Nat.le_refl _) hU8⟩
              case measure => simp [intOf]
theorem common_long (hca : (a.length : Int) ≤ 9223372036854775807) (hcb : (b.length : Int) ≤ 9223372036854775807) (h : 300 < a.length ∨ 300 < b.length) :
    Calls Try.prog 7 #[.slice A a.length ca, .slice B b.length cb] w fun e w' => e = .returned (.int .i64 (-1)) ∧ w' = w := by
  by_cases h1 : (300 : Int) < (a.length : Int)
  · clear h
    go_enter Try.func7, Try.ntmps7
    go_wp2_with fail
    go_ret
    exact ⟨rfl, rfl⟩
  · have h2 : (300 : Int) < (b.length : Int) := by omega
    clear h
    go_enter Try.func7, Try.ntmps7
    go_wp2_with fail
    go_ret
    exact ⟨rfl, rfl⟩
theorem common_any (hla : a.length ≤ 300) (hlb : b.length ≤ 300) (hA : Rd w 9 A (a.map Msg.cells)) (hB : Rd w 9 B (b.map Msg.cells)) :
    Calls Try.prog 7 #[.slice A a.length ca, .slice B b.length cb] w fun e w' => e = .returned (.int .i64 (lcs a b : Nat)) ∧ Below w.heap.size w w' := by
  have h1 : (a.length : Int) ≤ 300 := by omega
  have h2 : (b.length : Int) ≤ 300 := by omega
  have hc := Lib.hid (fill_any (ca := ca) (cb := cb) hla hlb hA hB)
  have hv : Hid (T a b 0 0 = lcs a b) := Lib.hid rfl
  go_enter Try.func7, Try.ntmps7
  go_wp2_with (first | (go_at_call 16; refine hc.out.mono ?_; rintro e w4 ⟨g, bt, rfl, t4, hg1, hg2, hb4⟩; have h4 := at_val t4 (I := 0) (K := 0) 0 0 _ hv rfl rfl (Nat.zero_le _) (Nat.zero_le _)) | (go_at_call 17; refine h4.mono ?_; rintro e w5 ⟨rfl, hb5⟩))
  go_ret
  exact ⟨rfl, below_ext hb4 hb5⟩
end
end Cmp
end Go.Proofs.Ytpopfjfmppmjdaa
