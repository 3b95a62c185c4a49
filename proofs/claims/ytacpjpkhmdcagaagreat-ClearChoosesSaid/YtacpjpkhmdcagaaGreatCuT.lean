/- This text proves that the curve of no book has no points. It has no conditions but those that it states. This text proves the contract of damperref16.Prices: the prices of the document's book in a band, rising, each once. It has no conditions but those that it states. This text proves what the curve's iterator hands over: its points, by prices rising. It has no conditions but those that it states. This text proves what curves without points hand over, and (*Curve).Prices of none. It has no conditions but those that it states. -/
import Derived.Test.YtacpjpkhmdcagaaGreatCuN
import Derived.Test.YtacpjpkhmdcagaaGreatRangeH
import Derived.OwnWalkIn
import Derived.TacticsInMore
import Derived.LoopNIn
import Derived.LoopIn
import Derived.Scope
namespace Go.Proofs.YtacpjpkhmdcagaaGreat
set_option linter.unusedVariables false
open Go.RowKit
namespace Cu
set_option maxHeartbeats 1000000
set_option maxRecDepth 10000
theorem each_nil {w : World} {i : Int} (bq bi : Nat) (hq : Blk w bq 27 #[.pointer none]) (hbi : Blk w bi 3 #[.int .i64 i]) (l : Nat) (W : World) (hW : Below w.heap.size w W) :
    Calls Tryz.prog 79 (#[.func (.yield l) #[] #[]] ++ #[.pointer (some ⟨bq, 0, none⟩), .pointer (some ⟨bi, 0, none⟩)]) W fun e W' => (∃ v, e = .returned v) ∧ Below W.heap.size W W' := by
  have hb0 : Below W.heap.size W (W.alloc (.cells #[.func (.yield l) #[] #[]] 165)) := by (repeat (first | with_reducible exact Below.refl _ _ | (with_reducible assumption) | (with_reducible refine below_alloc ?_ _) | (with_reducible refine below_ext (w1 := ?_) ?_ ?_; rotate_left 2; (with_reducible assumption)) | (with_reducible refine Below.setCell ?_ ?_ _; rotate_left; ((try simp) <;> omega)) | (with_reducible refine Below.drew ?_) | (with_reducible refine below_drewN ?_ _) | fail))
  have hW0 := below_ext hW hb0
  have cq : (W.alloc (.cells #[.func (.yield l) #[] #[]] 165)).cell? ⟨bq, 0, none⟩ = some (.pointer none) := (hq.ext hW0).cell 0
  have ci : (W.alloc (.cells #[.func (.yield l) #[] #[]] 165)).cell? ⟨bi, 0, none⟩ = some (.int .i64 i) := (hbi.ext hW0).cell 0
  have HO := Lib.hid (fun W => Bk.of_no (w := W) (p := none) i (.inl rfl))
  clear hq hbi hW0
  show Calls _ _ (#[.func (.yield l) #[] #[], .pointer (some ⟨bq, 0, none⟩), .pointer (some ⟨bi, 0, none⟩)]) _ _
  refine calls_of_wp_marks Tryz.func79 rfl ?_
  simp only [Tryz.ntmps79, List.size_toArray, List.length_cons, List.length_nil, Nat.reduceAdd, Nat.reduceSub, Array.replicate_succ, Array.replicate_zero, List.push_toArray, List.append_toArray, List.nil_append, List.cons_append]
  go_wp2_with fail
  refine wp_scope_straight ?_
  go_wp2_with (first | (go_at_call 45; refine (HO.out _).mono ?_; rintro e w1 ⟨rfl, rfl⟩) | fail)
  show bodyPostM Fence.wide 9 _ _ _ Exit.ret _ _
  exact bodyPostM_none rfl (results_none rfl _ _ _) ⟨⟨_, rfl⟩, by (repeat (first | with_reducible exact Below.refl _ _ | (with_reducible assumption) | (with_reducible refine below_alloc ?_ _) | (with_reducible refine below_ext (w1 := ?_) ?_ ?_; rotate_left 2; (with_reducible assumption)) | (with_reducible refine Below.setCell ?_ ?_ _; rotate_left; ((try simp) <;> omega)) | (with_reducible refine Below.drew ?_) | (with_reducible refine below_drewN ?_ _) | fail))⟩
theorem of_nil (w : World) : Calls Tryz.prog 27 #[.pointer none] w (OfPost w []) :=
  of_gen none [] (fun o h => by cases h) (Nat.zero_le _) (fun W mb hW h1 h2 j hj bq bi hq hi l J Jx W1 hW1 hJ hJx hY h0 => (each_nil bq bi hq hi l W1 hW1).mono fun e W' h => ⟨h.1, .inl ⟨[], by
    show ([] : List Ord) = Bk.srt (j : Int) []
    rfl, hJ [] W1 W' none h0 (Idx.grown_of h.2) (fun r e => by cases e)⟩⟩)
end Cu
end Go.Proofs.YtacpjpkhmdcagaaGreat
namespace Go.Proofs.YtacpjpkhmdcagaaGreat
set_option linter.unusedVariables false
open Go.RowKit
namespace Cu
set_option maxHeartbeats 4000000
set_option maxRecDepth 10000
open Rk (Rb wp_calm owns_mono)
def ic (p : Int) : List Value := [.int .i64 p]
theorem int_ok (l : List Int) : ∀ r ∈ l.map ic, r.length = 1 ∧ ∀ u ∈ r, u.oneCell' = true := by
  intro r hr
  obtain ⟨x, _, rfl⟩ := List.mem_map.1 hr
  exact ⟨rfl, fun u hu => by simp [ic] at hu; rcases hu with rfl; rfl⟩
theorem ic_flat : ∀ l : List Int, (l.map ic).flatten = l.map fun i => Value.int .i64 i
  | [] => rfl
  | a :: l => by rw [List.map_cons, List.flatten_cons, ic_flat l]; rfl
theorem owns_i {w : World} {B : Nat} {v : Value} {l : List Int} (h : w.ownsRow B 2 1 v l.length (l.map fun i => .int .i64 i)) : ∃ A cap, v = .slice A l.length cap ∧ Rd w 1 A (l.map ic) ∧ l.length ≤ cap ∧ (A = none → cap = 0) ∧ ∀ a, A = some a → B ≤ a.block ∧ a.block < w.heap.size := by
  rcases h.2 with ⟨rfl, h0⟩ | ⟨g, cap, cur, rfl, hb, hg, hc, _, _, ht⟩
  · rw [h0]
    have : l = [] := List.eq_nil_of_length_eq_zero h0
    subst this
    exact ⟨none, 0, rfl, fun hne => absurd rfl hne, Nat.le_refl _, fun _ => rfl, fun a e => by cases e⟩
  · refine ⟨some ⟨g, 0, none⟩, cap, rfl, rd_own (show Blk w g 2 cur from hg) (n := l.length) (fun r hr => (int_ok l r hr).1) ?_, hc, (fun e => by cases e), fun a e => ?_⟩
    · rw [ht, ic_flat]
    · cases e
      exact ⟨hb, heap_lt hg⟩
theorem owned_insI {W : World} {B : Nat} {v : Value} {M1 M2 : List Int} {p : Int} {t N : Nat} (h : W.ownsRow B 2 1 v (0 + t + 1 + (N - t)) (([] ++ (M1.map ic).flatten) ++ [ic p].flatten ++ (M2.map ic).flatten)) (h1 : M1.length = t) (h2 : M2.length = N - t) : W.ownsRow B 2 1 v (M1 ++ p :: M2).length ((M1 ++ p :: M2).map fun i => .int .i64 i) := by
  have e1 : (M1 ++ p :: M2).length = 0 + t + 1 + (N - t) := by simp [h1, h2]; omega
  have e2 : ((M1 ++ p :: M2).map fun i => Value.int .i64 i) = ([] ++ (M1.map ic).flatten) ++ [ic p].flatten ++ (M2.map ic).flatten := by rw [ic_flat, ic_flat]; simp [ic]
  rw [e1, e2]
  exact h
theorem cut_head (A : Option Addr) (len cap k : Nat) (hk : k ≤ cap) (hn : A = none → cap = 0) : ∃ (A' : Option Addr), (A' = none → cap = 0) ∧ (∀ (W : World) (l m : List Int), Rd W 1 A ((l ++ m).map ic) → Rd W 1 A' (l.map ic)) ∧ ∀ W, (Instr.sliceAt 48 (.slice A len cap) none (some (.int .i64 k)) none).run Tryz.prog W = .ok (.slice A' k cap) W := by
  have ht : Tryz.prog.underlying 48 = some (.slice (Tryz.prog.elem 48)) := by kernel_rfl
  have he : Tryz.prog.elem 48 = 2 := by kernel_rfl
  obtain ⟨i, hi, hz, hs, hby⟩ := info_parts (P := Tryz.prog) (e := 2) (z := .int .i64 0) (size := 1) (bytes := 8) (by kernel_rfl)
  refine ⟨A, hn, fun W l m h hne => ?_, fun W => ?_⟩
  · obtain ⟨b1, o1, e1, hc⟩ := h (by intro h0; apply hne; simp at h0; simp [h0.1])
    refine ⟨b1, o1, e1, fun i j u hu => hc i j u ?_⟩
    by_cases hi : i < l.length
    · rw [List.map_append, List.getD_eq_getElem?_getD, List.getElem?_append_left (by simpa using hi), ← List.getD_eq_getElem?_getD]
      exact hu
    · rw [List.getD_eq_getElem?_getD, List.getElem?_eq_none (l := l.map ic) (i := i) (by simpa using hi)] at hu
      simp at hu
  · rw [run_sliceAt_slice (h := ht), run_slice_h (ht := ht) (kh := .i64) (h := (k : Int)) (cap := cap) (h0 := by omega) (h2 := by omega), he]
    simp only [sizeOf, typeInfo, Sem.run_bind]
    simp [hi, sliced]
    intro _
    cases A with
    | none => rfl
    | some a =>
      obtain ⟨b, o, x⟩ := a
      simp [Addr.add]
theorem cut_tail (A : Option Addr) (len cap k : Nat) (hk : k ≤ len) (hf : len ≤ cap) (hn : A = none → cap = 0) : ∃ (A' : Option Addr), (A' = none → cap - k = 0) ∧ (∀ (W : World) (l m : List Int), l.length = k → (l ++ m).length = len → Rd W 1 A ((l ++ m).map ic) → Rd W 1 A' (m.map ic)) ∧ ∀ W, (Instr.sliceAt 48 (.slice A len cap) (some (.int .i64 k)) none none).run Tryz.prog W = .ok (.slice A' (len - k) (cap - k)) W := by
  have ht : Tryz.prog.underlying 48 = some (.slice (Tryz.prog.elem 48)) := by kernel_rfl
  have he : Tryz.prog.elem 48 = 2 := by kernel_rfl
  obtain ⟨i, hi, hz, hs, hby⟩ := info_parts (P := Tryz.prog) (e := 2) (z := .int .i64 0) (size := 1) (bytes := 8) (by kernel_rfl)
  refine ⟨if cap = k then A else A.map (·.add (k * 1)), ?_, fun W l m hl hlm h hne => ?_, fun W => ?_⟩
  · intro h
    by_cases e : cap = k
    · omega
    · rw [if_neg e] at h
      have := hn (by simpa using h)
      omega
  · by_cases e : cap = k
    · have h0 : m = [] := by
        apply List.eq_nil_of_length_eq_zero
        simp at hlm
        omega
      subst h0
      exact absurd rfl hne
    · rw [if_neg e]
      obtain ⟨b1, o1, rfl, hc⟩ := h (by intro h0; apply hne; simp at h0; simp [h0.2])
      refine ⟨b1, o1 + k * 1, by simp [Addr.add], fun i j u hu => ?_⟩
      have h1 := hc (k + i) j u (by
        rw [List.map_append, List.getD_eq_getElem?_getD, List.getElem?_append_right (by simp; omega)]
        rw [List.getD_eq_getElem?_getD] at hu
        simpa [hl] using hu)
      rw [← h1]
      congr 2
      omega
  · rw [run_sliceAt_slice (h := ht), run_slice_l (ht := ht) (kl := .i64) (l := (k : Int)) (len := len) (h0 := by omega) (h1 := by omega), he]
    simp only [sizeOf, typeInfo, Sem.run_bind]
    simp [hi, sliced, hs]
/-! ### the prices in a band -/
structure In (lo hi : Int) (os : List Ord) (l : List Int) : Prop where
  up : l.Pairwise (· < ·)
  mem : ∀ p, p ∈ l ↔ ∃ o ∈ os, o.price = p ∧ lo ≤ p ∧ p ≤ hi
theorem In.nil {lo hi : Int} : In lo hi [] [] := ⟨List.Pairwise.nil, fun p => by simp⟩
theorem In.skip {lo hi : Int} {os : List Ord} {l : List Int} {o : Ord} (h : In lo hi os l) (hn : ¬ (lo ≤ o.price ∧ o.price ≤ hi)) : In lo hi (os ++ [o]) l := by
  refine ⟨h.up, fun p => (h.mem p).trans ⟨fun ⟨x, h1, h2⟩ => ⟨x, List.mem_append_left _ h1, h2⟩, fun ⟨x, h1, h2, h3⟩ => ?_⟩⟩
  rcases List.mem_append.1 h1 with h4 | h4
  · exact ⟨x, h4, h2, h3⟩
  · rw [List.mem_singleton.1 h4] at h2
    subst h2
    exact absurd h3 hn
theorem In.same {lo hi : Int} {os : List Ord} {l : List Int} {o : Ord} (h : In lo hi os l) (hm : o.price ∈ l) : In lo hi (os ++ [o]) l := by
  refine ⟨h.up, fun p => ⟨fun hp => ?_, fun ⟨x, h1, h2, h3⟩ => ?_⟩⟩
  · obtain ⟨x, h1, h2⟩ := (h.mem p).1 hp
    exact ⟨x, List.mem_append_left _ h1, h2⟩
  · rcases List.mem_append.1 h1 with h4 | h4
    · exact (h.mem p).2 ⟨x, h4, h2, h3⟩
    · rw [List.mem_singleton.1 h4] at h2
      subst h2
      exact hm
theorem In.put {lo hi : Int} {os : List Ord} {l : List Int} {o : Ord} {t : Nat} (h : In lo hi os l) (hn : lo ≤ o.price ∧ o.price ≤ hi) (h1 : ∀ j (h : j < l.length), j < t → l[j] < o.price) (h2 : ∀ h : t < l.length, o.price < l[t]) : In lo hi (os ++ [o]) (l.take t ++ o.price :: l.drop t) := by
  have hlo : ∀ x ∈ l.take t, x < o.price := fun x hx => by
    obtain ⟨j, hj, rfl⟩ := List.getElem_of_mem hx
    rw [List.getElem_take]
    rw [List.length_take] at hj
    exact h1 j (by omega) (by omega)
  have hhi : ∀ x ∈ l.drop t, o.price < x := fun x hx => by
    obtain ⟨j, hj, rfl⟩ := List.getElem_of_mem hx
    rw [List.length_drop] at hj
    rw [List.getElem_drop]
    have h3 := h2 (by omega)
    cases j with
    | zero => exact h3
    | succ j =>
      have := List.pairwise_iff_getElem.1 h.up t (t + (j + 1)) (by omega) (by omega) (by omega)
      omega
  refine ⟨?_, fun p => ?_⟩
  · rw [List.pairwise_append]
    refine ⟨h.up.sublist (List.take_sublist _ _), ?_, ?_⟩
    · rw [List.pairwise_cons]
      exact ⟨hhi, h.up.sublist (List.drop_sublist _ _)⟩
    · intro x hx y hy
      have := hlo x hx
      rcases List.mem_cons.1 hy with rfl | hy
      · exact this
      · have := hhi y hy
        omega
  · have e : p ∈ l.take t ++ o.price :: l.drop t ↔ p ∈ l ∨ p = o.price := by
      conv => rhs; rw [← List.take_append_drop t l]
      simp only [List.mem_append, List.mem_cons]
      constructor
      · rintro (h | h | h)
        · exact .inl (.inl h)
        · exact .inr h
        · exact .inl (.inr h)
      · rintro ((h | h) | h)
        · exact .inl h
        · exact .inr (.inr h)
        · exact .inr (.inl h)
    rw [e, h.mem p]
    constructor
    · rintro (⟨x, k1, k2⟩ | rfl)
      · exact ⟨x, List.mem_append_left _ k1, k2⟩
      · exact ⟨o, List.mem_append_right _ (List.mem_singleton_self _), rfl, hn⟩
    · rintro ⟨x, k1, k2, k3⟩
      rcases List.mem_append.1 k1 with h4 | h4
      · exact .inl ⟨x, h4, k2, k3⟩
      · rw [List.mem_singleton.1 h4] at k2
        exact .inr k2.symm
theorem cutP (p : Int) : ∀ l : List Int, ∃ t, t ≤ l.length ∧ (∀ j (h : j < l.length), j < t → l[j] < p) ∧ (∀ h : t < l.length, p ≤ l[t])
  | [] => ⟨0, Nat.le_refl _, fun j h => by simp at h, fun h => by simp at h⟩
  | x :: l => by
    by_cases e : x < p
    · obtain ⟨t, h1, h2, h3⟩ := cutP p l
      refine ⟨t + 1, by simpa using h1, fun j hj hjt => ?_, fun h => by simpa using h3 (by simpa using h)⟩
      cases j with
      | zero => exact e
      | succ j => simpa using h2 j (by simpa using hj) (by omega)
    · exact ⟨0, Nat.zero_le _, fun j h h0 => by omega, fun h => by simp only [List.getElem_cons_zero]; omega⟩
section
variable {w : World} {rb N most : Nat} {L : List Ord} {A : Option Addr} {cap : Nat}
theorem rprices_any (q : Rb w rb (N : Int) (most : Int) L A cap) (lo hi : Int) : Calls Tryz.prog 40 #[.pointer (some ⟨rb, 0, none⟩), .int .i64 lo, .int .i64 hi] w fun e w' => (∃ v l, e = .returned v ∧ w'.ownsRow w.heap.size 2 1 v l.length (l.map fun i => .int .i64 i) ∧ In lo hi L l ∧ l.length ≤ L.length) ∧ Below w.heap.size w w' := by
  have hlen := q.len
  have hrl := q.hd.lt
  go_enter Tryz.func40, Tryz.ntmps40
  go_wp2_with fail
  go_loopw [7, 8] (fun v i wr => ∃ (k : Nat) (vv : Value) (M : List Int), v = vv ∧ i = .int .i64 k ∧ k ≤ L.length ∧ wr.ownsRow w.heap.size 2 1 vv M.length (M.map fun i => .int .i64 i) ∧ Hid (In lo hi (L.take k) M) ∧ M.length ≤ k ∧ Below w.heap.size w wr) (fun _ i _ => L.length - (intOf i).toNat)
  case atStart => exact ⟨0, _, [], rfl, rfl, Nat.zero_le _, World.ownsRow_nil _ _ _ _, Lib.hid In.nil, Nat.zero_le _, Below.refl _ _⟩
  case round =>
    obtain ⟨k, vv, M, rfl, rfl, hk, hown, HI, hMk, hb⟩ := hrel
    have qr := q.ext hb
    have c0 : wr.cell? ⟨rb, 2, none⟩ = some (.slice A L.length cap) := qr.hd.cell 2
    have hll : M.length ≤ 1000 := by omega
    have hz0 := hb.size
    by_cases hlt : k < L.length
    · have e1 : (k : Int) < (L.length : Int) := by omega
      obtain ⟨b, o, rfl, hrg⟩ := qr.at hlt
      have h1 : wr.cell? ⟨b, o + k * 7 + 3, none⟩ = some (.int .i64 L[k].price) := hrg 3 _ rfl
      have HT : Hid (L.take (k + 1) = L.take k ++ [L[k]]) := Lib.hid (List.take_succ_eq_append_getElem hlt)
      generalize L[k] = x at *
      obtain ⟨p, hp⟩ : ∃ p, p = x.price := ⟨_, rfl⟩
      rw [← hp] at h1
      have HP := Lib.hid hp
      obtain ⟨A0, cap1, rfl, hrd, hfit, hnil, hfar⟩ := owns_i hown
      have HOWN := Lib.hid hown
      obtain ⟨t, ht1, ht2, ht3⟩ := cutP p M
      have HT2 := Lib.hid ht2
      have HT3 := Lib.hid ht3
      clear hown hp
      go_wp2_with fail
      obtain ⟨wo, hwo⟩ : ∃ W, W = wr := ⟨_, rfl⟩
      subst hwo
      go_loopw [10] (fun j wj => ∃ m : Nat, j = .int .i64 m ∧ m ≤ t ∧ wj = wo) (fun j _ => t + 1 - (intOf j).toNat)
      case atStart => exact ⟨0, rfl, Nat.zero_le _, by first | rfl | trivial⟩
      case round =>
        obtain ⟨m, rfl, hm, rfl⟩ := hrel
        by_cases hmt : m < t
        · have hmM : m < M.length := by omega
          obtain ⟨b1, o1, rfl, hc1⟩ := hrd.at hmM
          have hi1 : wr.cell? ⟨b1, o1 + m * 1, none⟩ = some (.int .i64 M[m]) := hc1 0 _ rfl
          rw [Nat.mul_one] at hi1
          have e2 : (m : Int) < (M.length : Int) := by omega
          have e3 := ht2 m hmM hmt
          clear hc1
          go_wp2_with fail
          go_roundw
          case rel => exact ⟨m + 1, by go_num, by omega, by first | rfl | trivial⟩
          case measure => simp [intOf]; omega
        · obtain rfl : m = t := by omega
          rcases Nat.lt_or_ge m M.length with hmM | hmM
          · obtain ⟨b1, o1, rfl, hc1⟩ := hrd.at hmM
            have hi1 : wr.cell? ⟨b1, o1 + m * 1, none⟩ = some (.int .i64 M[m]) := hc1 0 _ rfl
            rw [Nat.mul_one] at hi1
            have e2 : (m : Int) < (M.length : Int) := by omega
            have e3 := ht3 hmM
            have HMM := Lib.hid hmM
            obtain ⟨z, hz⟩ : ∃ z, z = M[m]'hmM := ⟨_, rfl⟩
            rw [← hz] at hi1 e3
            have HZ := Lib.hid hz
            clear hc1 hz ht3
            by_cases hlo : lo ≤ p
            · by_cases hhi : p ≤ hi
              · have HB : Hid (lo ≤ p ∧ p ≤ hi) := Lib.hid ⟨hlo, hhi⟩
                by_cases hpz : p = z
                · have HS : Hid (In lo hi (L.take k ++ [x]) M) := Lib.hid (HI.out.same (by rw [← HP.out, hpz, HZ.out]; exact List.getElem_mem hmM))
                  subst hpz
                  go_wp2_with fail
                  go_roundw
                  case rel => exact ⟨k + 1, _, M, rfl, by go_num, by omega, HOWN.out, Lib.hid (by rw [HT.out]; exact HS.out), by omega, hb⟩
                  case measure => simp [intOf]; omega
                · have e4 : ¬ z < p := by omega
                  have HN : Hid (In lo hi (L.take (k + 1)) (M.take m ++ p :: M.drop m)) := Lib.hid (by rw [HT.out]; have := HI.out.put (o := x) (t := m) (by rw [← HP.out]; exact HB.out) (by rw [← HP.out]; exact HT2.out) (by rw [← HP.out]; intro h; rw [← HZ.out]; omega); rwa [← HP.out] at this)
                  have e5 : (z == p) = false := by simp; omega
                  have e6 : (z != p) = true := by simp; omega
                  have e7 : ¬ z = p := by omega
                  have e8 : ((m : Int) == (M.length : Int)) = false := by simp; omega
                  have e9 : decide (z < p) = false := decide_eq_false e4
                  go_wp2_with fail
                  obtain ⟨AA1, hn1', hr1, hs1'⟩ := cut_head (some ⟨b1, o1, none⟩) M.length cap1 m (by omega) hnil
                  obtain ⟨AA2, hn2', hr2, hs2'⟩ := cut_tail (some ⟨b1, o1, none⟩) M.length cap1 m (by omega) hfit hnil
                  obtain ⟨A1, hA1⟩ : ∃ x, x = AA1 := ⟨_, rfl⟩
                  obtain ⟨A2, hA2⟩ : ∃ x, x = AA2 := ⟨_, rfl⟩
                  rw [← hA1] at hn1' hr1 hs1'
                  rw [← hA2] at hn2' hr2 hs2'
                  have hn1 := hn1'
                  have hn2 := hn2'
                  have hs1 := Lib.hid hs1'
                  have hs2 := Lib.hid hs2'
                  have hl1 : (M.take m).length = m := by simp; omega
                  have hl2 : (M.drop m).length = M.length - m := by simp
                  have hbd : Below wr.heap.size wr wr.drew := (Below.refl _ _).drew
                  have hzd : wr.drew.heap.size = wr.heap.size := rfl
                  refine wp_region_T (S := fun _ => True ∧ True) 12 (by kernel_rfl) ?_
                  generalize wr.drew = w1 at hbd hzd ⊢
                  have hbw : Below w.heap.size w w1 := hb.trans (hbd.mono hz0)
                  have hwz1 : w.heap.size ≤ w1.heap.size := hbw.size
                  have HR1 : Hid (∀ W, Below w1.heap.size w1 W → Rd W 1 A1 ((M.take m).map ic)) := Lib.hid (fun W hW => hr1 W (M.take m) (M.drop m) (by rw [List.take_append_drop]; exact (hrd.below hbd).below hW))
                  have HR2 : Hid (∀ W, Below w1.heap.size w1 W → Rd W 1 A2 ((M.drop m).map ic)) := Lib.hid (fun W hW => hr2 W (M.take m) (M.drop m) hl1 (by rw [List.take_append_drop]) (by rw [List.take_append_drop]; exact (hrd.below hbd).below hW))
                  have hbw1 : Below w1.heap.size w1 w1 := Below.refl _ _
                  have hzw1 : w1.heap.size ≤ w1.heap.size := Nat.le_refl _
                  clear hs1' hs2' hr1 hr2 hrg c0 h1 qr HOWN hA1 hA2 hn1' hn2' ht2
                  have hl0 := hll
                  have hlk := hMk
                  generalize M.take m = M1 at *
                  generalize M.drop m = M2 at *
                  have hS : True ∧ True := ⟨trivial, trivial⟩
                  (refine T_take (i := 1) rfl (by kernel_rfl) (fun _ _ _ _ h => h) hS ?_; apply Exists.intro; refine ⟨.inl ⟨by rfl, fun W hW => ?_⟩, ?_⟩; (next => (obtain ⟨hs1, hs2⟩ := hW; go_simp; first | done | rfl)); simp only [Act.put, List.setIfInBounds_toArray, List.set_cons_zero, List.set_cons_succ])
                  (refine T_take (i := 2) rfl (by kernel_rfl) (fun _ _ _ _ h => h) hS ?_; apply Exists.intro; refine ⟨.inl ⟨by rfl, fun W hW => ?_⟩, ?_⟩; (next => (obtain ⟨hs1, hs2⟩ := hW; go_simp; first | done | rfl)); simp only [Act.put, List.setIfInBounds_toArray, List.set_cons_zero, List.set_cons_succ])
                  (refine T_take (i := 5) rfl (by kernel_rfl) (fun _ _ _ _ h => h) hS ?_; apply Exists.intro; refine ⟨.inl ⟨by rfl, fun W hW => ?_⟩, ?_⟩; (next => (obtain ⟨hs1, hs2⟩ := hW; go_simp; first | done | rfl)); simp only [Act.put, List.setIfInBounds_toArray, List.set_cons_zero, List.set_cons_succ])
                  (refine T_take (i := 8) rfl (by kernel_rfl) (fun _ _ _ _ h => h) hS ?_; apply Exists.intro; refine ⟨.inl ⟨by rfl, fun W hW => ?_⟩, ?_⟩; (next => (obtain ⟨hs1, hs2⟩ := hW; go_simp; first | done | rfl)); simp only [Act.put, List.setIfInBounds_toArray, List.set_cons_zero, List.set_cons_succ])
                  (refine T_take (i := 9) rfl (by kernel_rfl) (fun _ _ _ _ h => h) hS ?_; apply Exists.intro; refine ⟨.inl ⟨by rfl, fun W hW => ?_⟩, ?_⟩; (next => (obtain ⟨hs1, hs2⟩ := hW; go_simp; first | done | rfl)); simp only [Act.put, List.setIfInBounds_toArray, List.set_cons_zero, List.set_cons_succ])
                  (refine T_take (i := 3) rfl (by kernel_rfl) (fun _ _ _ _ h => h) hS ?_; refine ⟨_, y_slice _ _ _ _ _ (by rfl) (by rfl) (fun W _ => hs1.out W), ?_⟩; simp only [Act.put, List.setIfInBounds_toArray, List.set_cons_zero, List.set_cons_succ])
                  (refine T_take (i := 10) rfl (by kernel_rfl) (fun _ _ _ _ h => h) hS ?_; refine ⟨_, y_slice _ _ _ _ _ (by rfl) (by rfl) (fun W _ => hs2.out W), ?_⟩; simp only [Act.put, List.setIfInBounds_toArray, List.set_cons_zero, List.set_cons_succ])
                  refine T_all [0, 6] (by kernel_rfl) (by decide) ?_
                  intro j hj
                  simp only [List.mem_cons, or_false, List.not_mem_nil] at hj
                  rcases hj with rfl | rfl
                  · refine T_op rfl (by rfl) ?_
                    refine wp_build0 _ 2 (by rfl) 1 Tryz.underlying48 (by kernel_rfl) w1.heap.size hzw1 ?_
                    intro w2 how2 hsw2 hqw2
                    have hbw2 : Below w1.heap.size w1 w2 := hbw1.trans (hsw2.mono hzw1)
                    have hzw2 : w1.heap.size ≤ w2.heap.size := hbw2.size
                    refine ⟨.inr ⟨trivial, trivial⟩, ?_⟩
                    simp only [Act.put, List.setIfInBounds_toArray, List.set_cons_zero, List.set_cons_succ]
                    refine T_all [4, 6] (by kernel_rfl) (by decide) ?_
                    intro j hj
                    simp only [List.mem_cons, or_false, List.not_mem_nil] at hj
                    rcases hj with rfl | rfl
                    · refine T_op rfl (by rfl) ?_
                      refine wp_append_rd _ _ _ (by rfl) w1.heap.size 2 (.int .i64 0) 1 8 Tryz.underlying48 (by kernel_rfl) ⟨rfl, by decide⟩ _ 0 [] (by rfl) how2 A1 m cap1 (M1.map ic) (by rfl) (HR1.out _ hbw2) ⟨by rw [List.length_map, hl1], int_ok _⟩ hn1 ⟨by unfold maxLen; omega, by omega⟩ hzw2 ?_
                      intro v3 w3 how3 hsw3 hqw3 hkw3
                      have hbw3 : Below w1.heap.size w1 w3 := hbw2.trans (hsw3)
                      have hzw3 : w1.heap.size ≤ w3.heap.size := hbw3.size
                      refine ⟨.inr ⟨trivial, trivial⟩, ?_⟩
                      simp only [Act.put, List.setIfInBounds_toArray, List.set_cons_zero, List.set_cons_succ]
                      refine T_all [6] (by kernel_rfl) (by decide) ?_
                      intro j hj
                      simp only [List.mem_cons, or_false, List.not_mem_nil] at hj
                      subst hj
                      refine T_op rfl (by rfl) ?_
                      refine wp_build1 _ 2 _ (by rfl) (.int .i64 0) 1 Tryz.underlying48 (by kernel_rfl) ⟨by decide, by decide⟩ (.int .i64 p) (by rfl) #[.int .i64 p] (by kernel_rfl) ?_
                      intro w4 hXw4 hsw4 hqw4
                      have hbw4 : Below w1.heap.size w1 w4 := hbw3.trans (hsw4.mono hzw3)
                      have hzw4 : w1.heap.size ≤ w4.heap.size := hbw4.size
                      refine ⟨.inr ⟨trivial, trivial⟩, ?_⟩
                      simp only [Act.put, List.setIfInBounds_toArray, List.set_cons_zero, List.set_cons_succ]
                      have how4 := owns_ext how3 hsw4
                      refine T_all [7] (by kernel_rfl) (by decide) ?_
                      intro j hj
                      simp only [List.mem_cons, or_false, List.not_mem_nil] at hj
                      subst hj
                      refine T_op rfl (by rfl) ?_
                      refine wp_append_rd _ _ _ (by rfl) w1.heap.size 2 (.int .i64 0) 1 8 Tryz.underlying48 (by kernel_rfl) ⟨rfl, by decide⟩ v3 (0 + m) _ (by rfl) how4 (some ⟨w3.heap.size, 0, none⟩) 1 1 [ic p] (by rfl) (rd_own hXw4 (by simp [ic]) (n := 1) (by simp [ic])) ⟨rfl, by simp [ic, Value.oneCell']⟩ (fun e => by cases e) ⟨by unfold maxLen; omega, by omega⟩ hzw4 ?_
                      intro v5 w5 how5 hsw5 hqw5 hkw5
                      have hbw5 : Below w1.heap.size w1 w5 := hbw4.trans (hsw5)
                      have hzw5 : w1.heap.size ≤ w5.heap.size := hbw5.size
                      refine ⟨.inr ⟨trivial, trivial⟩, ?_⟩
                      simp only [Act.put, List.setIfInBounds_toArray, List.set_cons_zero, List.set_cons_succ]
                      refine T_all [11] (by kernel_rfl) (by decide) ?_
                      intro j hj
                      simp only [List.mem_cons, or_false, List.not_mem_nil] at hj
                      subst hj
                      refine T_op rfl (by rfl) ?_
                      refine wp_append_rd _ _ _ (by rfl) w1.heap.size 2 (.int .i64 0) 1 8 Tryz.underlying48 (by kernel_rfl) ⟨rfl, by decide⟩ v5 (0 + m + 1) _ (by rfl) how5 A2 (M.length - m) (cap1 - m) (M2.map ic) (by rfl) (HR2.out _ hbw5) ⟨by rw [List.length_map, hl2], int_ok _⟩ hn2 ⟨by unfold maxLen; omega, by omega⟩ hzw5 ?_
                      intro v6 w6 how6 hsw6 hqw6 hkw6
                      have hbw6 : Below w1.heap.size w1 w6 := hbw5.trans (hsw6)
                      have hzw6 : w1.heap.size ≤ w6.heap.size := hbw6.size
                      refine ⟨.inr ⟨trivial, trivial⟩, ?_⟩
                      simp only [Act.put, List.setIfInBounds_toArray, List.set_cons_zero, List.set_cons_succ]
                      refine T_all [12] (by kernel_rfl) (by decide) ?_
                      intro j hj
                      simp only [List.mem_cons, or_false, List.not_mem_nil] at hj
                      subst hj
                      refine T_op rfl (by rfl) (wp_calm (v := v6) (by go_simp; first | done | rfl) ⟨.inl rfl, ?_⟩)
                      simp only [Act.put, List.setIfInBounds_toArray, List.set_cons_zero, List.set_cons_succ]
                      refine T_done (by kernel_rfl) ?_
                      go_wp2_with fail
                      go_roundw
                      case rel => exact ⟨k + 1, _, M1 ++ p :: M2, rfl, by go_num, by omega, owns_mono (owned_insI how6 hl1 hl2) hwz1, HN, by simp; omega, hbw.trans (hbw6.mono hwz1)⟩
                      case measure => simp [intOf]; omega
                    · refine T_op rfl (by rfl) ?_
                      refine wp_build1 _ 2 _ (by rfl) (.int .i64 0) 1 Tryz.underlying48 (by kernel_rfl) ⟨by decide, by decide⟩ (.int .i64 p) (by rfl) #[.int .i64 p] (by kernel_rfl) ?_
                      intro w3 hXw3 hsw3 hqw3
                      have hbw3 : Below w1.heap.size w1 w3 := hbw2.trans (hsw3.mono hzw2)
                      have hzw3 : w1.heap.size ≤ w3.heap.size := hbw3.size
                      refine ⟨.inr ⟨trivial, trivial⟩, ?_⟩
                      simp only [Act.put, List.setIfInBounds_toArray, List.set_cons_zero, List.set_cons_succ]
                      have how3 := owns_ext how2 hsw3
                      refine T_all [4] (by kernel_rfl) (by decide) ?_
                      intro j hj
                      simp only [List.mem_cons, or_false, List.not_mem_nil] at hj
                      subst hj
                      refine T_op rfl (by rfl) ?_
                      refine wp_append_rd _ _ _ (by rfl) w1.heap.size 2 (.int .i64 0) 1 8 Tryz.underlying48 (by kernel_rfl) ⟨rfl, by decide⟩ _ 0 [] (by rfl) how3 A1 m cap1 (M1.map ic) (by rfl) (HR1.out _ hbw3) ⟨by rw [List.length_map, hl1], int_ok _⟩ hn1 ⟨by unfold maxLen; omega, by omega⟩ hzw3 ?_
                      intro v4 w4 how4 hsw4 hqw4 hkw4
                      have hbw4 : Below w1.heap.size w1 w4 := hbw3.trans (hsw4)
                      have hzw4 : w1.heap.size ≤ w4.heap.size := hbw4.size
                      refine ⟨.inr ⟨trivial, trivial⟩, ?_⟩
                      simp only [Act.put, List.setIfInBounds_toArray, List.set_cons_zero, List.set_cons_succ]
                      have hXw4 : Blk w4 w2.heap.size 2 _ := (hkw4 _ (by have := hXw3.lt; omega) (fun e => by simp [Value.ownBlock] at e; omega)).trans hXw3
                      refine T_all [7] (by kernel_rfl) (by decide) ?_
                      intro j hj
                      simp only [List.mem_cons, or_false, List.not_mem_nil] at hj
                      subst hj
                      refine T_op rfl (by rfl) ?_
                      refine wp_append_rd _ _ _ (by rfl) w1.heap.size 2 (.int .i64 0) 1 8 Tryz.underlying48 (by kernel_rfl) ⟨rfl, by decide⟩ v4 (0 + m) _ (by rfl) how4 (some ⟨w2.heap.size, 0, none⟩) 1 1 [ic p] (by rfl) (rd_own hXw4 (by simp [ic]) (n := 1) (by simp [ic])) ⟨rfl, by simp [ic, Value.oneCell']⟩ (fun e => by cases e) ⟨by unfold maxLen; omega, by omega⟩ hzw4 ?_
                      intro v5 w5 how5 hsw5 hqw5 hkw5
                      have hbw5 : Below w1.heap.size w1 w5 := hbw4.trans (hsw5)
                      have hzw5 : w1.heap.size ≤ w5.heap.size := hbw5.size
                      refine ⟨.inr ⟨trivial, trivial⟩, ?_⟩
                      simp only [Act.put, List.setIfInBounds_toArray, List.set_cons_zero, List.set_cons_succ]
                      refine T_all [11] (by kernel_rfl) (by decide) ?_
                      intro j hj
                      simp only [List.mem_cons, or_false, List.not_mem_nil] at hj
                      subst hj
                      refine T_op rfl (by rfl) ?_
                      refine wp_append_rd _ _ _ (by rfl) w1.heap.size 2 (.int .i64 0) 1 8 Tryz.underlying48 (by kernel_rfl) ⟨rfl, by decide⟩ v5 (0 + m + 1) _ (by rfl) how5 A2 (M.length - m) (cap1 - m) (M2.map ic) (by rfl) (HR2.out _ hbw5) ⟨by rw [List.length_map, hl2], int_ok _⟩ hn2 ⟨by unfold maxLen; omega, by omega⟩ hzw5 ?_
                      intro v6 w6 how6 hsw6 hqw6 hkw6
                      have hbw6 : Below w1.heap.size w1 w6 := hbw5.trans (hsw6)
                      have hzw6 : w1.heap.size ≤ w6.heap.size := hbw6.size
                      refine ⟨.inr ⟨trivial, trivial⟩, ?_⟩
                      simp only [Act.put, List.setIfInBounds_toArray, List.set_cons_zero, List.set_cons_succ]
                      refine T_all [12] (by kernel_rfl) (by decide) ?_
                      intro j hj
                      simp only [List.mem_cons, or_false, List.not_mem_nil] at hj
                      subst hj
                      refine T_op rfl (by rfl) (wp_calm (v := v6) (by go_simp; first | done | rfl) ⟨.inl rfl, ?_⟩)
                      simp only [Act.put, List.setIfInBounds_toArray, List.set_cons_zero, List.set_cons_succ]
                      refine T_done (by kernel_rfl) ?_
                      go_wp2_with fail
                      go_roundw
                      case rel => exact ⟨k + 1, _, M1 ++ p :: M2, rfl, by go_num, by omega, owns_mono (owned_insI how6 hl1 hl2) hwz1, HN, by simp; omega, hbw.trans (hbw6.mono hwz1)⟩
                      case measure => simp [intOf]; omega
                  · refine T_op rfl (by rfl) ?_
                    refine wp_build1 _ 2 _ (by rfl) (.int .i64 0) 1 Tryz.underlying48 (by kernel_rfl) ⟨by decide, by decide⟩ (.int .i64 p) (by rfl) #[.int .i64 p] (by kernel_rfl) ?_
                    intro w2 hXw2 hsw2 hqw2
                    have hbw2 : Below w1.heap.size w1 w2 := hbw1.trans (hsw2.mono hzw1)
                    have hzw2 : w1.heap.size ≤ w2.heap.size := hbw2.size
                    refine ⟨.inr ⟨trivial, trivial⟩, ?_⟩
                    simp only [Act.put, List.setIfInBounds_toArray, List.set_cons_zero, List.set_cons_succ]
                    refine T_all [0] (by kernel_rfl) (by decide) ?_
                    intro j hj
                    simp only [List.mem_cons, or_false, List.not_mem_nil] at hj
                    subst hj
                    refine T_op rfl (by rfl) ?_
                    refine wp_build0 _ 2 (by rfl) 1 Tryz.underlying48 (by kernel_rfl) w1.heap.size hzw2 ?_
                    intro w3 how3 hsw3 hqw3
                    have hbw3 : Below w1.heap.size w1 w3 := hbw2.trans (hsw3.mono hzw2)
                    have hzw3 : w1.heap.size ≤ w3.heap.size := hbw3.size
                    refine ⟨.inr ⟨trivial, trivial⟩, ?_⟩
                    simp only [Act.put, List.setIfInBounds_toArray, List.set_cons_zero, List.set_cons_succ]
                    have hXw3 := hXw2.ext hsw3
                    refine T_all [4] (by kernel_rfl) (by decide) ?_
                    intro j hj
                    simp only [List.mem_cons, or_false, List.not_mem_nil] at hj
                    subst hj
                    refine T_op rfl (by rfl) ?_
                    refine wp_append_rd _ _ _ (by rfl) w1.heap.size 2 (.int .i64 0) 1 8 Tryz.underlying48 (by kernel_rfl) ⟨rfl, by decide⟩ _ 0 [] (by rfl) how3 A1 m cap1 (M1.map ic) (by rfl) (HR1.out _ hbw3) ⟨by rw [List.length_map, hl1], int_ok _⟩ hn1 ⟨by unfold maxLen; omega, by omega⟩ hzw3 ?_
                    intro v4 w4 how4 hsw4 hqw4 hkw4
                    have hbw4 : Below w1.heap.size w1 w4 := hbw3.trans (hsw4)
                    have hzw4 : w1.heap.size ≤ w4.heap.size := hbw4.size
                    refine ⟨.inr ⟨trivial, trivial⟩, ?_⟩
                    simp only [Act.put, List.setIfInBounds_toArray, List.set_cons_zero, List.set_cons_succ]
                    have hXw4 : Blk w4 w1.heap.size 2 _ := (hkw4 _ (by have := hXw3.lt; omega) (fun e => by simp [Value.ownBlock] at e; omega)).trans hXw3
                    refine T_all [7] (by kernel_rfl) (by decide) ?_
                    intro j hj
                    simp only [List.mem_cons, or_false, List.not_mem_nil] at hj
                    subst hj
                    refine T_op rfl (by rfl) ?_
                    refine wp_append_rd _ _ _ (by rfl) w1.heap.size 2 (.int .i64 0) 1 8 Tryz.underlying48 (by kernel_rfl) ⟨rfl, by decide⟩ v4 (0 + m) _ (by rfl) how4 (some ⟨w1.heap.size, 0, none⟩) 1 1 [ic p] (by rfl) (rd_own hXw4 (by simp [ic]) (n := 1) (by simp [ic])) ⟨rfl, by simp [ic, Value.oneCell']⟩ (fun e => by cases e) ⟨by unfold maxLen; omega, by omega⟩ hzw4 ?_
                    intro v5 w5 how5 hsw5 hqw5 hkw5
                    have hbw5 : Below w1.heap.size w1 w5 := hbw4.trans (hsw5)
                    have hzw5 : w1.heap.size ≤ w5.heap.size := hbw5.size
                    refine ⟨.inr ⟨trivial, trivial⟩, ?_⟩
                    simp only [Act.put, List.setIfInBounds_toArray, List.set_cons_zero, List.set_cons_succ]
                    refine T_all [11] (by kernel_rfl) (by decide) ?_
                    intro j hj
                    simp only [List.mem_cons, or_false, List.not_mem_nil] at hj
                    subst hj
                    refine T_op rfl (by rfl) ?_
                    refine wp_append_rd _ _ _ (by rfl) w1.heap.size 2 (.int .i64 0) 1 8 Tryz.underlying48 (by kernel_rfl) ⟨rfl, by decide⟩ v5 (0 + m + 1) _ (by rfl) how5 A2 (M.length - m) (cap1 - m) (M2.map ic) (by rfl) (HR2.out _ hbw5) ⟨by rw [List.length_map, hl2], int_ok _⟩ hn2 ⟨by unfold maxLen; omega, by omega⟩ hzw5 ?_
                    intro v6 w6 how6 hsw6 hqw6 hkw6
                    have hbw6 : Below w1.heap.size w1 w6 := hbw5.trans (hsw6)
                    have hzw6 : w1.heap.size ≤ w6.heap.size := hbw6.size
                    refine ⟨.inr ⟨trivial, trivial⟩, ?_⟩
                    simp only [Act.put, List.setIfInBounds_toArray, List.set_cons_zero, List.set_cons_succ]
                    refine T_all [12] (by kernel_rfl) (by decide) ?_
                    intro j hj
                    simp only [List.mem_cons, or_false, List.not_mem_nil] at hj
                    subst hj
                    refine T_op rfl (by rfl) (wp_calm (v := v6) (by go_simp; first | done | rfl) ⟨.inl rfl, ?_⟩)
                    simp only [Act.put, List.setIfInBounds_toArray, List.set_cons_zero, List.set_cons_succ]
                    refine T_done (by kernel_rfl) ?_
                    go_wp2_with fail
                    go_roundw
                    case rel => exact ⟨k + 1, _, M1 ++ p :: M2, rfl, by go_num, by omega, owns_mono (owned_insI how6 hl1 hl2) hwz1, HN, by simp; omega, hbw.trans (hbw6.mono hwz1)⟩
                    case measure => simp [intOf]; omega
              · have HS : Hid (In lo hi (L.take k ++ [x]) M) := Lib.hid (HI.out.skip (by rw [← HP.out]; omega))
                have e4 : ¬ z < p := by omega
                go_wp2_with fail
                go_roundw
                case rel => exact ⟨k + 1, _, M, rfl, by go_num, by omega, HOWN.out, Lib.hid (by rw [HT.out]; exact HS.out), by omega, hb⟩
                case measure => simp [intOf]; omega
            · have HS : Hid (In lo hi (L.take k ++ [x]) M) := Lib.hid (HI.out.skip (by rw [← HP.out]; omega))
              have e4 : ¬ z < p := by omega
              go_wp2_with fail
              go_roundw
              case rel => exact ⟨k + 1, _, M, rfl, by go_num, by omega, HOWN.out, Lib.hid (by rw [HT.out]; exact HS.out), by omega, hb⟩
              case measure => simp [intOf]; omega
          · have hme : m = M.length := by omega
            have e2 : ¬ (m : Int) < (M.length : Int) := by omega
            have e6 : ((m : Int) == (M.length : Int)) = true := by simp; omega
            have HME := Lib.hid hme
            clear ht3 hme
            by_cases hlo : lo ≤ p
            · by_cases hhi : p ≤ hi
              · have HB : Hid (lo ≤ p ∧ p ≤ hi) := Lib.hid ⟨hlo, hhi⟩
                have HN : Hid (In lo hi (L.take (k + 1)) (M.take m ++ p :: M.drop m)) := Lib.hid (by rw [HT.out]; have := HI.out.put (o := x) (t := m) (by rw [← HP.out]; exact HB.out) (by rw [← HP.out]; exact HT2.out) (fun h => by have := HME.out; omega); rwa [← HP.out] at this)
                go_wp2_with fail
                obtain ⟨AA1, hn1', hr1, hs1'⟩ := cut_head A0 M.length cap1 m (by omega) hnil
                obtain ⟨AA2, hn2', hr2, hs2'⟩ := cut_tail A0 M.length cap1 m (by omega) hfit hnil
                obtain ⟨A1, hA1⟩ : ∃ x, x = AA1 := ⟨_, rfl⟩
                obtain ⟨A2, hA2⟩ : ∃ x, x = AA2 := ⟨_, rfl⟩
                rw [← hA1] at hn1' hr1 hs1'
                rw [← hA2] at hn2' hr2 hs2'
                have hn1 := hn1'
                have hn2 := hn2'
                have hs1 := Lib.hid hs1'
                have hs2 := Lib.hid hs2'
                have hl1 : (M.take m).length = m := by simp; omega
                have hl2 : (M.drop m).length = M.length - m := by simp
                have hbd : Below wr.heap.size wr wr.drew := (Below.refl _ _).drew
                have hzd : wr.drew.heap.size = wr.heap.size := rfl
                refine wp_region_T (S := fun _ => True ∧ True) 12 (by kernel_rfl) ?_
                generalize wr.drew = w1 at hbd hzd ⊢
                have hbw : Below w.heap.size w w1 := hb.trans (hbd.mono hz0)
                have hwz1 : w.heap.size ≤ w1.heap.size := hbw.size
                have HR1 : Hid (∀ W, Below w1.heap.size w1 W → Rd W 1 A1 ((M.take m).map ic)) := Lib.hid (fun W hW => hr1 W (M.take m) (M.drop m) (by rw [List.take_append_drop]; exact (hrd.below hbd).below hW))
                have HR2 : Hid (∀ W, Below w1.heap.size w1 W → Rd W 1 A2 ((M.drop m).map ic)) := Lib.hid (fun W hW => hr2 W (M.take m) (M.drop m) hl1 (by rw [List.take_append_drop]) (by rw [List.take_append_drop]; exact (hrd.below hbd).below hW))
                have hbw1 : Below w1.heap.size w1 w1 := Below.refl _ _
                have hzw1 : w1.heap.size ≤ w1.heap.size := Nat.le_refl _
                clear hs1' hs2' hr1 hr2 hrg c0 h1 qr HOWN hA1 hA2 hn1' hn2' ht2
                have hl0 := hll
                have hlk := hMk
                generalize M.take m = M1 at *
                generalize M.drop m = M2 at *
                have hS : True ∧ True := ⟨trivial, trivial⟩
                (refine T_take (i := 1) rfl (by kernel_rfl) (fun _ _ _ _ h => h) hS ?_; apply Exists.intro; refine ⟨.inl ⟨by rfl, fun W hW => ?_⟩, ?_⟩; (next => (obtain ⟨hs1, hs2⟩ := hW; go_simp; first | done | rfl)); simp only [Act.put, List.setIfInBounds_toArray, List.set_cons_zero, List.set_cons_succ])
                (refine T_take (i := 2) rfl (by kernel_rfl) (fun _ _ _ _ h => h) hS ?_; apply Exists.intro; refine ⟨.inl ⟨by rfl, fun W hW => ?_⟩, ?_⟩; (next => (obtain ⟨hs1, hs2⟩ := hW; go_simp; first | done | rfl)); simp only [Act.put, List.setIfInBounds_toArray, List.set_cons_zero, List.set_cons_succ])
                (refine T_take (i := 5) rfl (by kernel_rfl) (fun _ _ _ _ h => h) hS ?_; apply Exists.intro; refine ⟨.inl ⟨by rfl, fun W hW => ?_⟩, ?_⟩; (next => (obtain ⟨hs1, hs2⟩ := hW; go_simp; first | done | rfl)); simp only [Act.put, List.setIfInBounds_toArray, List.set_cons_zero, List.set_cons_succ])
                (refine T_take (i := 8) rfl (by kernel_rfl) (fun _ _ _ _ h => h) hS ?_; apply Exists.intro; refine ⟨.inl ⟨by rfl, fun W hW => ?_⟩, ?_⟩; (next => (obtain ⟨hs1, hs2⟩ := hW; go_simp; first | done | rfl)); simp only [Act.put, List.setIfInBounds_toArray, List.set_cons_zero, List.set_cons_succ])
                (refine T_take (i := 9) rfl (by kernel_rfl) (fun _ _ _ _ h => h) hS ?_; apply Exists.intro; refine ⟨.inl ⟨by rfl, fun W hW => ?_⟩, ?_⟩; (next => (obtain ⟨hs1, hs2⟩ := hW; go_simp; first | done | rfl)); simp only [Act.put, List.setIfInBounds_toArray, List.set_cons_zero, List.set_cons_succ])
                (refine T_take (i := 3) rfl (by kernel_rfl) (fun _ _ _ _ h => h) hS ?_; refine ⟨_, y_slice _ _ _ _ _ (by rfl) (by rfl) (fun W _ => hs1.out W), ?_⟩; simp only [Act.put, List.setIfInBounds_toArray, List.set_cons_zero, List.set_cons_succ])
                (refine T_take (i := 10) rfl (by kernel_rfl) (fun _ _ _ _ h => h) hS ?_; refine ⟨_, y_slice _ _ _ _ _ (by rfl) (by rfl) (fun W _ => hs2.out W), ?_⟩; simp only [Act.put, List.setIfInBounds_toArray, List.set_cons_zero, List.set_cons_succ])
                refine T_all [0, 6] (by kernel_rfl) (by decide) ?_
                intro j hj
                simp only [List.mem_cons, or_false, List.not_mem_nil] at hj
                rcases hj with rfl | rfl
                · refine T_op rfl (by rfl) ?_
                  refine wp_build0 _ 2 (by rfl) 1 Tryz.underlying48 (by kernel_rfl) w1.heap.size hzw1 ?_
                  intro w2 how2 hsw2 hqw2
                  have hbw2 : Below w1.heap.size w1 w2 := hbw1.trans (hsw2.mono hzw1)
                  have hzw2 : w1.heap.size ≤ w2.heap.size := hbw2.size
                  refine ⟨.inr ⟨trivial, trivial⟩, ?_⟩
                  simp only [Act.put, List.setIfInBounds_toArray, List.set_cons_zero, List.set_cons_succ]
                  refine T_all [4, 6] (by kernel_rfl) (by decide) ?_
                  intro j hj
                  simp only [List.mem_cons, or_false, List.not_mem_nil] at hj
                  rcases hj with rfl | rfl
                  · refine T_op rfl (by rfl) ?_
                    refine wp_append_rd _ _ _ (by rfl) w1.heap.size 2 (.int .i64 0) 1 8 Tryz.underlying48 (by kernel_rfl) ⟨rfl, by decide⟩ _ 0 [] (by rfl) how2 A1 m cap1 (M1.map ic) (by rfl) (HR1.out _ hbw2) ⟨by rw [List.length_map, hl1], int_ok _⟩ hn1 ⟨by unfold maxLen; omega, by omega⟩ hzw2 ?_
                    intro v3 w3 how3 hsw3 hqw3 hkw3
                    have hbw3 : Below w1.heap.size w1 w3 := hbw2.trans (hsw3)
                    have hzw3 : w1.heap.size ≤ w3.heap.size := hbw3.size
                    refine ⟨.inr ⟨trivial, trivial⟩, ?_⟩
                    simp only [Act.put, List.setIfInBounds_toArray, List.set_cons_zero, List.set_cons_succ]
                    refine T_all [6] (by kernel_rfl) (by decide) ?_
                    intro j hj
                    simp only [List.mem_cons, or_false, List.not_mem_nil] at hj
                    subst hj
                    refine T_op rfl (by rfl) ?_
                    refine wp_build1 _ 2 _ (by rfl) (.int .i64 0) 1 Tryz.underlying48 (by kernel_rfl) ⟨by decide, by decide⟩ (.int .i64 p) (by rfl) #[.int .i64 p] (by kernel_rfl) ?_
                    intro w4 hXw4 hsw4 hqw4
                    have hbw4 : Below w1.heap.size w1 w4 := hbw3.trans (hsw4.mono hzw3)
                    have hzw4 : w1.heap.size ≤ w4.heap.size := hbw4.size
                    refine ⟨.inr ⟨trivial, trivial⟩, ?_⟩
                    simp only [Act.put, List.setIfInBounds_toArray, List.set_cons_zero, List.set_cons_succ]
                    have how4 := owns_ext how3 hsw4
                    refine T_all [7] (by kernel_rfl) (by decide) ?_
                    intro j hj
                    simp only [List.mem_cons, or_false, List.not_mem_nil] at hj
                    subst hj
                    refine T_op rfl (by rfl) ?_
                    refine wp_append_rd _ _ _ (by rfl) w1.heap.size 2 (.int .i64 0) 1 8 Tryz.underlying48 (by kernel_rfl) ⟨rfl, by decide⟩ v3 (0 + m) _ (by rfl) how4 (some ⟨w3.heap.size, 0, none⟩) 1 1 [ic p] (by rfl) (rd_own hXw4 (by simp [ic]) (n := 1) (by simp [ic])) ⟨rfl, by simp [ic, Value.oneCell']⟩ (fun e => by cases e) ⟨by unfold maxLen; omega, by omega⟩ hzw4 ?_
                    intro v5 w5 how5 hsw5 hqw5 hkw5
                    have hbw5 : Below w1.heap.size w1 w5 := hbw4.trans (hsw5)
                    have hzw5 : w1.heap.size ≤ w5.heap.size := hbw5.size
                    refine ⟨.inr ⟨trivial, trivial⟩, ?_⟩
                    simp only [Act.put, List.setIfInBounds_toArray, List.set_cons_zero, List.set_cons_succ]
                    refine T_all [11] (by kernel_rfl) (by decide) ?_
                    intro j hj
                    simp only [List.mem_cons, or_false, List.not_mem_nil] at hj
                    subst hj
                    refine T_op rfl (by rfl) ?_
                    refine wp_append_rd _ _ _ (by rfl) w1.heap.size 2 (.int .i64 0) 1 8 Tryz.underlying48 (by kernel_rfl) ⟨rfl, by decide⟩ v5 (0 + m + 1) _ (by rfl) how5 A2 (M.length - m) (cap1 - m) (M2.map ic) (by rfl) (HR2.out _ hbw5) ⟨by rw [List.length_map, hl2], int_ok _⟩ hn2 ⟨by unfold maxLen; omega, by omega⟩ hzw5 ?_
                    intro v6 w6 how6 hsw6 hqw6 hkw6
                    have hbw6 : Below w1.heap.size w1 w6 := hbw5.trans (hsw6)
                    have hzw6 : w1.heap.size ≤ w6.heap.size := hbw6.size
                    refine ⟨.inr ⟨trivial, trivial⟩, ?_⟩
                    simp only [Act.put, List.setIfInBounds_toArray, List.set_cons_zero, List.set_cons_succ]
                    refine T_all [12] (by kernel_rfl) (by decide) ?_
                    intro j hj
                    simp only [List.mem_cons, or_false, List.not_mem_nil] at hj
                    subst hj
                    refine T_op rfl (by rfl) (wp_calm (v := v6) (by go_simp; first | done | rfl) ⟨.inl rfl, ?_⟩)
                    simp only [Act.put, List.setIfInBounds_toArray, List.set_cons_zero, List.set_cons_succ]
                    refine T_done (by kernel_rfl) ?_
                    go_wp2_with fail
                    go_roundw
                    case rel => exact ⟨k + 1, _, M1 ++ p :: M2, rfl, by go_num, by omega, owns_mono (owned_insI how6 hl1 hl2) hwz1, HN, by simp; omega, hbw.trans (hbw6.mono hwz1)⟩
                    case measure => simp [intOf]; omega
                  · refine T_op rfl (by rfl) ?_
                    refine wp_build1 _ 2 _ (by rfl) (.int .i64 0) 1 Tryz.underlying48 (by kernel_rfl) ⟨by decide, by decide⟩ (.int .i64 p) (by rfl) #[.int .i64 p] (by kernel_rfl) ?_
                    intro w3 hXw3 hsw3 hqw3
                    have hbw3 : Below w1.heap.size w1 w3 := hbw2.trans (hsw3.mono hzw2)
                    have hzw3 : w1.heap.size ≤ w3.heap.size := hbw3.size
                    refine ⟨.inr ⟨trivial, trivial⟩, ?_⟩
                    simp only [Act.put, List.setIfInBounds_toArray, List.set_cons_zero, List.set_cons_succ]
                    have how3 := owns_ext how2 hsw3
                    refine T_all [4] (by kernel_rfl) (by decide) ?_
                    intro j hj
                    simp only [List.mem_cons, or_false, List.not_mem_nil] at hj
                    subst hj
                    refine T_op rfl (by rfl) ?_
                    refine wp_append_rd _ _ _ (by rfl) w1.heap.size 2 (.int .i64 0) 1 8 Tryz.underlying48 (by kernel_rfl) ⟨rfl, by decide⟩ _ 0 [] (by rfl) how3 A1 m cap1 (M1.map ic) (by rfl) (HR1.out _ hbw3) ⟨by rw [List.length_map, hl1], int_ok _⟩ hn1 ⟨by unfold maxLen; omega, by omega⟩ hzw3 ?_
                    intro v4 w4 how4 hsw4 hqw4 hkw4
                    have hbw4 : Below w1.heap.size w1 w4 := hbw3.trans (hsw4)
                    have hzw4 : w1.heap.size ≤ w4.heap.size := hbw4.size
                    refine ⟨.inr ⟨trivial, trivial⟩, ?_⟩
                    simp only [Act.put, List.setIfInBounds_toArray, List.set_cons_zero, List.set_cons_succ]
                    have hXw4 : Blk w4 w2.heap.size 2 _ := (hkw4 _ (by have := hXw3.lt; omega) (fun e => by simp [Value.ownBlock] at e; omega)).trans hXw3
                    refine T_all [7] (by kernel_rfl) (by decide) ?_
                    intro j hj
                    simp only [List.mem_cons, or_false, List.not_mem_nil] at hj
                    subst hj
                    refine T_op rfl (by rfl) ?_
                    refine wp_append_rd _ _ _ (by rfl) w1.heap.size 2 (.int .i64 0) 1 8 Tryz.underlying48 (by kernel_rfl) ⟨rfl, by decide⟩ v4 (0 + m) _ (by rfl) how4 (some ⟨w2.heap.size, 0, none⟩) 1 1 [ic p] (by rfl) (rd_own hXw4 (by simp [ic]) (n := 1) (by simp [ic])) ⟨rfl, by simp [ic, Value.oneCell']⟩ (fun e => by cases e) ⟨by unfold maxLen; omega, by omega⟩ hzw4 ?_
                    intro v5 w5 how5 hsw5 hqw5 hkw5
                    have hbw5 : Below w1.heap.size w1 w5 := hbw4.trans (hsw5)
                    have hzw5 : w1.heap.size ≤ w5.heap.size := hbw5.size
                    refine ⟨.inr ⟨trivial, trivial⟩, ?_⟩
                    simp only [Act.put, List.setIfInBounds_toArray, List.set_cons_zero, List.set_cons_succ]
                    refine T_all [11] (by kernel_rfl) (by decide) ?_
                    intro j hj
                    simp only [List.mem_cons, or_false, List.not_mem_nil] at hj
                    subst hj
                    refine T_op rfl (by rfl) ?_
                    refine wp_append_rd _ _ _ (by rfl) w1.heap.size 2 (.int .i64 0) 1 8 Tryz.underlying48 (by kernel_rfl) ⟨rfl, by decide⟩ v5 (0 + m + 1) _ (by rfl) how5 A2 (M.length - m) (cap1 - m) (M2.map ic) (by rfl) (HR2.out _ hbw5) ⟨by rw [List.length_map, hl2], int_ok _⟩ hn2 ⟨by unfold maxLen; omega, by omega⟩ hzw5 ?_
                    intro v6 w6 how6 hsw6 hqw6 hkw6
                    have hbw6 : Below w1.heap.size w1 w6 := hbw5.trans (hsw6)
                    have hzw6 : w1.heap.size ≤ w6.heap.size := hbw6.size
                    refine ⟨.inr ⟨trivial, trivial⟩, ?_⟩
                    simp only [Act.put, List.setIfInBounds_toArray, List.set_cons_zero, List.set_cons_succ]
                    refine T_all [12] (by kernel_rfl) (by decide) ?_
                    intro j hj
                    simp only [List.mem_cons, or_false, List.not_mem_nil] at hj
                    subst hj
                    refine T_op rfl (by rfl) (wp_calm (v := v6) (by go_simp; first | done | rfl) ⟨.inl rfl, ?_⟩)
                    simp only [Act.put, List.setIfInBounds_toArray, List.set_cons_zero, List.set_cons_succ]
                    refine T_done (by kernel_rfl) ?_
                    go_wp2_with fail
                    go_roundw
                    case rel => exact ⟨k + 1, _, M1 ++ p :: M2, rfl, by go_num, by omega, owns_mono (owned_insI how6 hl1 hl2) hwz1, HN, by simp; omega, hbw.trans (hbw6.mono hwz1)⟩
                    case measure => simp [intOf]; omega
                · refine T_op rfl (by rfl) ?_
                  refine wp_build1 _ 2 _ (by rfl) (.int .i64 0) 1 Tryz.underlying48 (by kernel_rfl) ⟨by decide, by decide⟩ (.int .i64 p) (by rfl) #[.int .i64 p] (by kernel_rfl) ?_
                  intro w2 hXw2 hsw2 hqw2
                  have hbw2 : Below w1.heap.size w1 w2 := hbw1.trans (hsw2.mono hzw1)
                  have hzw2 : w1.heap.size ≤ w2.heap.size := hbw2.size
                  refine ⟨.inr ⟨trivial, trivial⟩, ?_⟩
                  simp only [Act.put, List.setIfInBounds_toArray, List.set_cons_zero, List.set_cons_succ]
                  refine T_all [0] (by kernel_rfl) (by decide) ?_
                  intro j hj
                  simp only [List.mem_cons, or_false, List.not_mem_nil] at hj
                  subst hj
                  refine T_op rfl (by rfl) ?_
                  refine wp_build0 _ 2 (by rfl) 1 Tryz.underlying48 (by kernel_rfl) w1.heap.size hzw2 ?_
                  intro w3 how3 hsw3 hqw3
                  have hbw3 : Below w1.heap.size w1 w3 := hbw2.trans (hsw3.mono hzw2)
                  have hzw3 : w1.heap.size ≤ w3.heap.size := hbw3.size
                  refine ⟨.inr ⟨trivial, trivial⟩, ?_⟩
                  simp only [Act.put, List.setIfInBounds_toArray, List.set_cons_zero, List.set_cons_succ]
                  have hXw3 := hXw2.ext hsw3
                  refine T_all [4] (by kernel_rfl) (by decide) ?_
                  intro j hj
                  simp only [List.mem_cons, or_false, List.not_mem_nil] at hj
                  subst hj
                  refine T_op rfl (by rfl) ?_
                  refine wp_append_rd _ _ _ (by rfl) w1.heap.size 2 (.int .i64 0) 1 8 Tryz.underlying48 (by kernel_rfl) ⟨rfl, by decide⟩ _ 0 [] (by rfl) how3 A1 m cap1 (M1.map ic) (by rfl) (HR1.out _ hbw3) ⟨by rw [List.length_map, hl1], int_ok _⟩ hn1 ⟨by unfold maxLen; omega, by omega⟩ hzw3 ?_
                  intro v4 w4 how4 hsw4 hqw4 hkw4
                  have hbw4 : Below w1.heap.size w1 w4 := hbw3.trans (hsw4)
                  have hzw4 : w1.heap.size ≤ w4.heap.size := hbw4.size
                  refine ⟨.inr ⟨trivial, trivial⟩, ?_⟩
                  simp only [Act.put, List.setIfInBounds_toArray, List.set_cons_zero, List.set_cons_succ]
                  have hXw4 : Blk w4 w1.heap.size 2 _ := (hkw4 _ (by have := hXw3.lt; omega) (fun e => by simp [Value.ownBlock] at e; omega)).trans hXw3
                  refine T_all [7] (by kernel_rfl) (by decide) ?_
                  intro j hj
                  simp only [List.mem_cons, or_false, List.not_mem_nil] at hj
                  subst hj
                  refine T_op rfl (by rfl) ?_
                  refine wp_append_rd _ _ _ (by rfl) w1.heap.size 2 (.int .i64 0) 1 8 Tryz.underlying48 (by kernel_rfl) ⟨rfl, by decide⟩ v4 (0 + m) _ (by rfl) how4 (some ⟨w1.heap.size, 0, none⟩) 1 1 [ic p] (by rfl) (rd_own hXw4 (by simp [ic]) (n := 1) (by simp [ic])) ⟨rfl, by simp [ic, Value.oneCell']⟩ (fun e => by cases e) ⟨by unfold maxLen; omega, by omega⟩ hzw4 ?_
                  intro v5 w5 how5 hsw5 hqw5 hkw5
                  have hbw5 : Below w1.heap.size w1 w5 := hbw4.trans (hsw5)
                  have hzw5 : w1.heap.size ≤ w5.heap.size := hbw5.size
                  refine ⟨.inr ⟨trivial, trivial⟩, ?_⟩
                  simp only [Act.put, List.setIfInBounds_toArray, List.set_cons_zero, List.set_cons_succ]
                  refine T_all [11] (by kernel_rfl) (by decide) ?_
                  intro j hj
                  simp only [List.mem_cons, or_false, List.not_mem_nil] at hj
                  subst hj
                  refine T_op rfl (by rfl) ?_
                  refine wp_append_rd _ _ _ (by rfl) w1.heap.size 2 (.int .i64 0) 1 8 Tryz.underlying48 (by kernel_rfl) ⟨rfl, by decide⟩ v5 (0 + m + 1) _ (by rfl) how5 A2 (M.length - m) (cap1 - m) (M2.map ic) (by rfl) (HR2.out _ hbw5) ⟨by rw [List.length_map, hl2], int_ok _⟩ hn2 ⟨by unfold maxLen; omega, by omega⟩ hzw5 ?_
                  intro v6 w6 how6 hsw6 hqw6 hkw6
                  have hbw6 : Below w1.heap.size w1 w6 := hbw5.trans (hsw6)
                  have hzw6 : w1.heap.size ≤ w6.heap.size := hbw6.size
                  refine ⟨.inr ⟨trivial, trivial⟩, ?_⟩
                  simp only [Act.put, List.setIfInBounds_toArray, List.set_cons_zero, List.set_cons_succ]
                  refine T_all [12] (by kernel_rfl) (by decide) ?_
                  intro j hj
                  simp only [List.mem_cons, or_false, List.not_mem_nil] at hj
                  subst hj
                  refine T_op rfl (by rfl) (wp_calm (v := v6) (by go_simp; first | done | rfl) ⟨.inl rfl, ?_⟩)
                  simp only [Act.put, List.setIfInBounds_toArray, List.set_cons_zero, List.set_cons_succ]
                  refine T_done (by kernel_rfl) ?_
                  go_wp2_with fail
                  go_roundw
                  case rel => exact ⟨k + 1, _, M1 ++ p :: M2, rfl, by go_num, by omega, owns_mono (owned_insI how6 hl1 hl2) hwz1, HN, by simp; omega, hbw.trans (hbw6.mono hwz1)⟩
                  case measure => simp [intOf]; omega
              · have HS : Hid (In lo hi (L.take k ++ [x]) M) := Lib.hid (HI.out.skip (by rw [← HP.out]; omega))
                go_wp2_with fail
                go_roundw
                case rel => exact ⟨k + 1, _, M, rfl, by go_num, by omega, HOWN.out, Lib.hid (by rw [HT.out]; exact HS.out), by omega, hb⟩
                case measure => simp [intOf]; omega
            · have HS : Hid (In lo hi (L.take k ++ [x]) M) := Lib.hid (HI.out.skip (by rw [← HP.out]; omega))
              go_wp2_with fail
              go_roundw
              case rel => exact ⟨k + 1, _, M, rfl, by go_num, by omega, HOWN.out, Lib.hid (by rw [HT.out]; exact HS.out), by omega, hb⟩
              case measure => simp [intOf]; omega
    · have ht : L.take k = L := List.take_of_length_le (by omega)
      rw [ht] at HI
      have HOWN := Lib.hid hown
      clear hown
      go_wp2_with fail
      go_ret
      exact ⟨⟨_, M, rfl, HOWN.out, HI.out, by omega⟩, hb⟩
end
end Cu
end Go.Proofs.YtacpjpkhmdcagaaGreat
namespace Go.Proofs.YtacpjpkhmdcagaaGreat
set_option linter.unusedVariables false
open Go.RowKit
namespace Cu
set_option maxHeartbeats 2000000
set_option maxRecDepth 10000
attribute [local go_sem] Oper.semAt_some
def encP (x : Pt) : Array Value := #[.agg x.arr]
theorem takeP_snoc {ps : List Pt} {k : Nat} (hk : k < ps.length) : ps.take k ++ [ps[k]] = ps.take (k + 1) := by
  rw [List.take_succ_eq_append_getElem hk]
theorem vals_in (l : Nat) {w : World} {ps : List Pt} {A : Option Addr} {cap : Nat} (b : Nat) (hq : Blk w b 116 #[.slice A ps.length cap]) (hrd : Rd w 3 A (ps.map Pt.cells)) (hlen : ps.length ≤ 1000) (nb : List Nat) (hnb : b ∉ nb ∧ (0 < ps.length → ∀ a, A = some a → a.block ∉ nb))
    (J Jx : List Pt → World → Prop)
    (hY : ∀ pre x W, J pre W → pre.length < ps.length → YieldAt Fence.wide 7 Tryz.prog l (encP x) W fun e W' =>
      (e = .returned (.bool true) ∧ J (pre ++ [x]) W' ∧ ButL nb w.heap.size W W') ∨ (e = .returned (.bool false) ∧ Jx (pre ++ [x]) W'))
    (W : World) (hW : Below w.heap.size w W) (hJo : AbidesFrom W.heap.size J) (h0 : J [] W) :
    CallsIn Fence.wide 8 Tryz.prog 113 #[.func (.yield l) #[] #[], .pointer (some ⟨b, 0, none⟩)] W fun e W' => (∃ v, e = .returned v) ∧
      ((∃ ys, ys = ps ∧ J ys W') ∨ (∃ pre, pre <+: ps ∧ Jx pre W')) := by
  have hbl := hq.lt
  refine callsIn_of_wp Tryz.func113 rfl trivial ?_ rfl
  simp only [Tryz.ntmps113, List.size_toArray, List.length_cons, List.length_nil, Nat.reduceAdd, Nat.reduceSub, Array.replicate_succ, Array.replicate_zero, List.push_toArray, List.append_toArray, List.nil_append, List.cons_append]
  have cq : W.cell? ⟨b, 0, none⟩ = some (.slice A ps.length cap) := (hq.ext hW).cell 0
  have HJ := Lib.hid hJo
  have HRD := Lib.hid hrd
  clear hJo hq
  gi_wp2_with fail
  gi_loopw [7] (fun p wr => ∃ k : Nat, p = .int .i64 k ∧ k ≤ ps.length ∧ J (ps.take k) wr ∧ ButL nb w.heap.size W wr) (fun p wr => ps.length - (intOf p).toNat)
  case atStart => exact ⟨0, rfl, Nat.zero_le _, h0, ButL.refl _ _ _⟩
  case round =>
    obtain ⟨k, rfl, hk, hJ, hB⟩ := hrel
    by_cases hlt : k < ps.length
    · have e1 : (k : Int) < (ps.length : Int) := by omega
      have e2 : (0 : Int) ≤ (k : Int) := by omega
      obtain ⟨rb, ro, rfl, hr⟩ := Bk.rd_rngB HRD.out hlt
      have hx : ∀ j u, (ps[k]).cells[j]? = some u → wr.cell? ⟨rb, ro + k * 3 + j, none⟩ = some u := fun j u hu => by
        have h1 := hr j u hu
        have h2 : W.cell? ⟨rb, ro + k * 3 + j, none⟩ = some u := (hW.cell (cell_lt h1)).trans h1
        exact (World.cell?_of_block (hB.block rb (cell_lt h1) (hnb.2 (by omega) _ rfl))).trans h2
      have o0 : wr.cell? ⟨rb, ro + k * 3, none⟩ = some (.int .i64 (ps[k]).price) := hx 0 _ rfl
      have o1 : wr.cell? ⟨rb, ro + k * 3 + 1, none⟩ = some (.int .i64 (ps[k]).demand) := hx 1 _ rfl
      have o2 : wr.cell? ⟨rb, ro + k * 3 + 2, none⟩ = some (.int .i64 (ps[k]).supply) := hx 2 _ rfl
      have hbA : Below w.heap.size wr (wr.alloc (.cells (ps[k]).arr 67)) := (Below.refl _ _).alloc (by have := hW.size; have := hB.size; omega) _
      have hJa : J (ps.take k) (wr.alloc (.cells (ps[k]).arr 67)) := HJ.out _ _ _ none hJ ⟨rfl, rfl, rfl, by rw [sz_alloc]; exact Nat.le_succ _, fun k hk _ => heapAtLt wr _ k hk⟩ (fun g e => by cases e)
      obtain ⟨fn, tmps, assign, body, hy, hR⟩ := hY (ps.take k) ps[k] _ hJa (by rw [List.length_take]; omega)
      have hy2 : (Instr.yield l #[.agg #[.int .i64 (ps[k]).price, .int .i64 (ps[k]).demand, .int .i64 (ps[k]).supply]]).run Tryz.prog (wr.alloc (.cells #[.int .i64 (ps[k]).price, .int .i64 (ps[k]).demand, .int .i64 (ps[k]).supply] 67)) = _ := hy
      clear hy hx hr
      gi_wp2_with fail
      refine hR.mono ?_
      rintro e W3 (⟨rfl, hJ3, hk3⟩ | ⟨rfl, hJx3⟩)
      · gi_wp2_with fail
        go_roundw
        case rel => exact ⟨k + 1, by go_num, by omega, by rw [← takeP_snoc hlt]; exact hJ3, hB.trans ((ButL.of_below hbA).trans hk3)⟩
        case measure => simp [intOf]; omega
      · gi_wp2_with fail
        refine bodyPost_ret (results_none rfl _ _ _) rfl ?_
        refine ⟨⟨_, rfl⟩, .inr ⟨_, ?_, hJx3⟩⟩
        rw [takeP_snoc hlt]
        exact List.take_prefix _ _
    · obtain rfl : k = ps.length := by omega
      gi_wp2_with fail
      go_end0
      exact ⟨⟨_, rfl⟩, .inl ⟨_, rfl, by rw [List.take_length] at hJ; exact hJ⟩⟩
theorem vals_stops {w : World} {ps : List Pt} {A : Option Addr} {cap : Nat} (b : Nat) (hq : Blk w b 116 #[.slice A ps.length cap]) (hrd : Rd w 3 A (ps.map Pt.cells)) (hlen : ps.length ≤ 1000) (nb : List Nat) (hnb : b ∉ nb ∧ (0 < ps.length → ∀ a, A = some a → a.block ∉ nb)) :
    SeqStopsK Fence.wide 8 Tryz.prog 113 #[.pointer (some ⟨b, 0, none⟩)] encP (ButL nb w.heap.size) (fun ys => ys = ps) (fun pre => pre <+: ps) ps.length w := fun l J Jx W hW hJ _ hY h0 =>
  vals_in l b hq hrd hlen nb hnb J Jx hY W hW hJ h0
theorem values_any (A : Option Addr) (n cap : Nat) (w : World) : Calls Tryz.prog 100 #[.slice A n cap] w fun e w' => e = .returned (.func (.func 113) #[] #[.pointer (some ⟨w.heap.size, 0, none⟩)]) ∧ Blk w' w.heap.size 116 #[.slice A n cap] ∧ Below w.heap.size w w' := by
  go_enter Tryz.func100, Tryz.ntmps100
  go_wp2_with fail
  go_ret
  exact ⟨rfl, Blk.new _ _ _ _ rfl, by (repeat (first | with_reducible exact Below.refl _ _ | (with_reducible assumption) | (with_reducible refine below_alloc ?_ _) | (with_reducible refine below_ext (w1 := ?_) ?_ ?_; rotate_left 2; (with_reducible assumption)) | (with_reducible refine Below.setCell ?_ ?_ _; rotate_left; ((try simp) <;> omega)) | (with_reducible refine Below.drew ?_) | (with_reducible refine below_drewN ?_ _) | fail))⟩
theorem points_any {w : World} {cb : Nat} {ps : List Pt} {A : Option Addr} {cap : Nat} (C : Cv w cb ps A cap) : Calls Tryz.prog 85 #[.pointer (some ⟨cb, 0, none⟩)] w fun e w' => e = .returned (.func (.func 113) #[] #[.pointer (some ⟨w.heap.size, 0, none⟩)]) ∧ Blk w' w.heap.size 116 #[.slice A ps.length cap] ∧ Below w.heap.size w w' := by
  have c0 : w.cell? ⟨cb, 0, none⟩ = some (.slice A ps.length cap) := C.hd.cell 0
  have HV := Lib.hid (fun W => values_any A ps.length cap W)
  clear C
  go_enter Tryz.func85, Tryz.ntmps85
  go_wp2_with fail
  refine (HV.out _).mono ?_
  rintro e w1 ⟨rfl, hB, hb⟩
  go_wp2_with fail
  go_ret
  exact ⟨rfl, hB, hb⟩
theorem points_nil (w : World) : Calls Tryz.prog 85 #[.pointer none] w fun e w' => e = .returned (.func (.func 99) #[] #[]) ∧ w = w' := by
  go_enter Tryz.func85, Tryz.ntmps85
  go_wp2_with fail
  go_ret
  exact ⟨rfl, rfl⟩
theorem pointsn_any (l : Nat) (W : World) : Calls Tryz.prog 99 #[.func (.yield l) #[] #[]] W fun e W' => (∃ v, e = .returned v) ∧ Below W.heap.size W W' := by
  go_enter Tryz.func99, Tryz.ntmps99
  go_wp2_with fail
  go_end0
  exact ⟨⟨_, rfl⟩, by (repeat (first | with_reducible exact Below.refl _ _ | (with_reducible assumption) | (with_reducible refine below_alloc ?_ _) | (with_reducible refine below_ext (w1 := ?_) ?_ ?_; rotate_left 2; (with_reducible assumption)) | (with_reducible refine Below.setCell ?_ ?_ _; rotate_left; ((try simp) <;> omega)) | (with_reducible refine Below.drew ?_) | (with_reducible refine below_drewN ?_ _) | fail))⟩
/-! ### '==' of points -/
def ptEq (x y : Pt) : Bool := x.price == y.price && (x.demand == y.demand && x.supply == y.supply)
theorem ptEq_iff (x y : Pt) : ptEq x y = true ↔ x = y := by
  obtain ⟨a1, a2, a3⟩ := x
  obtain ⟨b1, b2, b3⟩ := y
  simp [ptEq]
theorem ptEq_refl (x : Pt) : ptEq x x = true := (ptEq_iff x x).2 rfl
theorem guardPt : Tryz.prog.eqGuardType Tryz.prog.depth 67 = false := by kernel_rfl
theorem eqPt (x y : Pt) (w : World) : (Op.equalIn 10000 67 (.agg x.arr) (.agg y.arr)).run Tryz.prog w = .ok (ptEq x y) w := by
  have u4 := Tryz.underlying2
  have a4 := Tryz.isAgg2
  have z4 := Tryz.sizeOf2
  have hS : Tryz.prog.underlying 67 = some (.struct (Tryz.prog.fieldsOf 67)) := by kernel_rfl
  have hp : Tryz.prog.stoodInHeld 67 = false := by kernel_rfl
  rw [show (10000 : Nat) = 9999 + 1 from rfl, run_equalIn_agg w 9999 67 _ _ hS hp]
  simp only [Program.fieldsOf, Tryz.underlying67]
  go_simp
  unfold ptEq
  by_cases h1 : x.price = y.price
  · by_cases h2 : x.demand = y.demand
    · by_cases h3 : x.supply = y.supply <;> simp [h1, h2, h3]
    · simp [h1, h2]
  · simp [h1]
theorem q_ne_pt {ops : Array Oper} {C : World → Prop} {Q : Act → Prop} {a : Act} {o : Oper} {rest : List Oper} (hgd : Region.wanted o (yielded ops a.tmps) = true) (x y : Operand) (u : TypeId) (ho : o.op = .binOp .neq 67 x y u)
    (p q : Pt) (hx : a.eval x = .agg p.arr) (hy : a.eval y = .agg q.arr) (b : Bool) (hb : (!ptEq p q) = b) (h : wpQuiet Tryz.prog ops C Q rest (a.put o.dst (.bool b))) : wpQuiet Tryz.prog ops C Q (o :: rest) a :=
  q_step hgd _ (fun w _ => by
    unfold Oper.quietAt execOp
    simp only [ho, hx, hy, Sem.run_bind, run_eqGuard_agg _ _ _ _ _ _ _ guardPt, Result.andThen_ok, run_neq_struct, eqPt, hb]
    exact ⟨rfl, rfl⟩) h
theorem q_eq_pt {ops : Array Oper} {C : World → Prop} {Q : Act → Prop} {a : Act} {o : Oper} {rest : List Oper} (hgd : Region.wanted o (yielded ops a.tmps) = true) (x y : Operand) (u : TypeId) (ho : o.op = .binOp .eql 67 x y u)
    (p q : Pt) (hx : a.eval x = .agg p.arr) (hy : a.eval y = .agg q.arr) (b : Bool) (hb : ptEq p q = b) (h : wpQuiet Tryz.prog ops C Q rest (a.put o.dst (.bool b))) : wpQuiet Tryz.prog ops C Q (o :: rest) a :=
  q_step hgd _ (fun w _ => by
    unfold Oper.quietAt execOp
    simp only [ho, hx, hy, Sem.run_bind, run_eqGuard_agg _ _ _ _ _ _ _ guardPt, Result.andThen_ok, run_eql_struct, eqPt, hb]
    exact ⟨rfl, rfl⟩) h
end Cu
end Go.Proofs.YtacpjpkhmdcagaaGreat
namespace Go.Proofs.YtacpjpkhmdcagaaGreat
set_option linter.unusedVariables false
open Go.RowKit
namespace Cu
set_option maxHeartbeats 2000000
set_option maxRecDepth 10000
theorem wp_rangeFunc_none {P : Program} {g : Operand} {ps : Array Tmp} {assign body : Code} {Q : Exit → Act → World → Prop} {a : Act} {w : World} {gf : Nat} {lb : Array Value} (hg : a.eval g = .func (.func gf) #[] lb) (eg : ∀ args w, (callFunc gf args).run P w = .ok (.enter gf args) w)
    (hseq : ∀ (l : Nat) (W : World), Below w.heap.size w W → Calls P gf (#[.func (.yield l) #[] #[]] ++ lb) W fun e W' => (∃ v, e = .returned v) ∧ Below W.heap.size W W')
    (hdone : ∀ (D : Nat) (W : World), w.heap.size ≤ D → Below w.heap.size w W → W.heap[D]? = some (.deferred (some [])) → Q .normal { a with defers := { target := .collected D, args := #[] } :: a.defers } W) :
    (Code.rangeFunc g ps assign body).wp P Q a w :=
  wp_rangeFunc (α := Empty) (encs := fun x => x.elim) (S := fun xs => xs = []) (Sp := fun _ => False) (N := 0) hg eg (Nat.le_refl _)
    (fun l J Jx W hW hJ hJx hY h0 => callsIn_wide.2 ((hseq l W hW).mono fun e W' h => ⟨h.1, .inl ⟨[], rfl, hJ [] W W' none h0 (Idx.grown_of h.2) (fun r e => by cases e)⟩⟩)) (fun x => x.elim)
    (fun pre W => Below w.heap.size w W) (fun _ _ _ => False) (ownFrom_below (Nat.le_refl _) (Nat.le_refl _)) (fun _ _ _ _ _ h _ _ => h.elim) (Below.refl _ _) (fun x => x.elim)
    (fun l x => x.elim) (fun l pre x => x.elim) (fun D xs W hD _ hb hK => hdone D W hD hb hK) (fun D c pre W _ h => h.elim)
theorem vals_none {w : World} {A : Option Addr} {cap : Nat} (b : Nat) (hq : Blk w b 116 #[.slice A 0 cap]) (l : Nat) (W : World) (hW : Below w.heap.size w W) :
    Calls Tryz.prog 113 (#[.func (.yield l) #[] #[]] ++ #[.pointer (some ⟨b, 0, none⟩)]) W fun e W' => (∃ v, e = .returned v) ∧ Below W.heap.size W W' := by
  have cq : W.cell? ⟨b, 0, none⟩ = some (.slice A 0 cap) := (hq.ext hW).cell 0
  clear hq
  show Calls _ _ (#[.func (.yield l) #[] #[], .pointer (some ⟨b, 0, none⟩)]) _ _
  go_enter Tryz.func113, Tryz.ntmps113
  go_wp2_with fail
  go_loopw [7] (fun p wr => p = .int .i64 0 ∧ Below W.heap.size W wr) (fun p wr => 1)
  case atStart => exact ⟨rfl, Below.refl _ _⟩
  case round =>
    obtain ⟨rfl, hb⟩ := hrel
    go_wp2_with fail
    go_end0
    exact ⟨⟨_, rfl⟩, hb⟩
theorem pointsn_app (l : Nat) (W : World) : Calls Tryz.prog 99 (#[.func (.yield l) #[] #[]] ++ #[]) W fun e W' => (∃ v, e = .returned v) ∧ Below W.heap.size W W' := by
  rw [Array.append_empty]
  exact pointsn_any l W
theorem prices_nil (lo hi : Int) (w : World) : Calls Tryz.prog 61 #[.pointer none, .int .i64 lo, .int .i64 hi] w fun e w' => e = .returned (.slice none 0 0) ∧ Below w.heap.size w w' := by
  have hO : Blk (((w.alloc (.cells #[.int .i64 lo] 2)).alloc (.cells #[.int .i64 hi] 2)).alloc (.cells #[.slice none 0 0] 48)) (w.heap.size + 1 + 1) 48 #[.slice none 0 0] := Blk.new _ _ _ _ (by simp only [sz_alloc])
  have hb0 : Below w.heap.size w (((w.alloc (.cells #[.int .i64 lo] 2)).alloc (.cells #[.int .i64 hi] 2)).alloc (.cells #[.slice none 0 0] 48)) := by (repeat (first | with_reducible exact Below.refl _ _ | (with_reducible assumption) | (with_reducible refine below_alloc ?_ _) | (with_reducible refine below_ext (w1 := ?_) ?_ ?_; rotate_left 2; (with_reducible assumption)) | (with_reducible refine Below.setCell ?_ ?_ _; rotate_left; ((try simp) <;> omega)) | (with_reducible refine Below.drew ?_) | (with_reducible refine below_drewN ?_ _) | fail))
  have HP := Lib.hid (fun W => points_nil W)
  refine calls_of_wp_marks Tryz.func61 rfl ?_
  simp only [Tryz.ntmps61, List.size_toArray, List.length_cons, List.length_nil, Nat.reduceAdd, Nat.reduceSub, Array.replicate_succ, Array.replicate_zero, List.push_toArray, List.append_toArray, List.nil_append, List.cons_append]
  generalize hw0 : ((w.alloc (.cells #[.int .i64 lo] 2)).alloc (.cells #[.int .i64 hi] 2)).alloc (.cells #[.slice none 0 0] 48) = w0 at hO hb0
  have HW0 := Lib.hid hw0
  clear hw0
  go_wp2_with fail
  rw [HW0.out]
  refine (HP.out _).mono ?_
  rintro e w1 ⟨rfl, rfl⟩
  go_wp2_with fail
  refine wp_rangeFunc_none (gf := 99) (by rfl) (enters_of Tryz.func99 (by kernel_rfl) rfl) (fun l W _ => pointsn_app l W) ?_
  intro D W hD hb3 hK
  have hO3 := hO.ext hb3
  have hbW := below_ext hb0 hb3
  have hDl := (Array.getElem?_eq_some_iff.1 hK).1
  have hTl := hO.lt
  have hDn : w.heap.size + 1 + 1 < D := by omega
  have HK := Lib.hid hK
  have cO : W.cell? ⟨w.heap.size + 1 + 1, 0, none⟩ = some (.slice none 0 0) := hO3.cell 0
  clear hK hO hD hb0 hb3 HP HW0
  go_wp2_with (first | ((with_reducible show wpList _ _ _ (⟨_, .store _ _ _, _, _, _, _⟩ :: _) _ _); refine wpList_store_fld (by rfl) _ _ _ (by rfl) _ _ (by rfl) _ (by rfl) _ _ hO3 ?_ ?_ (by rfl) (by rfl) ?_; (next => first | omega | ((try simp) <;> omega)); (next => kernel_rfl); intro w4 hO4 hU4) | fail)
  have hK4 : w4.heap[D]? = some (.deferred (some [])) := (hU4.block D (by omega)).trans HK.out
  have hb4 : Below w.heap.size w w4 := below_upd hbW (by omega) hU4
  have hO5 : Blk w4 (w.heap.size + 1 + 1) 48 #[.slice none 0 0] := by
    simpa [go_sem] using hO4
  have hcc : (w4.putObj D (.deferred none)).cell? ⟨w.heap.size + 1 + 1, 0, none⟩ = some (.slice none 0 0) := (cell_mark (by omega)).trans (hO5.cell 0)
  exact bodyPostM_ret (v := .slice none 0 0) rfl hK4 (by simp [results, Tryz.results61, go_sem, hcc]) ⟨rfl, below_mark hb4 (by omega) hK4⟩
theorem wpList_eq_pt {ops : Array Oper} {rest : List Oper} {o : Oper} {a : Act} {w : World} {Q : Exit → Act → World → Prop} (hgd : Region.wanted o (yielded ops a.tmps) = true) (x y : Operand) (u : TypeId) (ho : o.op = .binOp .eql 67 x y u)
    (p q : Pt) (hx : a.eval x = .agg p.arr) (hy : a.eval y = .agg q.arr) (b : Bool) (hb : ptEq p q = b) (h : wpList Tryz.prog ops Q rest (a.put o.dst (.bool b)) w) : wpList Tryz.prog ops Q (o :: rest) a w :=
  wpList_step fun K hK => by
    rw [if_pos hgd]
    unfold Oper.wp execOp
    simp only [ho, hx, hy, Sem.run_bind, run_eqGuard_agg _ _ _ _ _ _ _ guardPt, Result.andThen_ok, run_eql_struct, eqPt, hb]
    exact hK _ _ h
theorem built_p1 (x : Int) : Tryz.prog.built 67 [(0, .int .i64 x)] = some (Pt.mk x 0 0).arr := by kernel_rfl
theorem all_nil {l : List Int} (h : All [] l) : l = [] := by
  cases l with
  | nil => rfl
  | cons x l =>
    obtain ⟨o, h1, _⟩ := (h.mem x).1 (List.mem_cons_self ..)
    cases h1
end Cu
end Go.Proofs.YtacpjpkhmdcagaaGreat
