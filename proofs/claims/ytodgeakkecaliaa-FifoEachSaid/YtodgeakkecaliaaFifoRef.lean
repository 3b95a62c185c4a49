/- This text proves contracts of the document's queues (fifo): whatever the input, the law returns true. It has no conditions. It holds contracts of the package fifo: New, Push, Front, Pop, Remove, Of, Len, over links that are held as data. It has no conditions but those that they state. -/
import Derived.Test.YtodgeakkecaliaaFifoQ
namespace Go.Proofs.Ytodgeakkecaliaa
set_option linter.unusedVariables false
open Go.RowKit
namespace Fif
set_option maxHeartbeats 4000000
set_option maxRecDepth 10000

def nrow (x : Nat) : List Value := [.int .i64 (x : Int)]
theorem nrow_ok (l : List Nat) : ∀ r ∈ l.map nrow, r.length = 1 ∧ ∀ u ∈ r, u.oneCell' = true := by
  intro r hr
  obtain ⟨x, _, rfl⟩ := List.mem_map.1 hr
  exact ⟨rfl, fun u hu => by simp [nrow] at hu; subst hu; rfl⟩
/-- One list in memory, as a slice. -/
structure RS (w : World) (h bl : Nat) (l : List Nat) (v : Value) (A : Option Addr) (cap : Nat) : Prop where
  is : v = .slice A l.length cap
  rd : Rd w 1 A (l.map nrow)
  fit : l.length ≤ cap
  nil : A = none → cap = 0
  far : ∀ a, A = some a → a.block ≠ h ∧ a.block ≠ bl ∧ a.block < w.heap.size
  len : l.length ≤ 500
/-- The document's queues in memory. -/
structure RQ (w : World) (h bl N Q : Nat) (L : Nat → List Nat) (cl : Array Value) : Prop where
  hd : Blk w h 67 #[.int .i64 N, .slice (some ⟨bl, 0, none⟩) Q Q]
  tab : Blk w bl 28 cl
  size : cl.size = Q
  row : ∀ i, i < Q → ∃ v A cap, cl[i]? = some v ∧ RS w h bl (L i) v A cap
  ne : h ≠ bl
  lim : N ≤ 500 ∧ Q ≤ 400
theorem RS.keep {w w' : World} {h bl : Nat} {l : List Nat} {v : Value} {A : Option Addr} {cap : Nat} (r : RS w h bl l v A cap) (hz : w.heap.size ≤ w'.heap.size) (hk : ∀ a, A = some a → w'.heap[a.block]? = w.heap[a.block]?) : RS w' h bl l v A cap :=
  ⟨r.is, r.rd.keep hk, r.fit, r.nil, fun a e => by have := r.far a e; omega, r.len⟩
theorem RQ.ext {w w' : World} {h bl N Q : Nat} {L : Nat → List Nat} {cl : Array Value} (q : RQ w h bl N Q L cl) (hb : Below w.heap.size w w') : RQ w' h bl N Q L cl :=
  ⟨q.hd.ext hb, q.tab.ext hb, q.size, fun i hi => by
    obtain ⟨v, A, cap, h1, h2⟩ := q.row i hi
    exact ⟨v, A, cap, h1, h2.keep hb.size (fun a e => hb.block _ (h2.far a e).2.2)⟩, q.ne, q.lim⟩
section
variable {w : World} {h bl N Q : Nat} {L : Nat → List Nat} {cl : Array Value}
theorem RQ.c (q : RQ w h bl N Q L cl) : w.cell? ⟨h, 0, none⟩ = some (.int .i64 N) ∧ w.cell? ⟨h, 1, none⟩ = some (.slice (some ⟨bl, 0, none⟩) Q Q) := ⟨q.hd.cell 0, q.hd.cell 1⟩
theorem RS.at {v : Value} {A : Option Addr} {cap : Nat} {l : List Nat} (r : RS w h bl l v A cap) {m : Nat} (hm : m < l.length) : ∃ b o, A = some ⟨b, o, none⟩ ∧ w.cell? ⟨b, o + m, none⟩ = some (.int .i64 (l[m] : Int)) := by
  obtain ⟨b, o, e, hc⟩ := r.rd.at hm
  have h0 := hc 0 _ rfl
  simp only [Nat.mul_one, Nat.add_zero] at h0
  exact ⟨b, o, e, h0⟩
theorem rhas_yes (q : RQ w h bl N Q L cl) (i : Nat) (hi : i < Q) : Calls Try.prog 28 #[.pointer (some ⟨h, 0, none⟩), .int .i64 i] w fun e w' => e = .returned (.bool true) ∧ w = w' := by
  obtain ⟨_, c1⟩ := q.c
  have hl := q.lim
  have e1 : (i : Int) < (Q : Int) := by omega
  have e2 : (0 : Int) ≤ (i : Int) := by omega
  go_enter Try.func28, Try.ntmps28
  go_wp2_with fail
  go_ret
  exact ⟨rfl, rfl⟩
theorem rhas_no (q : RQ w h bl N Q L cl) (i : Int) (hi : i < 0 ∨ (Q : Int) ≤ i) : Calls Try.prog 28 #[.pointer (some ⟨h, 0, none⟩), .int .i64 i] w fun e w' => e = .returned (.bool false) ∧ w = w' := by
  obtain ⟨_, c1⟩ := q.c
  have hl := q.lim
  by_cases h0 : i < 0
  · clear hi
    have e1 : decide (0 ≤ i) = false := decide_eq_false (by omega)
    go_enter Try.func28, Try.ntmps28
    go_wp2_with fail
    go_ret
    exact ⟨rfl, rfl⟩
  · have e1 : decide (0 ≤ i) = true := decide_eq_true (by omega)
    have e2 : decide (i < (Q : Int)) = false := decide_eq_false (by omega)
    clear hi
    go_enter Try.func28, Try.ntmps28
    go_wp2_with fail
    go_ret
    exact ⟨rfl, rfl⟩
/-- Is a number in the first lists? -/
theorem find_no (q : RQ w h bl N Q L cl) (n : Int) (hn : ∀ i, i < Q → ∀ x ∈ L i, (x : Int) ≠ n) : Calls Try.prog 48 #[.pointer (some ⟨h, 0, none⟩), .int .i64 n] w fun e w' => e = .returned (.tuple #[.int .i64 (-1), .int .i64 0]) ∧ w = w' := by
  obtain ⟨_, c1⟩ := q.c
  have hl := q.lim
  have HN := Lib.hid hn
  clear hn
  go_enter Try.func48, Try.ntmps48
  go_wp2
  go_loop [6] (fun i => ∃ k : Nat, k ≤ Q ∧ i = .int .i64 k) (fun i => Q - (intOf i).toNat)
  case atStart => exact ⟨0, Nat.zero_le _, rfl⟩
  case round =>
    obtain ⟨k, hk, rfl⟩ := hrel
    by_cases hlt : k < Q
    · obtain ⟨v, A, cap, hv, hr⟩ := q.row k hlt
      have hc : w.cell? ⟨bl, k, none⟩ = some (.slice A (L k).length cap) := (q.tab.cell k).trans (hv.trans (by rw [hr.is]))
      have h5 := hr.len
      have hfit := hr.fit
      have e1 : (k : Int) < (Q : Int) := by omega
      go_wp2_with fail
      go_loop [7] (fun i => ∃ m : Nat, m ≤ (L k).length ∧ i = .int .i64 m) (fun i => (L k).length - (intOf i).toNat)
      case atStart => exact ⟨0, Nat.zero_le _, rfl⟩
      case round =>
        obtain ⟨m, hm, rfl⟩ := hrel
        by_cases hlt2 : m < (L k).length
        · obtain ⟨b, o, rfl, hx⟩ := hr.at hlt2
          have hne := HN.out k hlt _ (List.getElem_mem hlt2)
          have hnb : (((L k)[m] : Int) == n) = false := by simpa using hne
          clear hne
          go_wp2_with fail
          go_round
          case rel => exact ⟨m + 1, by omega, by go_num⟩
          case measure => simp [intOf]; omega
        · go_wp2_with fail
          go_round
          case rel => exact ⟨k + 1, by omega, by go_num⟩
          case measure => simp [intOf]; omega
    · go_wp2_with fail
      go_ret2
      exact ⟨rfl, rfl⟩
theorem find_yes (q : RQ w h bl N Q L cl) (i n : Nat) (a b : List Nat) (hi : i < Q) (he : L i = a ++ n :: b) (ha : n ∉ a) (hb : ∀ j, j < i → n ∉ L j) : Calls Try.prog 48 #[.pointer (some ⟨h, 0, none⟩), .int .i64 n] w fun e w' => e = .returned (.tuple #[.int .i64 i, .int .i64 a.length]) ∧ w = w' := by
  obtain ⟨_, c1⟩ := q.c
  have hl := q.lim
  have HE := Lib.hid he
  have HA := Lib.hid ha
  have HB := Lib.hid hb
  clear he ha hb
  go_enter Try.func48, Try.ntmps48
  go_wp2
  go_loop [6] (fun t => ∃ k : Nat, k ≤ i ∧ t = .int .i64 k) (fun t => i - (intOf t).toNat)
  case atStart => exact ⟨0, Nat.zero_le _, rfl⟩
  case round =>
    obtain ⟨k, hk, rfl⟩ := hrel
    have hlt : k < Q := by omega
    obtain ⟨v, A, cap, hv, hr⟩ := q.row k hlt
    have hc : w.cell? ⟨bl, k, none⟩ = some (.slice A (L k).length cap) := (q.tab.cell k).trans (hv.trans (by rw [hr.is]))
    have h5 := hr.len
    have hfit := hr.fit
    have e1 : (k : Int) < (Q : Int) := by omega
    by_cases hki : k < i
    · go_wp2_with fail
      go_loop [7] (fun t => ∃ m : Nat, m ≤ (L k).length ∧ t = .int .i64 m) (fun t => (L k).length - (intOf t).toNat)
      case atStart => exact ⟨0, Nat.zero_le _, rfl⟩
      case round =>
        obtain ⟨m, hm, rfl⟩ := hrel
        by_cases hlt2 : m < (L k).length
        · obtain ⟨b, o, rfl, hx⟩ := hr.at hlt2
          have hne : (((L k)[m] : Int)) ≠ (n : Int) := fun e => HB.out k hki (by
            have : (L k)[m] = n := by omega
            rw [← this]
            exact List.getElem_mem hlt2)
          have hnb : (((L k)[m] : Int) == (n : Int)) = false := by simpa using hne
          clear hne
          go_wp2_with fail
          go_round
          case rel => exact ⟨m + 1, by omega, by go_num⟩
          case measure => simp [intOf]; omega
        · go_wp2_with fail
          go_round
          case rel => exact ⟨k + 1, by omega, by go_num⟩
          case measure => simp [intOf]; omega
    · have hki' : k = i := by omega
      subst hki'
      have hal : a.length < (L k).length := by rw [HE.out]; simp
      go_wp2_with fail
      go_loop [7] (fun t => ∃ m : Nat, m ≤ a.length ∧ t = .int .i64 m) (fun t => a.length - (intOf t).toNat)
      case atStart => exact ⟨0, Nat.zero_le _, rfl⟩
      case round =>
        obtain ⟨m, hm, rfl⟩ := hrel
        have hlt2 : m < (L k).length := by omega
        obtain ⟨b, o, rfl, hx⟩ := hr.at hlt2
        by_cases hma : m < a.length
        · have hne : (((L k)[m] : Int)) ≠ (n : Int) := fun e => HA.out (by
            have h1 : (L k)[m] = n := by omega
            have h2 : (L k)[m]? = some n := by rw [List.getElem?_eq_getElem hlt2, h1]
            rw [HE.out, List.getElem?_append_left hma] at h2
            exact List.mem_of_getElem? h2)
          have hnb : (((L k)[m] : Int) == (n : Int)) = false := by simpa using hne
          clear hne
          go_wp2_with fail
          go_round
          case rel => exact ⟨m + 1, by omega, by go_num⟩
          case measure => simp [intOf]; omega
        · have hma' : m = a.length := by omega
          have hn1 : (L k)[m] = n := by
            have h2 : (L k)[m]? = some n := by
              rw [HE.out, hma', List.getElem?_append_right (Nat.le_refl _)]
              simp
            rw [List.getElem?_eq_getElem hlt2] at h2
            injection h2
          have hx' : w.cell? ⟨b, o + m, none⟩ = some (.int .i64 n) := by rw [hx, hn1]
          have HM := Lib.hid hma'
          clear hx hn1 hma hma'
          go_wp2_with fail
          go_ret2
          exact ⟨by rw [← HM.out]; rfl, rfl⟩
theorem rfront_some (q : RQ w h bl N Q L cl) (i x : Nat) (t : List Nat) (hi : i < Q) (he : L i = x :: t) : Calls Try.prog 47 #[.pointer (some ⟨h, 0, none⟩), .int .i64 i] w fun e w' => e = .returned (.tuple #[.int .i64 x, .bool true]) ∧ w = w' := by
  obtain ⟨_, c1⟩ := q.c
  have hl := q.lim
  obtain ⟨v, A, cap, hv, hr⟩ := q.row i hi
  have hc : w.cell? ⟨bl, i, none⟩ = some (.slice A (L i).length cap) := (q.tab.cell i).trans (hv.trans (by rw [hr.is]))
  have h5 := hr.len
  have hfit := hr.fit
  have hpos : 0 < (L i).length := by rw [he]; simp
  obtain ⟨b, o, rfl, hx⟩ := hr.at hpos
  have hx' : w.cell? ⟨b, o, none⟩ = some (.int .i64 x) := by
    rw [Nat.add_zero] at hx
    rw [hx]
    simp only [he, List.getElem_cons_zero]
  have e1 : (i : Int) < (Q : Int) := by omega
  have e2 : (((L i).length : Int) == 0) = false := by simp; intro h0; rw [h0] at hpos; simp at hpos
  clear he hx
  go_enter Try.func47, Try.ntmps47
  go_wp2_with (first | (go_at_call 28; refine (rhas_yes q i hi).mono ?_; rintro e w' ⟨rfl, rfl⟩) | fail)
  go_ret2
  exact ⟨rfl, rfl⟩
theorem rfront_none (q : RQ w h bl N Q L cl) (i : Nat) (hi : i < Q) (he : L i = []) : Calls Try.prog 47 #[.pointer (some ⟨h, 0, none⟩), .int .i64 i] w fun e w' => e = .returned (.tuple #[.int .i64 0, .bool false]) ∧ w = w' := by
  obtain ⟨_, c1⟩ := q.c
  have hl := q.lim
  obtain ⟨v, A, cap, hv, hr⟩ := q.row i hi
  have hc : w.cell? ⟨bl, i, none⟩ = some (.slice A 0 cap) := (q.tab.cell i).trans (hv.trans (by rw [hr.is, he]; rfl))
  have e1 : (i : Int) < (Q : Int) := by omega
  clear he
  go_enter Try.func47, Try.ntmps47
  go_wp2_with (first | (go_at_call 28; refine (rhas_yes q i hi).mono ?_; rintro e w' ⟨rfl, rfl⟩) | fail)
  go_ret2
  exact ⟨rfl, rfl⟩
theorem rfront_no (q : RQ w h bl N Q L cl) (i : Int) (hi : i < 0 ∨ (Q : Int) ≤ i) : Calls Try.prog 47 #[.pointer (some ⟨h, 0, none⟩), .int .i64 i] w fun e w' => e = .returned (.tuple #[.int .i64 0, .bool false]) ∧ w = w' := by
  have HI := Lib.hid hi
  clear hi
  go_enter Try.func47, Try.ntmps47
  go_wp2_with (first | (go_at_call 28; refine (rhas_no q i HI.out).mono ?_; rintro e w' ⟨rfl, rfl⟩) | fail)
  go_ret2
  exact ⟨rfl, rfl⟩
end
end Fif
end Go.Proofs.Ytodgeakkecaliaa
