/- This text proves what each act does on both queues: contracts of the package fifo: New, Push, Front, Pop, Remove, Of, Len, over links that are held as data, and of the document's queues. It has no conditions but those that they state. -/
import Derived.Test.YtodgeakkecaliaaFifoRefT
import Derived.Test.YtodgeakkecaliaaFifoNew
namespace Go.Proofs.Ytodgeakkecaliaa
set_option linter.unusedVariables false
open Go.RowKit
namespace Fif
set_option maxHeartbeats 4000000
set_option maxRecDepth 10000

/-- What the lists of queues meet. -/
structure Dis (N Q : Nat) (L : Nat → List Nat) : Prop where
  lt : ∀ i, i < Q → ∀ n ∈ L i, n < N
  nodup : ∀ i, i < Q → (L i).Nodup
  one : ∀ i j n, i < Q → j < Q → n ∈ L i → n ∈ L j → i = j
theorem Fq.dis {w : World} {g bn be N Q : Nat} {L : Nat → List Nat} (h : Fq w g bn be N Q L) : Dis N Q L := by
  obtain ⟨s, cn, ce, f, I⟩ := h
  exact ⟨I.lt, I.nodup, fun i j n hi hj h1 h2 => I.one hi hj h1 h2⟩
theorem Dis.at {N Q : Nat} {L : Nat → List Nat} (D : Dis N Q L) {i n : Nat} (hi : i < Q) (hn : n ∈ L i) : ∃ a b, L i = a ++ n :: b ∧ n ∉ a ∧ ∀ j, j < i → n ∉ L j := by
  obtain ⟨a, b, e⟩ := List.append_of_mem hn
  refine ⟨a, b, e, fun ha => ?_, fun j hj h1 => ?_⟩
  · have h1 := D.nodup i hi
    rw [e, List.nodup_append] at h1
    exact h1.2.2 n ha n (by simp) rfl
  · have := D.one i j n hi (by omega) hn h1
    omega
theorem Dis.node {N Q : Nat} {L : Nat → List Nat} (D : Dis N Q L) (n : Int) : (∃ i m : Nat, n = (m : Int) ∧ m < N ∧ i < Q ∧ m ∈ L i ∧ ∃ a b, L i = a ++ m :: b ∧ m ∉ a ∧ ∀ j, j < i → m ∉ L j) ∨ (∀ i, i < Q → ∀ x ∈ L i, (x : Int) ≠ n) := by
  by_cases h : ∃ i x : Nat, i < Q ∧ x ∈ L i ∧ (x : Int) = n
  · obtain ⟨i, x, hi, hx, e⟩ := h
    exact .inl ⟨i, x, e.symm, D.lt i hi x hx, hi, hx, D.at hi hx⟩
  · exact .inr (fun i hi x hx e => h ⟨i, x, hi, hx, e⟩)
def FP (g bn be N Q : Nat) (L' : Nat → List Nat) (r : Value) (W : World) (e : Ending) (w' : World) : Prop := e = .returned r ∧ Fq w' g bn be N Q L' ∧ ButL [bn, be] W.heap.size W w'
def RP (h bl N Q : Nat) (L' : Nat → List Nat) (r : Value) (cl : Array Value) (W : World) (e : Ending) (w' : World) : Prop := e = .returned r ∧ (∃ cl', RQ w' h bl N Q L' cl' ∧ ∀ B, B ≤ W.heap.size → Far B cl → Far B cl') ∧ ButL [bl] W.heap.size W w'
section
variable {g bn be h bl N Q : Nat} {L : Nat → List Nat}
theorem fp_same {W : World} {F : Nat} {args : Array Value} {r : Value} (f : Fq W g bn be N Q L) (H : Calls Try.prog F args W fun e w' => e = .returned r ∧ W = w') : Calls Try.prog F args W (FP g bn be N Q L r W) := by
  refine H.mono ?_
  rintro e w' ⟨rfl, rfl⟩
  exact ⟨rfl, f, ButL.refl _ _ _⟩
theorem fp_below {W : World} {F : Nat} {args : Array Value} {r : Value} (f : Fq W g bn be N Q L) (H : Calls Try.prog F args W fun e w' => e = .returned r ∧ Below W.heap.size W w') : Calls Try.prog F args W (FP g bn be N Q L r W) := by
  refine H.mono ?_
  rintro e w' ⟨rfl, hb⟩
  exact ⟨rfl, f.ext hb, ButL.of_below hb⟩
theorem rp_same {W : World} {F : Nat} {args : Array Value} {r : Value} {cl : Array Value} (q : RQ W h bl N Q L cl) (H : Calls Try.prog F args W fun e w' => e = .returned r ∧ W = w') : Calls Try.prog F args W (RP h bl N Q L r cl W) := by
  refine H.mono ?_
  rintro e w' ⟨rfl, rfl⟩
  exact ⟨rfl, ⟨cl, q, fun B _ hF => hF⟩, ButL.refl _ _ _⟩
/-- What a pair of functions answers, and makes of the lists. -/
def Pair (g bn be h bl N Q : Nat) (L : Nat → List Nat) (F R : Nat) (fa : Array Value) (r : Value) (L' : Nat → List Nat) : Prop :=
  (∀ W, Fq W g bn be N Q L → Calls Try.prog F (#[.pointer (some ⟨g, 0, none⟩)] ++ fa) W (FP g bn be N Q L' r W)) ∧ (∀ W cl, RQ W h bl N Q L cl → Calls Try.prog R (#[.pointer (some ⟨h, 0, none⟩)] ++ fa) W (RP h bl N Q L' r cl W))
theorem push_pair (D : Dis N Q L) (i n : Int) : ∃ (b : Bool) (L' : Nat → List Nat), Pair g bn be h bl N Q L 30 44 #[.int .i64 i, .int .i64 n] (.bool b) L' := by
  by_cases hi : i < 0 ∨ (Q : Int) ≤ i
  · refine ⟨false, L, fun W f => fp_below f (q_push_queue f i n hi), fun W cl q => rp_same q (rpush_queue q i n hi ?_)⟩
    rcases D.node n with ⟨j, m, rfl, hm, hj, hmem, a, b, he, ha, hb⟩ | hno
    · refine (find_yes q j m a b hj he ha hb).mono ?_
      rintro e w' ⟨rfl, rfl⟩
      exact ⟨⟨_, _, rfl⟩, rfl⟩
    · refine (find_no q n hno).mono ?_
      rintro e w' ⟨rfl, rfl⟩
      exact ⟨⟨_, _, rfl⟩, rfl⟩
  · obtain ⟨i, rfl⟩ : ∃ m : Nat, i = m := ⟨i.toNat, by omega⟩
    have hiQ : i < Q := by omega
    by_cases hn : n < 0 ∨ (N : Int) ≤ n
    · exact ⟨false, L, fun W f => fp_below f (q_push_node f i n hiQ hn), fun W cl q => rp_same q (rpush_node q i n hn D.lt)⟩
    · obtain ⟨n, rfl⟩ : ∃ m : Nat, n = m := ⟨n.toNat, by omega⟩
      have hnN : n < N := by omega
      rcases D.node n with ⟨j, m, e, hm, hj, hmem, a, b, he, ha, hb⟩ | hno
      · have : n = m := by omega
        subst this
        exact ⟨false, L, fun W f => fp_below f (q_push_busy f i j n hiQ hj hmem), fun W cl q => rp_same q (rpush_busy q i j n _ hiQ hnN (find_yes q j n a b hj he ha hb))⟩
      · have hfree : ∀ j, j < Q → n ∉ L j := fun j hj hm => hno j hj n hm rfl
        have hlen : (L i).length + 1 ≤ N := by
          have := len_le N (L i ++ [n]) (List.nodup_append.2 ⟨D.nodup i hiQ, by simp, fun a ha b hb e => hfree i hiQ (by simp at hb; rw [← hb, ← e]; exact ha)⟩) (fun x hx => by
            simp at hx
            rcases hx with hx | hx
            · exact D.lt i hiQ x hx
            · omega)
          simpa using this
        refine ⟨true, _, fun W f => q_push_yes f i n hiQ hnN hfree, fun W cl q => rpush_yes q i n hiQ hnN hfree (by have := q.lim; omega)⟩
theorem remove_pair (D : Dis N Q L) (n : Int) : ∃ (k : Int) (b : Bool) (L' : Nat → List Nat), Pair g bn be h bl N Q L 31 46 #[.int .i64 n] (.tuple #[.int .i64 k, .bool b]) L' := by
  rcases D.node n with ⟨j, m, rfl, hm, hj, hmem, a, b, he, ha, hb⟩ | hno
  · exact ⟨j, true, _, fun W f => q_remove_yes f j m a b hj he, fun W cl q => rremove_yes q j m a b hj he ha hb⟩
  · exact ⟨0, false, L, fun W f => fp_same f (q_remove_none f n (fun k e j hj hm => hno j hj k hm e.symm)), fun W cl q => rp_same q (rremove_none q n hno)⟩
theorem queue_case (L : Nat → List Nat) (Q : Nat) (i : Int) : (∃ (k x : Nat) (t : List Nat), i = (k : Int) ∧ k < Q ∧ L k = x :: t) ∨ (∀ k : Nat, i = k → k < Q → L k = []) := by
  by_cases h : ∃ k : Nat, i = k ∧ k < Q ∧ L k ≠ []
  · obtain ⟨k, e, hk, hne⟩ := h
    cases e2 : L k with
    | nil => exact absurd e2 hne
    | cons x t => exact .inl ⟨k, x, t, e, hk, e2⟩
  · exact .inr (fun k e hk => Decidable.byContradiction fun hne => h ⟨k, e, hk, hne⟩)
theorem rfront_non {W : World} {cl : Array Value} (q : RQ W h bl N Q L cl) (i : Int) (hi : ∀ k : Nat, i = k → k < Q → L k = []) : Calls Try.prog 47 #[.pointer (some ⟨h, 0, none⟩), .int .i64 i] W fun e w' => e = .returned (.tuple #[.int .i64 0, .bool false]) ∧ W = w' := by
  by_cases hr : i < 0 ∨ (Q : Int) ≤ i
  · exact rfront_no q i hr
  · obtain ⟨k, rfl⟩ : ∃ m : Nat, i = m := ⟨i.toNat, by omega⟩
    exact rfront_none q k (by omega) (hi k rfl (by omega))
theorem front_pair (i : Int) : ∃ (k : Int) (b : Bool) (L' : Nat → List Nat), Pair g bn be h bl N Q L 34 47 #[.int .i64 i] (.tuple #[.int .i64 k, .bool b]) L' := by
  rcases queue_case L Q i with ⟨k, x, t, rfl, hk, he⟩ | hno
  · exact ⟨x, true, L, fun W f => fp_below f (q_front_some f k x t hk he), fun W cl q => rp_same q (rfront_some q k x t hk he)⟩
  · exact ⟨0, false, L, fun W f => fp_below f (q_front_none f i hno), fun W cl q => rp_same q (rfront_non q i hno)⟩
theorem rpop_some {W : World} {cl : Array Value} (q : RQ W h bl N Q L cl) (D : Dis N Q L) (i x : Nat) (t : List Nat) (hi : i < Q) (he : L i = x :: t) : Calls Try.prog 45 #[.pointer (some ⟨h, 0, none⟩), .int .i64 i] W (RP h bl N Q (up L i t) (.tuple #[.int .i64 x, .bool true]) cl W) := by
  have HF := Lib.hid (rfront_some q i x t hi he)
  have HR := Lib.hid (rremove_yes q i x [] t hi he (by simp) (fun j hj hm => by
    have := D.one i j x hi (by omega) (by rw [he]; simp) hm
    omega))
  clear he
  go_enter Try.func45, Try.ntmps45
  go_wp2_with fail
  refine HF.out.mono ?_
  rintro e w1 ⟨rfl, rfl⟩
  go_wp2_with fail
  refine HR.out.mono ?_
  rintro e w2 ⟨rfl, h2, hu2⟩
  go_wp2_with fail
  go_ret2
  exact ⟨rfl, h2, hu2⟩
theorem rpop_none {W : World} {cl : Array Value} (q : RQ W h bl N Q L cl) (i : Int) (hi : ∀ k : Nat, i = k → k < Q → L k = []) : Calls Try.prog 45 #[.pointer (some ⟨h, 0, none⟩), .int .i64 i] W fun e w' => e = .returned (.tuple #[.int .i64 0, .bool false]) ∧ W = w' := by
  have HF := Lib.hid (rfront_non q i hi)
  clear hi
  go_enter Try.func45, Try.ntmps45
  go_wp2_with fail
  refine HF.out.mono ?_
  rintro e w1 ⟨rfl, rfl⟩
  go_wp2_with fail
  go_ret2
  exact ⟨rfl, rfl⟩
theorem pop_pair (D : Dis N Q L) (i : Int) : ∃ (k : Int) (b : Bool) (L' : Nat → List Nat), Pair g bn be h bl N Q L 32 45 #[.int .i64 i] (.tuple #[.int .i64 k, .bool b]) L' := by
  rcases queue_case L Q i with ⟨k, x, t, rfl, hk, he⟩ | hno
  · exact ⟨x, true, _, fun W f => q_pop_some f k x t hk he, fun W cl q => rpop_some q D k x t hk he⟩
  · exact ⟨0, false, L, fun W f => fp_below f (q_pop_none f i hno), fun W cl q => rp_same q (rpop_none q i hno)⟩
/-- Of, and Find: what the one says, and the other. -/
theorem of_pair (D : Dis N Q L) (n : Int) : ∃ (k : Nat) (b : Bool) (x y : Int), ((b = true ∧ x = k) ∨ (b = false ∧ x = -1 ∧ k = 0)) ∧ (∀ W, Fq W g bn be N Q L → Calls Try.prog 35 #[.pointer (some ⟨g, 0, none⟩), .int .i64 n] W fun e w' => e = .returned (.tuple #[.int .i64 k, .bool b]) ∧ W = w') ∧ (∀ W cl, RQ W h bl N Q L cl → Calls Try.prog 48 #[.pointer (some ⟨h, 0, none⟩), .int .i64 n] W fun e w' => e = .returned (.tuple #[.int .i64 x, .int .i64 y]) ∧ W = w') := by
  rcases D.node n with ⟨j, m, rfl, hm, hj, hmem, a, b, he, ha, hb⟩ | hno
  · refine ⟨j, true, j, a.length, .inl ⟨rfl, rfl⟩, fun W f => ?_, fun W cl q => find_yes q j m a b hj he ha hb⟩
    obtain ⟨s, cn, ce, f, I⟩ := f
    exact of_yes f m j hm (I.q hj hmem)
  · refine ⟨0, false, -1, 0, .inr ⟨rfl, rfl, rfl⟩, fun W f => ?_, fun W cl q => find_no q n hno⟩
    obtain ⟨s, cn, ce, f, I⟩ := f
    by_cases hr : n < 0 ∨ (N : Int) ≤ n
    · exact of_no f n hr
    · obtain ⟨n, rfl⟩ : ∃ m : Nat, n = m := ⟨n.toNat, by omega⟩
      exact of_loose f n (by omega) (I.loose n (by omega) (fun j hj hm => hno j hj n hm rfl)).2.2
end
end Fif
end Go.Proofs.Ytodgeakkecaliaa
