/- This text proves what the first fault of a row of questions is: the contract of admit.first, whatever functions are handed in. It has no conditions but those that it states. -/
import Derived.Test.YtbnappiaomiciaaMul
namespace Go.Proofs.Ytbnappiaomiciaa
set_option linter.unusedVariables false
open Go.RowKit
namespace Adm
set_option maxHeartbeats 1000000
set_option maxRecDepth 10000
/-- A fault comes. -/
def FPost (f : Int) (w : World) (e : Ending) (w' : World) : Prop := e = .returned (.int .i64 f) ∧ Below w.heap.size w w'
def firstF (f : Nat → Int) : Nat → Nat → Int
  | _, 0 => 0
  | k, m + 1 => if f k = 0 then firstF f (k + 1) m else f k
def unlF (b : Bool) (f : Int) : Int := if b = true then 0 else f
theorem unless_any (b : Bool) (f : Int) (w : World) : Calls Try.prog 27 #[.bool b, .int .i64 f] w fun e w' => e = .returned (.int .i64 (unlF b f)) ∧ w = w' := by
  cases b
  · go_enter Try.func27, Try.ntmps27
    go_wp2_with fail
    go_ret
    exact ⟨rfl, rfl⟩
  · go_enter Try.func27, Try.ntmps27
    go_wp2_with fail
    go_ret
    exact ⟨rfl, rfl⟩
theorem callFunc_in {P : Program} {f : FuncId} {fn : Func} {c : Code} (hf : P.funcs[f]? = some fn) (hname : (fn.name == "runtime.NumGoroutine") = false) (hb : fn.body = some c) (args : Array Value) (w : World) : (callFunc f args).run P w = .ok (.enter f args) w := by
  have h1 : fn.name ≠ "runtime.NumGoroutine" := by simpa using hname
  simp [callFunc, hf, h1, hb]
theorem first_any (n g : Nat) (K : Nat → Nat) (caps : Nat → Array Value) (f : Nat → Int) (hn : n ≤ 100) {w : World} (hc : ∀ k, k < n → w.cell? ⟨g, k, none⟩ = some (.func (.func (K k)) #[] (caps k)))
    (hq : ∀ k, k < n → ∀ args W, (callFunc (K k) args).run Try.prog W = .ok (.enter (K k) args) W)
    (hk : ∀ k, k < n → (∀ j, j < k → f j = 0) → ∀ W, Below w.heap.size w W → Calls Try.prog (K k) (caps k) W (FPost (f k) W)) :
    Calls Try.prog 25 #[.slice (some ⟨g, 0, none⟩) n n] w (FPost (firstF f 0 n) w) := by
  replace hc := Lib.hid hc
  replace hk := Lib.hid hk
  replace hq := Lib.hid hq
  go_enter Try.func25, Try.ntmps25
  go_wp2_with fail
  go_loopw [8] (fun i wr => ∃ k : Nat, i = .int .i64 k ∧ k ≤ n ∧ Hid (firstF f k (n - k) = firstF f 0 n) ∧ Hid (∀ j, j < k → f j = 0) ∧ Below w.heap.size w wr) (fun i _ => n - (intOf i).toNat)
  case atStart => exact ⟨0, rfl, Nat.zero_le _, Lib.hid rfl, Lib.hid (fun j hj => absurd hj (Nat.not_lt_zero j)), Below.refl _ _⟩
  case round =>
    obtain ⟨k, rfl, hkn, hF, hz, hb⟩ := hrel
    by_cases hlt : k < n
    · have e1 : (k : Int) < (n : Int) := by omega
      have hc1 := hc.out k hlt
      have hc2 : wr.cell? ⟨g, k, none⟩ = some (.func (.func (K k)) #[] (caps k)) := (hb.cell (p := ⟨g, k, none⟩) (cell_lt hc1)).trans hc1
      have hK := Lib.hid (hk.out k hlt hz.out wr hb)
      have hq1 := hq.out k hlt
      have hF2 := hF.out
      rw [show n - k = n - (k + 1) + 1 by omega, firstF] at hF2
      clear hc1 hF hk hc hq
      have hzn : f k = 0 → ∀ j, j < k + 1 → f j = 0 := fun h j hj => by
        rcases Nat.lt_or_ge j k with h1 | h1
        · exact hz.out j h1
        · rw [show j = k by omega]; exact h
      replace hzn := Lib.hid hzn
      generalize f k = fk at *
      generalize K k = kk at *
      generalize caps k = cc at *
      by_cases h0 : fk = 0
      · subst h0
        rw [if_pos rfl] at hF2
        have hz2 := Lib.hid (hzn.out rfl)
        clear hzn
        replace hF2 := Lib.hid hF2
        go_wp2_with (first | ((with_reducible refine hK.out.mono ?_); rintro e w1 ⟨rfl, hb1⟩) | fail)
        go_roundw
        case rel => exact ⟨k + 1, by go_num, by omega, hF2, hz2, below_ext hb hb1⟩
        case measure => simp [intOf]; omega
      · rw [if_neg h0] at hF2
        have h1 : (fk == 0) = false := by simpa using h0
        replace hF2 := Lib.hid hF2
        go_wp2_with (first | ((with_reducible refine hK.out.mono ?_); rintro e w1 ⟨rfl, hb1⟩) | fail)
        go_ret
        exact ⟨by rw [← hF2.out]; rfl, below_ext hb hb1⟩
    · have hke : k = n := by omega
      subst hke
      rw [Nat.sub_self] at hF
      go_wp2_with fail
      go_ret
      exact ⟨by rw [← hF.out]; rfl, hb⟩
end Adm
end Go.Proofs.Ytbnappiaomiciaa
