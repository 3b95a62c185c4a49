/- This text proves that what is kept holds of the rest when the best level goes. It has no conditions but those that it states. -/
import Derived.Test.YtbhidcfhpkljbaaLadM
namespace Go.Proofs.Ytbhidcfhpkljbaa
set_option linter.unusedVariables false
namespace Lad
theorem kept_tail {side : Int} {ps : List Int} {x : Lvl} {t : List Lvl} {u : Nat → Nat} {qn : Nat} (K : Kept side ps (x :: t) u) (hq : x.queue = (qn : Int)) : Kept side (ps.filter (· != x.price)) t (clrU u qn) := by
  have hpw := (up_pw side _).1 K.up
  rw [List.pairwise_cons] at hpw
  have hne : ∀ l ∈ t, l.price ≠ x.price := fun l hl e => by
    have := hpw.1 l hl
    rw [e] at this
    omega
  have hnd := K.qs
  rw [List.map_cons, List.nodup_cons] at hnd
  have hq0 := K.q0 x (by simp)
  refine ⟨(up_pw side t).2 hpw.2, fun l hl => K.rng l (by simp [hl]), ?_, ?_, ?_, hnd.2, ?_, fun l hl => K.q0 l (by simp [hl]), clrU_lt K.ul _⟩
  · intro l hl
    obtain ⟨c1, c2⟩ := K.cnt l (by simp [hl])
    rw [List.count_filter (by simpa using hne l hl)]
    exact ⟨c1, c2⟩
  · intro z hz
    obtain ⟨h1, h2⟩ := List.mem_filter.1 hz
    obtain ⟨l, hl, rfl⟩ := K.all z h1
    rcases List.mem_cons.1 hl with rfl | h
    · simp at h2
    · exact ⟨l, h, rfl⟩
  · intro l hl
    exact List.mem_filter.2 ⟨K.pos l (by simp [hl]), by simpa using hne l hl⟩
  · intro j
    have hb := K.bz j
    rw [List.map_cons, List.mem_cons] at hb
    by_cases hj : j < 256
    · rw [busy_clr K.ul qn j hj, Bool.and_eq_true, hb, decide_eq_true_eq]
      constructor
      · rintro ⟨h | h, h2⟩
        · omega
        · exact h
      · intro h
        refine ⟨.inr h, fun e => hnd.1 ?_⟩
        rw [hq, ← e]
        exact h
    · have e : busy (clrU u qn) j = busy u j := by
        unfold busy clrU
        rw [if_neg (by omega)]
      rw [e, hb]
      constructor
      · rintro (h | h)
        · omega
        · exact h
      · exact .inr
end Lad
end Go.Proofs.Ytbhidcfhpkljbaa
