/- This text proves what Put of three makes of a ladder that keeps what LadderSorts asks. It has no conditions but those that it states. -/
import Derived.Test.YtbhidcfhpkljbaaLadK
namespace Go.Proofs.Ytbhidcfhpkljbaa
set_option linter.unusedVariables false
open Go.RowKit
namespace Lad
theorem kept_len {side : Int} {ps : List Int} {ls : List Lvl} {u : Nat → Nat} (K : Kept side ps ls u) : ls.length ≤ ps.length := by
  have hn : (ls.map (·.price)).Nodup := by
    have h := (up_pw side ls).1 K.up
    refine List.Pairwise.map _ (fun a b hab => ?_) h
    intro e
    have : keyF side a.price = keyF side b.price := congrArg (keyF side) e
    omega
  have := nodup_len _ ps hn (fun a ha => by
    obtain ⟨l, hl, rfl⟩ := List.mem_map.1 ha
    exact K.pos l hl)
  simpa using this
section
variable {w : World} {g : Nat} {side : Int} {v : Value} {ls : List Lvl} {u : Nat → Nat} {ps : List Int}
def PutPost (g : Nat) (side : Int) (v : Value) (ps : List Int) (w : World) (e : Ending) (w' : World) : Prop :=
  ∃ q v' ls' u', e = .returned (.tuple #[.int .i64 q, .int .i64 0]) ∧ La w' g side 40 v' ls' u' ∧ Kept side ps ls' u' ∧ LStep g v v' w w'
theorem put3 (L : La w g side 40 v ls u) (K : Kept side ps ls u) (hs : side = 0 ∨ side = 1) {p : Int} (hp : 1 ≤ p ∧ p ≤ 4611686018427387904) (hps : ps.length < 40) :
    Calls Try.prog 7 #[.pointer (some ⟨g, 0, none⟩), .int .i64 p, .int .i64 3] w (PutPost g side v (ps ++ [p]) w) := by
  have hlen := kept_len K
  obtain ⟨i, hst⟩ := stands_ex (kf := keys side ls) (k := keyF side p) ls.length K.up
  by_cases hf : i < ls.length ∧ keys side ls i = keyF side p
  · obtain ⟨hi, hk⟩ := hf
    have hml : ls[i] ∈ ls := List.getElem_mem hi
    have hpr : (ls[i]).price = p := by
      rw [keys_at hi] at hk
      exact key_inj hs (K.rng _ hml) hp hk
    obtain ⟨c1, c2⟩ := K.cnt _ hml
    have c3 : ps.count (ls[i]).price ≤ ps.length := List.count_le_length
    refine (put_add L K.up p 3 ⟨by omega, by omega⟩ ⟨by omega, by omega⟩ hi hst hk (List.getElem?_eq_getElem hi) ⟨by omega, by omega⟩ ⟨by omega, by omega⟩ ⟨by omega, by omega⟩).mono ?_
    rintro e w' ⟨rfl, L', hs'⟩
    have K' := kept_add K (List.getElem?_eq_getElem hi)
    rw [hpr] at K'
    exact ⟨_, _, _, _, rfl, by rw [hpr] at L'; exact L', K', hs'⟩
  · obtain ⟨qn, hq1, hq2, hq3⟩ := low_free (u := u) (qs := ls.map (·.queue)) (fun j h => (K.bz j).1 h)
    rw [List.length_map] at hq1
    refine (put_new L K.up p 3 ⟨by omega, by omega⟩ (by omega) hst hf (by omega) (by omega) K.ul qn (by omega) hq3 hq2).mono ?_
    rintro e w' ⟨v', rfl, L', hs'⟩
    exact ⟨_, _, _, _, rfl, L', kept_new K hp hst hf (by omega) hq2, hs'⟩
end
end Lad
end Go.Proofs.Ytbhidcfhpkljbaa
