/- This text proves plain laws of the arena's state as a book holds it: which slots are taken, and which are free. It has no conditions but those that it states. -/
import Derived.Test.YtdhbioaoholcbaaArena
import Derived.Test.YtdhbioaoholcbaaLadS
import Derived.Test.YtdhbioaoholcbaaFifoNew
import Derived.Test.YtdhbioaoholcbaaIndex
import Derived.Test.YtdhbioaoholcbaaLadW
namespace Go.Proofs.Ytdhbioaoholcbaa
set_option linter.unusedVariables false
namespace Bk
open Are (St takeS dropS setS new0 ord0 st_ext)
/-- A slot, and the order in it. -/
abbrev Sl := Nat × Ord
/-- The free slots, one behind the other. -/
def Chain (nx : Nat → Int) : Int → List Nat → Prop
  | f, [] => f = -1
  | f, x :: l => f = x ∧ Chain nx (nx x) l
theorem Chain.put {nx : Nat → Int} {k : Nat} {v : Int} : ∀ {l : List Nat} {f : Int}, Chain nx f l → k ∉ l → Chain (fun i => if i = k then v else nx i) f l
  | [], _, h, _ => h
  | x :: l, f, h, hk => by
    simp only [List.mem_cons, not_or] at hk
    refine ⟨h.1, ?_⟩
    have e : (fun i => if i = k then v else nx i) x = nx x := if_neg (fun e => hk.1 e.symm)
    rw [e]
    exact Chain.put h.2 hk.2
structure AI (N : Nat) (ss : List Sl) (st : St) (fl : List Nat) : Prop where
  size : st.size = N
  used : st.used = (ss.length : Int)
  chain : Chain st.nx st.free fl
  fnd : fl.Nodup
  fre : ∀ k, k ∈ fl ↔ k < N ∧ k ∉ ss.map (·.1)
  tk : ∀ x ∈ ss, x.1 < N ∧ st.nx x.1 = -2 ∧ st.o x.1 = x.2
  snd : (ss.map (·.1)).Nodup
theorem chain_range (nx : Nat → Int) (N : Nat) (h : ∀ k, k < N → nx k = if k = N - 1 then -1 else (k : Int) + 1) : ∀ m i : Nat, i + m = N → Chain nx (if i = N then -1 else (i : Int)) (List.range' i m)
  | 0, i, e => by
    rw [if_pos (by omega)]
    rfl
  | m + 1, i, e => by
    rw [if_neg (by omega)]
    refine ⟨rfl, ?_⟩
    have h1 := chain_range nx N h m (i + 1) (by omega)
    rw [h i (by omega)]
    by_cases hi : i = N - 1
    · rw [if_pos hi]
      rw [if_pos (by omega)] at h1
      exact h1
    · rw [if_neg hi]
      rw [if_neg (by omega)] at h1
      exact h1
theorem ai_new {N : Nat} (hN : 1 ≤ N) : AI N [] (new0 N) (List.range' 0 N) := by
  refine ⟨rfl, rfl, ?_, List.nodup_range', fun k => ?_, by simp, by simp⟩
  · have h := chain_range (new0 N).nx N (fun k hk => by simp only [new0]; split <;> simp_all) N 0 (by omega)
    rw [if_neg (by omega)] at h
    exact h
  · simp [List.mem_range'_1]
theorem ai_len {N : Nat} {ss : List Sl} {st : St} {fl : List Nat} (h : AI N ss st fl) : ss.length ≤ N := by
  have := Lad.nodup_len (ss.map (·.1)) (List.range N) h.snd (fun a ha => by
    obtain ⟨x, hx, rfl⟩ := List.mem_map.1 ha
    exact List.mem_range.2 (h.tk x hx).1)
  simpa using this
theorem ai_room {N : Nat} {ss : List Sl} {st : St} {fl : List Nat} (h : AI N ss st fl) (hl : ss.length < N) : ∃ k t, fl = k :: t := by
  cases fl with
  | cons k t => exact ⟨k, t, rfl⟩
  | nil =>
    have := Lad.nodup_len (List.range N) (ss.map (·.1)) List.nodup_range (fun a ha => by
      by_cases hm : a ∈ ss.map (·.1)
      · exact hm
      · have := (h.fre a).2 ⟨List.mem_range.1 ha, hm⟩
        simp at this)
    simp at this
    omega
theorem ai_take {N k : Nat} {ss : List Sl} {st : St} {fl : List Nat} (h : AI N ss st (k :: fl)) (o : Ord) : AI N (ss ++ [(k, o)]) (takeS st k o) fl := by
  obtain ⟨h1, h2, h3, h4, h5, h6, h7⟩ := h
  obtain ⟨hkf, hnd⟩ := List.nodup_cons.1 h4
  have hk := (h5 k).1 (by simp)
  have hne : ∀ x ∈ ss, x.1 ≠ k := fun x hx e => hk.2 (List.mem_map.2 ⟨x, hx, e⟩)
  refine ⟨h1, ?_, Chain.put h3.2 hkf, hnd, fun j => ?_, ?_, ?_⟩
  · simp [takeS, h2]
  · have := h5 j
    simp only [List.mem_cons, List.map_append, List.map_cons, List.map_nil, List.mem_append, List.mem_singleton, not_or] at this ⊢
    constructor
    · intro hj
      obtain ⟨a, b⟩ := this.1 (.inr hj)
      exact ⟨a, b, fun e => hkf (e ▸ hj), by simp⟩
    · rintro ⟨a, b, c⟩
      rcases this.2 ⟨a, b⟩ with e | e
      · exact absurd e c.1
      · exact e
  · intro x hx
    rcases List.mem_append.1 hx with hx | hx
    · obtain ⟨a, b, c⟩ := h6 x hx
      have e := hne x hx
      exact ⟨a, by simp [takeS, e, b], by simp [takeS, e, c]⟩
    · obtain rfl := List.mem_singleton.1 hx
      exact ⟨hk.1, by simp [takeS], by simp [takeS]⟩
  · rw [List.map_append, List.nodup_append]
    refine ⟨h7, by simp, fun a ha b hb e => ?_⟩
    obtain ⟨x, hx, rfl⟩ := List.mem_map.1 ha
    simp at hb
    exact hne x hx (e.trans hb)
theorem ai_drop {N k : Nat} {a b : List Sl} {o : Ord} {st : St} {fl : List Nat} (h : AI N (a ++ (k, o) :: b) st fl) : AI N (a ++ b) (dropS st k) (k :: fl) := by
  obtain ⟨h1, h2, h3, h4, h5, h6, h7⟩ := h
  have hkn := h6 (k, o) (by simp)
  have hnd : ((a ++ b).map (·.1)).Nodup ∧ k ∉ (a ++ b).map (·.1) := by
    have h := h7
    rw [List.map_append, List.map_cons] at h
    have hp := (List.perm_middle (a := k) (l₁ := a.map (·.1)) (l₂ := b.map (·.1))).nodup_iff.1 h
    rw [List.nodup_cons, ← List.map_append] at hp
    exact ⟨hp.2, hp.1⟩
  have hkf : k ∉ fl := fun hm => ((h5 k).1 hm).2 (by simp)
  refine ⟨h1, ?_, ⟨rfl, ?_⟩, List.nodup_cons.2 ⟨hkf, h4⟩, fun j => ?_, ?_, hnd.1⟩
  · simp [dropS, h2]
    omega
  · have e : (dropS st k).nx k = st.free := by simp [dropS]
    rw [e]
    exact Chain.put h3 hkf
  · have := h5 j
    rw [List.mem_cons]
    simp only [List.map_append, List.map_cons, List.mem_append, List.mem_cons, not_or] at this ⊢
    have h8 := hnd.2
    simp only [List.map_append, List.mem_append, not_or] at h8
    constructor
    · rintro (rfl | hj)
      · exact ⟨hkn.1, h8⟩
      · obtain ⟨p, q, _, r⟩ := this.1 hj
        exact ⟨p, q, r⟩
    · rintro ⟨p, q, r⟩
      by_cases e : j = k
      · exact .inl e
      · exact .inr (this.2 ⟨p, q, e, r⟩)
  · intro x hx
    have hx' : x ∈ a ++ (k, o) :: b := by
      rcases List.mem_append.1 hx with h | h
      · exact List.mem_append.2 (.inl h)
      · exact List.mem_append.2 (.inr (List.mem_cons_of_mem _ h))
    obtain ⟨p, q, r⟩ := h6 x hx'
    have hne : x.1 ≠ k := fun e => hnd.2 (List.mem_map.2 ⟨x, hx, e⟩)
    exact ⟨p, by simp [dropS, hne, q], by simp [dropS, hne, r]⟩
theorem ai_set {N k : Nat} {a b : List Sl} {o : Ord} {st : St} {fl : List Nat} (h : AI N (a ++ (k, o) :: b) st fl) (x : Ord) : AI N (a ++ (k, x) :: b) (setS st k x) fl := by
  obtain ⟨h1, h2, h3, h4, h5, h6, h7⟩ := h
  have hkn := h6 (k, o) (by simp)
  have hnd : k ∉ (a ++ b).map (·.1) := by
    have h := h7
    rw [List.map_append, List.map_cons] at h
    have hp := (List.perm_middle (a := k) (l₁ := a.map (·.1)) (l₂ := b.map (·.1))).nodup_iff.1 h
    rw [List.nodup_cons, ← List.map_append] at hp
    exact hp.1
  refine ⟨h1, by simpa [setS] using h2, h3, h4, fun j => by simpa using h5 j, ?_, by simpa using h7⟩
  intro y hy
  rcases List.mem_append.1 hy with hy | hy
  · have hne : y.1 ≠ k := fun e => hnd (by rw [List.map_append]; exact List.mem_append.2 (.inl (List.mem_map.2 ⟨y, hy, e⟩)))
    obtain ⟨p, q, r⟩ := h6 y (List.mem_append.2 (.inl hy))
    exact ⟨p, by simp [setS, q], by simp [setS, hne, r]⟩
  · rcases List.mem_cons.1 hy with rfl | hy
    · exact ⟨hkn.1, by simpa [setS] using hkn.2.1, by simp [setS]⟩
    · have hne : y.1 ≠ k := fun e => hnd (by rw [List.map_append]; exact List.mem_append.2 (.inr (List.mem_map.2 ⟨y, hy, e⟩)))
      obtain ⟨p, q, r⟩ := h6 y (List.mem_append.2 (.inr (List.mem_cons_of_mem _ hy)))
      exact ⟨p, by simp [setS, q], by simp [setS, hne, r]⟩
end Bk
end Go.Proofs.Ytdhbioaoholcbaa
