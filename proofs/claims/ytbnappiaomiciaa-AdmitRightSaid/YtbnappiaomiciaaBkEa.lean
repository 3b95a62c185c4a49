/- This text proves what a book's iterator hands over: a side's orders, by price and time. It has no conditions but those that it states. -/
import Derived.Test.YtbnappiaomiciaaBkV
import Derived.Test.YtbnappiaomiciaaBkE
import Derived.Test.YtbnappiaomiciaaMidRd
import Derived.Test.YtbnappiaomiciaaRound
import Derived.Scope
namespace Go.Proofs.Ytbnappiaomiciaa
set_option linter.unusedVariables false
open Go.RowKit
namespace Bk
set_option maxHeartbeats 4000000
set_option maxRecDepth 10000
attribute [local go_sem] Oper.semAt_some
open Lad (La encL Of)
open Fif (Fq Sl1)
open Are (Ar St)
theorem kc_own {β : Type} {nb : List Nat} {ts : List TypeId} {B B' : Nat} (w1 : World) (hB : B ≤ B') (hBw : B ≤ w1.heap.size) : OwnFrom B' (fun (_ : β) W => Kc nb ts B w1 W) := by
  rintro s W W' row ⟨h1, h2⟩ hg hr
  refine ⟨⟨hg.os.trans h1.os, hg.tape.trans h1.tape, hg.output.trans h1.output, Nat.le_trans h1.size hg.size, fun q hq hn => ?_⟩, fun k cs t fr hk hn ht => ?_⟩
  · have h3 := h1.block q hq hn
    rcases Nat.lt_or_ge q W.heap.size with h4 | h4
    · exact (hg.block q h4 (fun e => by have := (hr q e.symm).1; omega)).trans h3
    · have h5 : w1.heap.size ≤ q := Nat.le_trans h1.size h4
      omega
  · have h3 := h2 k cs t fr hk hn ht
    refine (hg.block k (Array.getElem?_eq_some_iff.1 h3).1 (fun e => ?_)).trans h3
    obtain ⟨_, o, ho, hc⟩ := hr k e.symm
    rw [h3] at ho
    cases ho
    cases hc
section
variable {n : Nat} {most N : Nat} {ss : List Sl} {ls : List Lvl} {u : Nat → Nat} {L : Nat → List Nat} {st : St} {fl : List Nat}
theorem lv_slots (S : SI (n : Int) most (sid n ss) ls u L) (A : AI N ss st fl) {l : Lvl} (hl : l ∈ ls) : (L l.queue.toNat).map st.o = atO (n : Int) l.price (osOf ss) := by
  rw [(S.lv l hl).list, ← atp_map, List.map_map]
  refine List.map_congr_left fun x hx => ?_
  have h1 : x ∈ ss := (List.mem_filter.1 (List.mem_filter.1 hx).1).1
  exact (A.tk x h1).2.2
theorem lv_slot (S : SI (n : Int) most (sid n ss) ls u L) (A : AI N ss st fl) {l : Lvl} (hl : l ∈ ls) {s : Nat} (hs : s ∈ L l.queue.toNat) : s < N ∧ st.nx s = -2 := by
  rw [(S.lv l hl).list] at hs
  obtain ⟨x, hx, rfl⟩ := List.mem_map.1 hs
  have h1 : x ∈ ss := (List.mem_filter.1 (List.mem_filter.1 hx).1).1
  exact ⟨(A.tk x h1).1, (A.tk x h1).2.1⟩
theorem lv_len (S : SI (n : Int) most (sid n ss) ls u L) {l : Lvl} (hl : l ∈ ls) : (L l.queue.toNat).length ≤ ss.length := by
  rw [(S.lv l hl).list, List.length_map]
  exact Nat.le_trans (List.length_filter_le _ _) (List.length_filter_le _ _)
end
/-- The orders of a side, each with the word that it is one. -/
abbrev Oo (n : Int) (os : List Ord) := {o : Ord // o ∈ srt n os}
def encO (n : Int) (os : List Ord) (x : Oo n os) : Array Value := #[.agg x.1.arr]
theorem cat_len {α β : Type} (f : α → List β) (M : Nat) : ∀ l : List α, (∀ x ∈ l, (f x).length ≤ M) → (l.flatMap f).length ≤ l.length * M
  | [], _ => by simp
  | x :: l, h => by
    rw [List.flatMap_cons, List.length_append, List.length_cons, Nat.succ_mul]
    have h1 := cat_len f M l (fun y hy => h y (by simp [hy]))
    have h2 := h x (by simp)
    omega
theorem att_flat {α β : Type} (f : α → List β) (l : List α) : (l.attach.flatMap fun x => f x.1) = l.flatMap f := by
  rw [List.flatMap_def, List.flatMap_def]
  congr 1
  exact List.attach_map_val ..
theorem slots_le {N : Nat} {ss : List Sl} {st : St} {fl : List Nat} (A : AI N ss st fl) : ss.length ≤ N := by
  have h1 : (ss.map (·.1)).length ≤ (List.range N).length := A.snd.length_le_of_subset (fun k hk => by
    obtain ⟨x, hx, rfl⟩ := List.mem_map.1 hk
    exact List.mem_range.2 (A.tk x hx).1)
  simpa using h1
theorem map_val_inj {α : Type} {p : α → Prop} {a b : List {x : α // p x}} (h : a.map (·.1) = b.map (·.1)) : a = b :=
  (List.map_inj_right (fun x y e => Subtype.ext e)).1 h
theorem sub_all {α : Type} {l : List α} {p : List {x : α // x ∈ l}} (h : p.map (·.1) = l) : p = l.attach := map_val_inj (by rw [h, List.attach_map_subtype_val])
theorem sub_prefix {α : Type} {l : List α} {p : List {x : α // x ∈ l}} (h : p.map (·.1) <+: l) : p <+: l.attach := by
  have h1 : p = l.attach.take p.length := map_val_inj (by
    rw [List.map_take, List.attach_map_subtype_val]
    have := List.prefix_iff_eq_take.1 h
    rwa [List.length_map] at this)
  rw [h1]
  exact List.take_prefix _ _
theorem cat_prefix {α β : Type} (f : α → List β) {a b : List α} (h : a <+: b) : a.flatMap f <+: b.flatMap f := by
  obtain ⟨r, rfl⟩ := h
  rw [List.flatMap_append]
  exact List.prefix_append _ _
theorem srt_off {N most : Nat} {ss : List Sl} {d : Bd} (I : Bi N most ss d) {i : Int} (hi : i ≠ 0 ∧ i ≠ 1) : srt i (osOf ss) = [] := by
  have h : sdO i (osOf ss) = [] := by
    unfold sdO
    rw [List.filter_eq_nil_iff]
    intro o ho e
    obtain ⟨x, hx, rfl⟩ := List.mem_map.1 ho
    have h1 := (I.ok x hx).1
    simp at e
    omega
  unfold srt
  rw [h]
  rfl
end Bk
end Go.Proofs.Ytbnappiaomiciaa
