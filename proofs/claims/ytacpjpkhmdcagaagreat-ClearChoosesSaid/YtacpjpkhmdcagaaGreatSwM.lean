/- This text proves what sweep.Make answers: the fills of a taker with the other side's orders, by price and time. It has no conditions but those that it states. -/
import Derived.Test.YtacpjpkhmdcagaaGreatSw
import Derived.Test.YtacpjpkhmdcagaaGreatBkEa
import Derived.Test.YtacpjpkhmdcagaaGreatRangeH
import Derived.Scope
namespace Go.Proofs.YtacpjpkhmdcagaaGreat
set_option linter.unusedVariables false
open Go.RowKit
namespace Sw
set_option maxHeartbeats 4000000
set_option maxRecDepth 10000
attribute [local go_sem] Oper.semAt_some
open Bk (bet Bs osOf srt Oo Sl)
theorem owns_own {W W' : World} {row : Option Nat} {B B' : Nat} {e : TypeId} {size n : Nat} {v : Value} {xs : List Value} (h : W.ownsRow B' e size v n xs) (hg : W.grownBy W' row) (hr : ∀ r, row = some r → B ≤ r ∧ ∃ o : Obj, W.heap[r]? = some o ∧ o.isCells = false) : W'.ownsRow B' e size v n xs :=
  owns_keepB h (fun r cs fr hc => hg.block r (Array.getElem?_eq_some_iff.1 hc).1 (fun e2 => by
    obtain ⟨_, o, ho, hc2⟩ := hr r e2.symm
    rw [hc] at ho
    cases ho
    cases hc2))
theorem Bs.few {w : World} {c : Nat → Nat} {b N most k : Nat} {ss : List Sl} (B : Bs w c b N most k ss) : (osOf ss).length ≤ 500 := by
  obtain ⟨d, B, I⟩ := B
  have h1 := Bk.slots_le I.ai
  have h2 := I.lim
  unfold osOf
  rw [List.length_map]
  omega
theorem Bs.okk {w : World} {c : Nat → Nat} {b N most k : Nat} {ss : List Sl} (B : Bs w c b N most k ss) : ∀ o ∈ osOf ss, Bk.okO o := by
  obtain ⟨d, B, I⟩ := B
  intro o ho
  obtain ⟨x, hx, rfl⟩ := List.mem_map.1 ho
  exact I.ok x hx
theorem owns_slice {W : World} {B : Nat} {e : TypeId} {size n : Nat} {v : Value} {xs : List Value} (h : W.ownsRow B e size v n xs) : ∃ A cap, v = .slice A n cap := by
  rcases h.2 with ⟨rfl, rfl⟩ | ⟨g, cap, cur, rfl, _⟩
  · exact ⟨_, _, rfl⟩
  · exact ⟨_, _, rfl⟩
theorem owns_mono {W : World} {B B' : Nat} {e : TypeId} {size n : Nat} {v : Value} {xs : List Value} (h : W.ownsRow B' e size v n xs) (hB : B ≤ B') : W.ownsRow B e size v n xs := by
  refine ⟨h.1, ?_⟩
  rcases h.2 with h0 | ⟨g, cap, cur, h1, h2, h3⟩
  · exact .inl h0
  · exact .inr ⟨g, cap, cur, h1, Nat.le_trans hB h2, h3⟩
theorem in_no {t : Tk} {p : Int} (h : p < t.lo ∨ t.hi < p) : (decide (t.lo ≤ p) && decide (p ≤ t.hi)) = false := by
  rcases h with h | h
  · rw [decide_eq_false (by omega : ¬ t.lo ≤ p)]; rfl
  · rw [decide_eq_false (by omega : ¬ p ≤ t.hi)]; simp
theorem in_yes {t : Tk} {p : Int} (h : ¬ (p < t.lo ∨ t.hi < p)) : (decide (t.lo ≤ p) && decide (p ≤ t.hi)) = true := by
  rw [decide_eq_true (by omega : t.lo ≤ p), decide_eq_true (by omega : p ≤ t.hi)]
  rfl
theorem own_ne {W : World} {B z : Nat} {e t : TypeId} {size n : Nat} {v : Value} {xs : List Value} {cs : Array Value} (h : W.ownsRow B e size v n xs) (hb : Blk W z t cs) (ht : t ≠ e) : v.ownBlock ≠ some z := fun e2 => by
  rcases h.2 with ⟨rfl, _⟩ | ⟨g, cap, cur, rfl, _, hg, _⟩
  · cases e2
  · simp only [Value.ownBlock, Option.some.injEq] at e2
    subst e2
    rw [show W.heap[_]? = _ from hb] at hg
    cases hg
    exact ht rfl
theorem kc_updS {nb : List Nat} {ts : List TypeId} {B g : Nat} {W W' : World} (hg : g ∈ nb) (u : Upd g W W') : Kc nb ts B W W' :=
  ⟨(ButL.refl _ _ _).upd hg u, fun k cs t fr hk hn _ => (u.block k (fun e => hn (by rw [e]; exact hg))).trans hk⟩
theorem wr3_below {B0 rb : Nat} {w W : World} (hb : Below B0 w W) (hB : B0 ≤ rb) (v a b : Value) : Below B0 w (((W.setCell ⟨rb, 0, none⟩ v).setCell ⟨rb, 1, none⟩ a).setCell ⟨rb, 2, none⟩ b) :=
  below_upd (below_upd (below_upd hb (show B0 ≤ rb from hB) (Upd.setCell _ ⟨rb, 0, none⟩ _)) hB (Upd.setCell _ ⟨rb, 1, none⟩ _)) hB (Upd.setCell _ ⟨rb, 2, none⟩ _)
theorem mx_all {t : Tk} {pre L : List Ord} {r : List Fl × Int × Int} (h : ∀ rest, mk t (pre ++ rest) t.qty = r) (hp : pre <+: L) : mk t L t.qty = r := by
  obtain ⟨rest, rfl⟩ := hp
  exact h rest
theorem wr3_at {W : World} {rb D : Nat} (h : D ≠ rb) (v a b : Value) : (((W.setCell ⟨rb, 0, none⟩ v).setCell ⟨rb, 1, none⟩ a).setCell ⟨rb, 2, none⟩ b).heap[D]? = W.heap[D]? :=
  ((Upd.setCell _ _ b).block D h).trans (((Upd.setCell _ _ a).block D h).trans ((Upd.setCell _ _ v).block D h))
theorem srt_le (n : Int) (L : List Ord) : (srt n L).length ≤ L.length := by
  rw [(Bk.srt_perm n L).length_eq]
  exact List.length_filter_le _ _
theorem srt_mem {n : Int} {L : List Ord} {x : Ord} (h : x ∈ srt n L) : x ∈ L := (List.mem_filter.1 ((Bk.srt_perm n L).mem_iff.1 h)).1
section
variable {w : World} {c : Nat → Nat} {b N most k : Nat} {ss : List Sl}
end
end Sw
end Go.Proofs.YtacpjpkhmdcagaaGreat
