/- This text proves what sweep.Make answers: the fills of a taker with the other side's orders, by price and time. It has no conditions but those that it states. -/
import Derived.Test.YtacpjpkhmdcagaaSw
import Derived.Test.YtacpjpkhmdcagaaBkEa
import Derived.Test.YtacpjpkhmdcagaaRangeH
import Derived.Scope
namespace Go.Proofs.Ytacpjpkhmdcagaa
set_option linter.unusedVariables false
open Go.RowKit
namespace Sw
set_option maxHeartbeats 4000000
set_option maxRecDepth 10000
attribute [local go_sem] Oper.semAt_some
open Bk (bet Bs osOf srt Oo Sl)
theorem Bs.few {w : World} {c : Nat → Nat} {b N most k : Nat} {ss : List Sl} (B : Bs w c b N most k ss) : (osOf ss).length ≤ 500 := by
  obtain ⟨d, B, I⟩ := B
  have h1 := Bk.slots_le I.ai
  have h2 := I.lim
  unfold osOf
  rw [List.length_map]
  omega
theorem Bs.okk {w : World} {c : Nat → Nat} {b N most k : Nat} {ss : List Sl} (B : Bs w c b N most k ss) : ∀ o ∈ osOf ss, Bk.okO o := by
  obtain ⟨d, B, I⟩ := B
  intro o ho
  obtain ⟨x, hx, rfl⟩ := List.mem_map.1 ho
  exact I.ok x hx
theorem owns_slice {W : World} {B : Nat} {e : TypeId} {size n : Nat} {v : Value} {xs : List Value} (h : W.ownsRow B e size v n xs) : ∃ A cap, v = .slice A n cap := by
  rcases h.2 with ⟨rfl, rfl⟩ | ⟨g, cap, cur, rfl, _⟩
  · exact ⟨_, _, rfl⟩
  · exact ⟨_, _, rfl⟩
theorem kc_updS {nb : List Nat} {ts : List TypeId} {B g : Nat} {W W' : World} (hg : g ∈ nb) (u : Upd g W W') : Kc nb ts B W W' :=
  ⟨(ButL.refl _ _ _).upd hg u, fun k cs t fr hk hn _ => (u.block k (fun e => hn (by rw [e]; exact hg))).trans hk⟩
theorem srt_le (n : Int) (L : List Ord) : (srt n L).length ≤ L.length := by
  rw [(Bk.srt_perm n L).length_eq]
  exact List.length_filter_le _ _
theorem srt_mem {n : Int} {L : List Ord} {x : Ord} (h : x ∈ srt n L) : x ∈ L := (List.mem_filter.1 ((Bk.srt_perm n L).mem_iff.1 h)).1
section
variable {w : World} {c : Nat → Nat} {b N most k : Nat} {ss : List Sl}
end
end Sw
end Go.Proofs.Ytacpjpkhmdcagaa
