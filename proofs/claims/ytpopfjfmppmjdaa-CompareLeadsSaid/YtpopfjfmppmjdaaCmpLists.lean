/- This text proves how a list of messages that was appended reads. It has no conditions but those that it states. -/
import Derived.Test.YtpopfjfmppmjdaaCmpAp
namespace Go.Proofs.Ytpopfjfmppmjdaa
set_option linter.unusedVariables false
open Go.RowKit
namespace Cmp
set_option maxHeartbeats 1000000
set_option maxRecDepth 10000
theorem msg_ok (l : List Msg) : ∀ r ∈ l.map Msg.cells, r.length = 9 ∧ ∀ u ∈ r, u.oneCell' = true := by
  intro r hr
  obtain ⟨x, _, rfl⟩ := List.mem_map.1 hr
  exact ⟨rfl, by simp [Msg.cells, Value.oneCell']⟩
theorem owns_msg {w : World} {B : Nat} {e : TypeId} {v : Value} {l : List Msg} (h : w.ownsRow B e 9 v l.length (flatM l)) : ∃ A cap, v = .slice A l.length cap ∧ Rd w 9 A (l.map Msg.cells) ∧ l.length ≤ cap := by
  rcases h.2 with ⟨rfl, h0⟩ | ⟨g, cap, cur, rfl, hb, hg, hc, _, _, ht⟩
  · rw [h0]
    have : l = [] := List.eq_nil_of_length_eq_zero h0
    subst this
    exact ⟨none, 0, rfl, fun hne => absurd rfl hne, Nat.le_refl _⟩
  · exact ⟨some ⟨g, 0, none⟩, cap, rfl, rd_own (show Blk w g e cur from hg) (n := l.length) (fun r hr => (msg_ok l r hr).1) ht, hc⟩
end Cmp
end Go.Proofs.Ytpopfjfmppmjdaa
