/- This text proves that the example of the chapter on sweeps comes out. It has no conditions but those that it states. -/
import Derived.Test.YtbnappiaomiciaaGreatSwT
namespace Go.Proofs.YtbnappiaomiciaaGreat
set_option linter.unusedVariables false
open Go.RowKit
namespace Sw
set_option maxHeartbeats 4000000
set_option maxRecDepth 10000
open Bk (bet Bs osOf srt Sl bkO)
theorem make_any {w : World} {c : Nat → Nat} {b N most k : Nat} {ss : List Sl} (S : Bs w c b N most k ss) (t : Tk) (hq2 : t.qty ≤ 9223372036854775807) : Calls Tryz.prog 48 #[.pointer (some ⟨b, 0, none⟩), .agg t.arr] w (MkPost w (mkP t (osOf ss))) := by
  by_cases h : (t.side = 0 ∨ t.side = 1) ∧ 1 ≤ t.qty
  · unfold mkP
    rw [if_pos h]
    exact make_on S t h.1 h.2 hq2
  · unfold mkP
    rw [if_neg h]
    exact make_off _ t h w
end Sw
end Go.Proofs.YtbnappiaomiciaaGreat
