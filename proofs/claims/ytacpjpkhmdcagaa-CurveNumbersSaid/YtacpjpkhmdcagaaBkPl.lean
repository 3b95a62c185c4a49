/- This text proves plain laws for BookGives: which orders of a list a book takes, and in which order it gives them back. It has no conditions but those that it states. This text proves what 'place' of the law answers: the first place of an order in a list, or -1. It has no conditions but those that it states. -/
import Derived.Test.YtacpjpkhmdcagaaBkV
namespace Go.Proofs.Ytacpjpkhmdcagaa
set_option linter.unusedVariables false
namespace Bk
theorem Bs.ids {w : World} {c : Nat → Nat} {b N most k : Nat} {ss : List Sl} (B : Bs w c b N most k ss) : ((osOf ss).map (·.id)).Nodup := by
  obtain ⟨d, B, I⟩ := B
  have := I.ids
  unfold osOf
  rw [List.map_map]
  exact this
end Bk
end Go.Proofs.Ytacpjpkhmdcagaa
namespace Go.Proofs.Ytacpjpkhmdcagaa
set_option linter.unusedVariables false
open Go.RowKit
namespace Bk
set_option maxHeartbeats 2000000
set_option maxRecDepth 10000
theorem q_lti {ops : Array Oper} {C : World → Prop} {Q : Act → Prop} {a : Act} {o : Oper} {rest : List Oper} (hgd : Region.wanted o (yielded ops a.tmps) = true) (x y : Operand) (u : TypeId) (ho : o.op = .binOp .lss 3 x y u)
    (p q : Int) (hx : a.eval x = .int .i64 p) (hy : a.eval y = .int .i64 q) (b : Bool) (hb : decide (p < q) = b) (h : wpQuiet Try.prog ops C Q rest (a.put o.dst (.bool b))) : wpQuiet Try.prog ops C Q (o :: rest) a :=
  q_step hgd _ (fun w _ => by
    unfold Oper.quietAt execOp
    simp only [ho, hx, hy, Sem.run_bind]
    subst hb
    simp [go_sem]
    done) h
end Bk
end Go.Proofs.Ytacpjpkhmdcagaa
