/- This text proves laws for regions whose order is open: where every operation, in every world that extends the one at hand, yields one value and leaves such a world, one walk in the order of the text serves every order. It has no conditions of its own. -/
import Derived.Test.YtofjjbhhclnpoaaData
import Derived.BigQuiet
namespace Go.Proofs.Ytofjjbhhclnpoaa
open Go.RowKit

theorem wp_region_below_lit {P : Program} {id : Nat} {Q : Exit → Act → World → Prop} {a : Act} {w : World} {l : List Oper} (hm : P.follows .mixedOrders = true) (hB : Region.lexB .any l.toArray = true)
    (h : wpQuiet P l.toArray (fun w' => Below w.heap.size w w') (fun a' => ∀ w', Below w.heap.size w w' → Q .normal a' w') l a) : (Code.region id l.toArray true).wp P Q a w :=
  wp_region_quiet (C := fun w' => Below w.heap.size w w') hm hB (Below.refl _ _).drew (by simpa using h)

section
variable {P : Program} {ops : Array Oper} {C : World → Prop} {Q : Act → Prop} {a : Act} {o : Oper} {rest : List Oper}
theorem q_skip (hw : Region.wanted o (yielded ops a.tmps) = false) (h : wpQuiet P ops C Q rest (a.put o.dst undef)) : wpQuiet P ops C Q (o :: rest) a := BigFrame.wpQuiet_skip hw h
theorem q_step (hw : Region.wanted o (yielded ops a.tmps) = true) (v : Value) (hv : ∀ w, C w → o.quietAt P a C w v) (h : wpQuiet P ops C Q rest (a.put o.dst v)) : wpQuiet P ops C Q (o :: rest) a :=
  BigFrame.wpQuiet_want hw fun _ hK => ⟨v, hv, hK _ h⟩
theorem q_step_ex (hw : Region.wanted o (yielded ops a.tmps) = true) (h : ∃ v, (∀ w, C w → o.quietAt P a C w v) ∧ wpQuiet P ops C Q rest (a.put o.dst v)) : wpQuiet P ops C Q (o :: rest) a :=
  let ⟨v, hv, h⟩ := h
  q_step hw v hv h
theorem q_move (hw : Region.wanted o (yielded ops a.tmps) = true) (x : Operand) (ho : o.op = .move x) (v : Value) (hv : a.eval x = v) (h : wpQuiet P ops C Q rest (a.put o.dst v)) : wpQuiet P ops C Q (o :: rest) a :=
  BigFrame.wpQuiet_want hw fun _ hK => BigFrame.quiet_move x ho (by rw [hv]; exact hK _ h)
theorem q_assign (hw : Region.wanted o (yielded ops a.tmps) = true) (x : Operand) (ho : o.op = .assign x) (v : Value) (hv : a.eval x = v) (h : wpQuiet P ops C Q rest (a.put o.dst v)) : wpQuiet P ops C Q (o :: rest) a :=
  BigFrame.wpQuiet_want hw fun _ hK => BigFrame.quiet_assign x ho (by rw [hv]; exact hK _ h)
theorem q_load_blk {w : World} (hgd : Region.wanted o (yielded ops a.tmps) = true) (ty : TypeId) (x : Operand) (ho : o.op = .load ty x)
    (cs : Array Value) (v : Value) (hv : a.eval x = v) (hg : BlkAt w v cs) (d : TypeDesc) (hC : ∀ w', C w' → Below w.heap.size w w')
    (hu : P.underlying ty = some d) (hd : (match d with | .struct _ | .array _ _ => true | _ => false) = true) (hi : (P.info? ty).map (·.size) = some cs.size)
    (h : wpQuiet P ops C Q rest (a.put o.dst (.agg cs))) : wpQuiet P ops C Q (o :: rest) a := by
  obtain ⟨g, t, fr, hx, hg⟩ := hg
  refine q_step hgd _ (fun w' hw' => ?_) h
  have hg' : w'.heap[g]? = some (.cells cs t fr) := ((hC w' hw').block g (heap_lt hg)).trans hg
  unfold Oper.quietAt execOp
  simp only [ho, hv.trans hx, Instr.loadAt, Instr.sureAddr, Sem.run_bind, Sem.run_pure, Result.andThen_ok, run_loadVar_row w' g t ty cs fr d hg' hu hd hi]
  exact ⟨rfl, rfl⟩
end
end Go.Proofs.Ytofjjbhhclnpoaa
