/- This text proves laws for a statement 'for x := range f' over a function, in the words of this work: how a function that holds one is opened, how the statement is walked in the plain walk, and how such a function returns. It has no conditions but those that they state. This text proves a law for a statement 'for x := range f' over a function whose body writes blocks that were made ahead of it. It has no conditions but those that it states. This text proves a law for a statement 'for x := range f' over a function, whose loop variables are boxed in each round, and whose body writes blocks that were made ahead of it. It has no conditions but those that it states. -/
import Derived.RangeFuncNested
import Derived.RangeFuncBound
import Derived.RangeFuncCalls
import Derived.RangeFuncLeaves
import Derived.Shelf.Abstract
import Derived.Test.YtacpjpkhmdcagaaOwn
namespace Go.Proofs.Ytacpjpkhmdcagaa
set_option linter.unusedVariables false
open Go.RowKit

theorem calls_of_wp_marks {P : Program} {f : FuncId} {fn : Func} {c : Code} {args : Array Value} {w : World} {R : Ending → World → Prop} (hf : P.funcs[f]? = some fn) (hb : fn.body = some c)
    (h : c.wp P (bodyPostM Fence.wide 9 P fn R) { tmps := args ++ Array.replicate (fn.ntmps - args.size) undef, defers := [] } w) : Calls P f args w R :=
  (callsIn_wide (n := 9)).1 (callsIn_of_wp_marks hf hb trivial (wpIn_wide.2 h) rfl)
/-- A function that has one mark among its deferred calls returns. -/
theorem bodyPostM_ret {P : Program} {fn : Func} {R : Ending → World → Prop} {a : Act} {D : Nat} {w : World} {v : Value} (hd : a.defers = [{ target := .collected D, args := #[] }]) (hK : w.heap[D]? = some (.deferred (some [])))
    (hv : (results fn a.tmps).run P (w.putObj D (.deferred none)) = .ok v (w.putObj D (.deferred none))) (h : R (.returned v) (w.putObj D (.deferred none))) : bodyPostM Fence.wide 9 P fn R .ret a w := by
  show LeavesInM Fence.wide 9 P fn a.tmps R a.defers .returning w
  rw [hd]
  refine ⟨by simp, .inl ⟨_, _, rfl, run_takeDeferred hK, ?_⟩⟩
  show ∃ u, (results fn a.tmps).run P (w.putObj D (.deferred none)) = .ok u _ ∧ R (.returned u) _
  exact ⟨v, hv, h⟩
theorem bodyPostM_none {P : Program} {fn : Func} {R : Ending → World → Prop} {a : Act} {w : World} {v : Value} (hd : a.defers = [])
    (hv : (results fn a.tmps).run P w = .ok v w) (h : R (.returned v) w) : bodyPostM Fence.wide 9 P fn R .ret a w := by
  show LeavesInM Fence.wide 9 P fn a.tmps R a.defers .returning w
  rw [hd]
  show ∃ u, (results fn a.tmps).run P w = .ok u _ ∧ R (.returned u) _
  exact ⟨v, hv, h⟩

end Go.Proofs.Ytacpjpkhmdcagaa
namespace Go.Proofs.Ytacpjpkhmdcagaa
set_option linter.unusedVariables false
open Go.RowKit
end Go.Proofs.Ytacpjpkhmdcagaa
namespace Go.Proofs.Ytacpjpkhmdcagaa
set_option linter.unusedVariables false
open Go.RowKit
/-- A block of cells abides what is no cells. -/
theorem Blk.own {W W' : World} {row : Option Nat} {B b : Nat} {t : TypeId} {cs : Array Value} (h : Blk W b t cs) (hg : W.grownBy W' row) (hr : ∀ r, row = some r → B ≤ r ∧ ∃ o : Obj, W.heap[r]? = some o ∧ o.isCells = false) : Blk W' b t cs :=
  (hg.block b h.lt (fun e => by
    obtain ⟨_, o, ho, hc⟩ := hr b e.symm
    rw [show W.heap[b]? = _ from h] at ho
    cases ho
    cases hc)).trans h
theorem keepsFrom_below {B : Nat} {W W' : World} (h : Below W.heap.size W W') : KeepsFrom B W W' :=
  ⟨h.size, fun k o _ hk _ => (h.block k (Array.getElem?_eq_some_iff.1 hk).1).trans hk⟩
end Go.Proofs.Ytacpjpkhmdcagaa
