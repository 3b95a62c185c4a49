/- This text proves what is wrong first with a new order, and with a change of one: contracts of damperref25.New and damperref25.Replace. It has no conditions but those that it states. -/
import Derived.Test.YtbnappiaomiciaaAdmN
import Derived.Test.YtbnappiaomiciaaSink
namespace Go.Proofs.Ytbnappiaomiciaa
set_option linter.unusedVariables false
open Go.RowKit
namespace Adm
set_option maxHeartbeats 1000000
set_option maxRecDepth 10000
theorem new_blocks {w w1 : World} {y : Sym} {b : Bool} {s : Int} {c : Cmd} (hb1 : Below (((w.alloc (.cells y.arr 23)).alloc (.cells #[.bool b, .int .i64 s] 25)).alloc (.cells c.arr 27)).heap.size (((w.alloc (.cells y.arr 23)).alloc (.cells #[.bool b, .int .i64 s] 25)).alloc (.cells c.arr 27)) w1) :
    Blk w1 (w.heap.size + 1 + 1) 27 c.arr ∧ Blk w1 w.heap.size 23 y.arr ∧ Blk w1 (w.heap.size + 1) 25 #[.bool b, .int .i64 s] ∧ Below w.heap.size w w1 ∧ w1.cell? ⟨w.heap.size + 1 + 1, 0, none⟩ = some (.int .i64 c.kind) ∧ w1.cell? ⟨w.heap.size + 1 + 1, 5, none⟩ = some (.int .i64 c.typ) := by
  have hC1 := (Blk.new ((w.alloc (.cells y.arr 23)).alloc (.cells #[.bool b, .int .i64 s] 25)) 27 c.arr (w.heap.size + 1 + 1) (by simp only [sz_alloc])).ext hb1
  have hS1 := (((Blk.new w 23 y.arr _ rfl).alloc (.cells #[.bool b, .int .i64 s] 25)).alloc (.cells c.arr 27)).ext hb1
  have hT1 := ((Blk.new (w.alloc (.cells y.arr 23)) 25 #[.bool b, .int .i64 s] (w.heap.size + 1) (by simp only [sz_alloc])).alloc (.cells c.arr 27)).ext hb1
  exact ⟨hC1, hS1, hT1, below_ext (below_alloc (below_alloc (below_alloc (Below.refl _ _) _) _) _) hb1, hC1.cell 0, hC1.cell 5⟩
/-! ### Replace -/
def rpOf (o : Ord) (c : Cmd) : Ord := { o with price := c.price, qty := c.qty }
def rf (c : Cmd) (ph g : Int) (may : Bool) : Nat → Int
  | 0 => unlF (c.kind == 3 && rightF c) 4
  | 1 => unlF (matF ph || resF ph) 10
  | _ => valF c.price c.qty g may false
def replF (c : Cmd) (ph g : Int) (may : Bool) : Int := firstF (rf c ph g may) 0 3
section
variable {w : World} {y : Sym} {o : Ord} {c : Cmd} {b : Bool} {s ph : Int} {bs bc bt bp bo g : Nat} {tf : TypeId}
def rC (bs bc bt bp bo : Nat) : Nat → Array Value
  | 0 => #[.pointer (some ⟨bc, 0, none⟩)]
  | 1 => #[.pointer (some ⟨bp, 0, none⟩)]
  | _ => #[.pointer (some ⟨bs, 0, none⟩), .pointer (some ⟨bt, 0, none⟩), .pointer (some ⟨bo, 0, none⟩)]
end
theorem repl_blocks {w w1 : World} {y : Sym} {b : Bool} {s : Int} {o : Ord} {c : Cmd} (hb1 : Below ((((w.alloc (.cells y.arr 23)).alloc (.cells #[.bool b, .int .i64 s] 25)).alloc (.cells o.arr 35)).alloc (.cells c.arr 27)).heap.size ((((w.alloc (.cells y.arr 23)).alloc (.cells #[.bool b, .int .i64 s] 25)).alloc (.cells o.arr 35)).alloc (.cells c.arr 27)) w1) :
    Blk w1 (w.heap.size + 1 + 1 + 1) 27 c.arr ∧ Blk w1 w.heap.size 23 y.arr ∧ Blk w1 (w.heap.size + 1) 25 #[.bool b, .int .i64 s] ∧ Blk w1 (w.heap.size + 1 + 1) 35 o.arr ∧ Below w.heap.size w w1 ∧ w1.cell? ⟨w.heap.size + 1 + 1 + 1, 0, none⟩ = some (.int .i64 c.kind) := by
  have hC1 := (Blk.new (((w.alloc (.cells y.arr 23)).alloc (.cells #[.bool b, .int .i64 s] 25)).alloc (.cells o.arr 35)) 27 c.arr (w.heap.size + 1 + 1 + 1) (by simp only [sz_alloc])).ext hb1
  have hS1 := ((((Blk.new w 23 y.arr _ rfl).alloc (.cells #[.bool b, .int .i64 s] 25)).alloc (.cells o.arr 35)).alloc (.cells c.arr 27)).ext hb1
  have hT1 := (((Blk.new (w.alloc (.cells y.arr 23)) 25 #[.bool b, .int .i64 s] (w.heap.size + 1) (by simp only [sz_alloc])).alloc (.cells o.arr 35)).alloc (.cells c.arr 27)).ext hb1
  have hO1 := ((Blk.new ((w.alloc (.cells y.arr 23)).alloc (.cells #[.bool b, .int .i64 s] 25)) 35 o.arr (w.heap.size + 1 + 1) (by simp only [sz_alloc])).alloc (.cells c.arr 27)).ext hb1
  exact ⟨hC1, hS1, hT1, hO1, below_ext (below_alloc (below_alloc (below_alloc (below_alloc (Below.refl _ _) _) _) _) _) hb1, hC1.cell 0⟩
end Adm
end Go.Proofs.Ytbnappiaomiciaa
