/- This text proves what Take makes of a level whose last order goes. It has no conditions but those that it states. (Under way.) -/
import Derived.Test.YtacpjpkhmdcagaaGreatLadA
import Derived.Test.YtacpjpkhmdcagaaGreatLadD
namespace Go.Proofs.YtacpjpkhmdcagaaGreat
set_option linter.unusedVariables false
open Go.RowKit
namespace Lad
set_option maxHeartbeats 300000
set_option maxRecDepth 10000
def clr (n r : Nat) : Nat := n &&& (18446744073709551615 - 2 ^ r)
theorem bits_andNot_u64_nat (a b : Nat) (ha : a < 18446744073709551616) (hb : b < 18446744073709551616) :
    bits .andNot .u64 (a : Int) (b : Int) = ((a &&& (18446744073709551615 - b) : Nat) : Int) := by
  have hx : a &&& (18446744073709551615 - b) < 2 ^ 64 := Nat.and_lt_two_pow _ (by omega)
  have h1 : (BitVec.ofInt 64 (a : Int)).toNat = a := by
    rw [BitVec.ofInt_natCast, BitVec.toNat_ofNat]; exact Nat.mod_eq_of_lt (by omega)
  have h2 : (BitVec.ofInt 64 (b : Int)).toNat = b := by
    rw [BitVec.ofInt_natCast, BitVec.toNat_ofNat]; exact Nat.mod_eq_of_lt (by omega)
  show IntKind.u64.wrap ((BitVec.ofInt 64 (a : Int) &&& ~~~ BitVec.ofInt 64 (b : Int)).toNat : Int) = _
  rw [BitVec.toNat_and, BitVec.toNat_not, h1, h2, IntKind.wrap_u64]
  have e : 2 ^ 64 - 1 - b = 18446744073709551615 - b := rfl
  rw [e]
  omega
theorem andNot_pow (n r : Nat) (hn : n < 2 ^ 64) (hr : r < 64) : bits .andNot .u64 (n : Int) (IntKind.u64.wrap (2 ^ r)) = ((clr n r : Nat) : Int) := by
  have h2 : 2 ^ r < 2 ^ 64 := Nat.pow_lt_pow_right (by decide) hr
  rw [Bit.wrap_pow hr, bits_andNot_u64_nat _ _ (by omega) (by omega)]
  rfl
attribute [irreducible] clr
section
variable {P : Program} {ops : Array Oper} {C : World → Prop} {Q : Act → Prop} {a : Act} {o : Oper} {rest : List Oper}
theorem run_quo {P : Program} (o : Oper) (a : Act) (x y : Operand) (t u : TypeId) (ho : o.op = .binOp .quo t x y u) (p g : Int) (hx : a.eval x = .int .i64 p) (hy : a.eval y = .int .i64 g)
    (ht : P.underlying t = some (.int .i64)) (hu : P.underlying u = some (.int .i64)) (hp : 0 ≤ p) (hp2 : p ≤ 9223372036854775807) (hg : 1 ≤ g) (hg2 : g ≤ 9223372036854775807) (w : World) :
    (execOp a.eval o).run P w = .ok (.value (.int .i64 (p / g))) w := by
  have h1 : ¬ g = 0 := by omega
  have h2 : p.tdiv g = p / g := Int.tdiv_eq_ediv_of_nonneg hp
  have h3 : 0 ≤ p / g := Int.ediv_nonneg hp (by omega)
  have h4 : p / g ≤ p := Int.ediv_le_self g hp
  have h5 : IntKind.i64.wrap (p / g) = p / g := IntWalk.i64_in _ (by omega)
  generalize hE : a.eval = E at hx hy ⊢
  simp [execOp, ho, hx, hy, go_sem, h1, h2, h5]
theorem q_quo (hgd : Region.wanted o (yielded ops a.tmps) = true) (x y : Operand) (t u : TypeId) (ho : o.op = .binOp .quo t x y u) (p g : Int) (hx : a.eval x = .int .i64 p) (hy : a.eval y = .int .i64 g)
    (ht : P.underlying t = some (.int .i64)) (hu : P.underlying u = some (.int .i64)) (hp : 0 ≤ p ∧ p ≤ 9223372036854775807 ∧ 1 ≤ g ∧ g ≤ 9223372036854775807) (z : Int) (hz : p / g = z) (h : wpQuiet P ops C Q rest (a.put o.dst (.int .i64 z))) : wpQuiet P ops C Q (o :: rest) a :=
  q_step hgd _ (fun w _ => by
    unfold Oper.quietAt
    rw [run_quo o a x y t u ho p g hx hy ht hu hp.1 hp.2.1 hp.2.2.1 hp.2.2.2 w, hz]
    exact ⟨rfl, rfl⟩) h
theorem q_remz (hgd : Region.wanted o (yielded ops a.tmps) = true) (x y : Operand) (t u : TypeId) (ho : o.op = .binOp .rem t x y u) (p g : Int) (hx : a.eval x = .int .i64 p) (hy : a.eval y = .int .i64 g)
    (ht : P.underlying t = some (.int .i64)) (hu : P.underlying u = some (.int .i64)) (hp : 0 ≤ p ∧ p ≤ 9223372036854775807 ∧ 1 ≤ g ∧ g ≤ 9223372036854775807) (z : Int) (hz : p % g = z) (h : wpQuiet P ops C Q rest (a.put o.dst (.int .i64 z))) : wpQuiet P ops C Q (o :: rest) a :=
  q_rem hgd x y t u ho p g hx hy ht hu hp (by rw [hz]; exact h)
end
def clrU (u : Nat → Nat) (q : Nat) : Nat → Nat := fun i => if i = q / 64 then clr (u i) (q % 64) else u i
section
variable {w : World} {g : Nat} {side most : Int} {v : Value} {ls : List Lvl} {u : Nat → Nat}
end
end Lad
end Go.Proofs.YtacpjpkhmdcagaaGreat
