/- This text proves contracts of a held book's functions that only read: find, Get, Front, Best, At, Worth, Room, Fits, Len, Crossed. It has no conditions but those that it states. -/
import Derived.Test.YtacpjpkhmdcagaaGreatBkQ
import Derived.Test.YtacpjpkhmdcagaaGreatFifoNew
namespace Go.Proofs.YtacpjpkhmdcagaaGreat
set_option linter.unusedVariables false
open Go.RowKit
namespace Bk
set_option maxHeartbeats 1000000
set_option maxRecDepth 10000
open Are (St Ar ord0 ordArr_one)
open Lad (La LStep Fresh lvlZ)
open Fif (Fq up up_same up_ne)
open Idx (R3 Xq Wf)
theorem wf0 : Wf 0 := rfl
theorem results_ord2 {fn : Func} {p u : Tmp} (h : fn.results = #[.cell p 52, .tmp u]) (tmps : Array Value) (w : World) (g : Nat) (cs : Array Value) (x : Value) (hp : tmps.getD p undef = .pointer (some ⟨g, 0, none⟩)) (hx : tmps.getD u undef = x) (hb : Blk w g 52 cs) (h4 : cs.size = 7) :
    (results fn tmps).run Tryz.prog w = .ok (.tuple #[.agg cs, x]) w := by
  rw [results_cell_tmp h, hp, hx]
  simp only [asAddr, Sem.run_pure, Result.andThen_ok, run_loadVar_row w g 52 52 cs _ _ hb Tryz.underlying52 rfl (by rw [h4]; kernel_rfl)]
theorem results_cell_tmp2 {fn : Func} {p u t : Tmp} {ty : TypeId} (h : fn.results = #[.cell p ty, .tmp u, .tmp t]) (tmps : Array Value) (P : Program) (w : World) :
    (results fn tmps).run P w = ((asAddr (tmps.getD p undef)).run P w).andThen fun a w₁ => ((loadVar ty a).run P w₁).andThen fun v w₂ => .ok (.tuple #[v, tmps.getD u undef, tmps.getD t undef]) w₂ := by
  simp only [results, h]
  simp [Sem.run_bind, Result.andThen]
theorem results_ord3 {fn : Func} {p u t : Tmp} (h : fn.results = #[.cell p 52, .tmp u, .tmp t]) (tmps : Array Value) (w : World) (g : Nat) (cs : Array Value) (x y : Value) (hp : tmps.getD p undef = .pointer (some ⟨g, 0, none⟩)) (hx : tmps.getD u undef = x) (hy : tmps.getD t undef = y) (hb : Blk w g 52 cs) (h4 : cs.size = 7) :
    (results fn tmps).run Tryz.prog w = .ok (.tuple #[.agg cs, x, y]) w := by
  rw [results_cell_tmp2 h, hp, hx, hy]
  simp only [asAddr, Sem.run_pure, Result.andThen_ok, run_loadVar_row w g 52 52 cs _ _ hb Tryz.underlying52 rfl (by rw [h4]; kernel_rfl)]
theorem Bw.cells {w : World} {c : Nat → Nat} {b N most k : Nat} {d : Bd} {R : List R3} (B : Bw w c b N most k d R) : w.cell? ⟨b, 0, none⟩ = some (.pointer (some ⟨d.a, 0, none⟩)) ∧ w.cell? ⟨b, 1, none⟩ = some (.pointer (some ⟨d.l 0, 0, none⟩)) ∧ w.cell? ⟨b, 2, none⟩ = some (.pointer (some ⟨d.q 0, 0, none⟩)) ∧ w.cell? ⟨b, 3, none⟩ = some (.pointer (some ⟨d.l 1, 0, none⟩)) ∧ w.cell? ⟨b, 4, none⟩ = some (.pointer (some ⟨d.q 1, 0, none⟩)) ∧ w.cell? ⟨b, 5, none⟩ = some (.pointer (some ⟨d.x, 0, none⟩)) :=
  ⟨B.hd.cell 0, B.hd.cell 1, B.hd.cell 2, B.hd.cell 3, B.hd.cell 4, B.hd.cell 5⟩
theorem Bs.ext {w w' : World} {c : Nat → Nat} {b N most k : Nat} {ss : List Sl} (B : Bs w c b N most k ss) (h : Below w.heap.size w w') : Bs w' c b N most k ss := by
  obtain ⟨d, B, I⟩ := B
  exact ⟨d, B.ext h, I⟩
section
variable {w : World} {c : Nat → Nat} {b N most k : Nat} {ss : List Sl}
theorem Bs.lt (B : Bs w c b N most k ss) : b < w.heap.size := by
  obtain ⟨d, B, I⟩ := B
  exact B.lt
theorem look_yes (hn : (ss.map (·.2.id)).Nodup) {x : Sl} (hx : x ∈ ss) : Idx.look (Rr ss) 0 x.2.id = some ⟨0, x.2.id, (x.1 : Int)⟩ := by
  unfold Idx.look Rr
  induction ss with
  | nil => cases hx
  | cons y l ih =>
    rw [List.map_cons, List.nodup_cons] at hn
    rw [List.map_cons, List.find?_cons]
    rcases List.mem_cons.1 hx with rfl | hx'
    · simp [R3.is]
    · have hne : y.2.id ≠ x.2.id := fun e => hn.1 (List.mem_map.2 ⟨x, hx', e.symm⟩)
      have : R3.is 0 x.2.id ⟨0, y.2.id, (y.1 : Int)⟩ = false := by simp [R3.is, hne]
      rw [this]
      exact ih hn.2 hx'
theorem look_no {id : Int} (h : ∀ x ∈ ss, x.2.id ≠ id) : Idx.look (Rr ss) 0 id = none := by
  unfold Idx.look Rr
  rw [List.find?_eq_none]
  intro r hr
  obtain ⟨x, hx, rfl⟩ := List.mem_map.1 hr
  simp [R3.is, h x hx]
/-- What is found of an ID. -/
def fndI (id : Int) (os : List Ord) : Option Ord := os.find? fun o => decide (o.id = id)
theorem fnd_cases (ss : List Sl) (id : Int) : (∃ x ∈ ss, x.2.id = id ∧ fndI id (osOf ss) = some x.2) ∨ ((∀ x ∈ ss, x.2.id ≠ id) ∧ fndI id (osOf ss) = none) := by
  unfold fndI osOf
  rw [List.find?_map]
  cases h : ss.find? ((fun o => decide (o.id = id)) ∘ fun x : Sl => x.2) with
  | some x =>
    have h1 := List.find?_some h
    simp only [Function.comp, decide_eq_true_eq] at h1
    exact .inl ⟨x, List.mem_of_find?_eq_some h, h1, rfl⟩
  | none =>
    refine .inr ⟨fun x hx e => ?_, rfl⟩
    have := List.find?_eq_none.1 h x hx
    simp [e] at this
/-! ### a side's front -/
def frontO (n : Int) (os : List Ord) : Option Ord := if n = 0 ∨ n = 1 then (srt n os).head? else none
/-! ### a side's best price -/
/-! ### the quantity at a price -/
def atB (n p : Int) (os : List Ord) : Int := if n = 0 ∨ n = 1 then qsum (atO n p os) else 0
end
end Bk
end Go.Proofs.YtacpjpkhmdcagaaGreat
