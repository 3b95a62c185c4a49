/-
  No cell of these rows narrows 'for every input' (looked for: loops, veiled, ifaces, maps, wideKeys, modest, calm, conditions, laid).
  DERIVED. THE GIVEN ROWS OF THIS SEAT. 4 by the template 'for every input the law returns true; each argument reads behind the call as it read before'; 0 by the template 'total and deterministic' (their statements: YtacpjpkhmdcagaaGreatTotals.lean).
  GIVEN WITH THE SEED: the statements are not yours to turn. If you find one false, say at which input.
  Laid BY PROGRAM, IN A SANDBOX (cutbox-rows.mjs): the forced cells as the released guide's own fill.sh prints them over the translation c5a0bc2b82231e7a… (all of the seat's roots in one cut). By AI agents, Wed Nov 11 2026. No macro, syntax, notation, axiom, sorry.
-/
import Derived.Test.YtacpjpkhmdcagaaGreatChecked
import GoSem.Claim
import GoSem.ClaimJoined
import GoSem.ClaimMapViews
import Derived.JoinedTies
import Derived.KernelRfl
namespace Go.Proofs.YtacpjpkhmdcagaaGreat
/- THE CELL 'sum', in the pinned program and in every row, IS THE sha256 OF THE DUMP (.gsa) THAT YtacpjpkhmdcagaaGreatProg.lean LOADS. Nothing in Lean hashes anything: it is a label: what it is worth is what the hold of that sum in a sandbox is worth. -/
noncomputable def Tryz.pinned : Pinned := { name := "ytacpjpkhmdcagaagreat", sum := "c5a0bc2b82231e7a17e2206bcd7928c88f13adc06a176f2a12d604f115a9e8bf", checked := Tryz.checked }
namespace Rows
def none {H : Type} : Left H := { results := [], args := [] }

/-- 'damperlaw17.ClearMost': WHATEVER THE INPUT: true; the input reads as it did. -/
def clearMostSpec : ChangeSpec := { name := "clearMost", fn := fun _ => fun
  | [d1, d2, d3, d4] => { results := [.lit (.bool true)], args := [d1, d2, d3, d4] }
  | _ => none }
def clearMostRow : OpenClaim := { program := "ytacpjpkhmdcagaagreat", sum := "c5a0bc2b82231e7a17e2206bcd7928c88f13adc06a176f2a12d604f115a9e8bf", func := "damper/damperlaw17.ClearMost", spec := "clearMost", inPlace := ["slices.overlaps[damper/ladder.Level]"], unfollowed := true, recurses := true, plainKeys := false, apart := false }
def ClearMostSaid : Prop := clearMostRow.holds Tryz.pinned (OpenSpec.ofChange clearMostSpec)

/-- ITS FALSE NEIGHBOUR: 'it returns false'. Refute it at one input. -/
def clearMostWrong : ChangeSpec := { name := "clearMost", fn := fun _ => fun
  | [d1, d2, d3, d4] => { results := [.lit (.bool false)], args := [d1, d2, d3, d4] }
  | _ => none }
def ClearMostWrongFalsely : Prop := clearMostRow.holds Tryz.pinned (OpenSpec.ofChange clearMostWrong)

/-- 'damperlaw17.ClearStays': WHATEVER THE INPUT: true; the input reads as it did. -/
def clearStaysSpec : ChangeSpec := { name := "clearStays", fn := fun _ => fun
  | [d1, d2, d3] => { results := [.lit (.bool true)], args := [d1, d2, d3] }
  | _ => none }
def clearStaysRow : OpenClaim := { program := "ytacpjpkhmdcagaagreat", sum := "c5a0bc2b82231e7a17e2206bcd7928c88f13adc06a176f2a12d604f115a9e8bf", func := "damper/damperlaw17.ClearStays", spec := "clearStays", inPlace := ["slices.overlaps[damper/ladder.Level]"], unfollowed := true, recurses := true, plainKeys := false, apart := false }
def ClearStaysSaid : Prop := clearStaysRow.holds Tryz.pinned (OpenSpec.ofChange clearStaysSpec)

/-- ITS FALSE NEIGHBOUR: 'it returns false'. Refute it at one input. -/
def clearStaysWrong : ChangeSpec := { name := "clearStays", fn := fun _ => fun
  | [d1, d2, d3] => { results := [.lit (.bool false)], args := [d1, d2, d3] }
  | _ => none }
def ClearStaysWrongFalsely : Prop := clearStaysRow.holds Tryz.pinned (OpenSpec.ofChange clearStaysWrong)

/-- 'damperlaw17.ClearOrders': WHATEVER THE INPUT: true; the input reads as it did. -/
def clearOrdersSpec : ChangeSpec := { name := "clearOrders", fn := fun _ => fun
  | [d1, d2, d3] => { results := [.lit (.bool true)], args := [d1, d2, d3] }
  | _ => none }
def clearOrdersRow : OpenClaim := { program := "ytacpjpkhmdcagaagreat", sum := "c5a0bc2b82231e7a17e2206bcd7928c88f13adc06a176f2a12d604f115a9e8bf", func := "damper/damperlaw17.ClearOrders", spec := "clearOrders", inPlace := ["slices.overlaps[damper/ladder.Level]"], unfollowed := true, recurses := true, plainKeys := false, apart := false }
def ClearOrdersSaid : Prop := clearOrdersRow.holds Tryz.pinned (OpenSpec.ofChange clearOrdersSpec)

/-- ITS FALSE NEIGHBOUR: 'it returns false'. Refute it at one input. -/
def clearOrdersWrong : ChangeSpec := { name := "clearOrders", fn := fun _ => fun
  | [d1, d2, d3] => { results := [.lit (.bool false)], args := [d1, d2, d3] }
  | _ => none }
def ClearOrdersWrongFalsely : Prop := clearOrdersRow.holds Tryz.pinned (OpenSpec.ofChange clearOrdersWrong)

/-- 'damperlaw17.ClearChooses': WHATEVER THE INPUT: true; the input reads as it did. -/
def clearChoosesSpec : ChangeSpec := { name := "clearChooses", fn := fun _ => fun
  | [d1, d2, d3] => { results := [.lit (.bool true)], args := [d1, d2, d3] }
  | _ => none }
def clearChoosesRow : OpenClaim := { program := "ytacpjpkhmdcagaagreat", sum := "c5a0bc2b82231e7a17e2206bcd7928c88f13adc06a176f2a12d604f115a9e8bf", func := "damper/damperlaw17.ClearChooses", spec := "clearChooses", inPlace := ["slices.overlaps[damper/ladder.Level]"], unfollowed := true, recurses := true, plainKeys := false, apart := false }
def ClearChoosesSaid : Prop := clearChoosesRow.holds Tryz.pinned (OpenSpec.ofChange clearChoosesSpec)

/-- ITS FALSE NEIGHBOUR: 'it returns false'. Refute it at one input. -/
def clearChoosesWrong : ChangeSpec := { name := "clearChooses", fn := fun _ => fun
  | [d1, d2, d3] => { results := [.lit (.bool false)], args := [d1, d2, d3] }
  | _ => none }
def ClearChoosesWrongFalsely : Prop := clearChoosesRow.holds Tryz.pinned (OpenSpec.ofChange clearChoosesWrong)

/- THE SECOND FORM. 'bulk': how many values and letters a reading holds, each counted each time it is reached (what is shared counts as often as it is met; a slice's spare places count too). A statement '..UptoSaid' is the law's where the arguments, and the package variables that the reading takes, are together of bulk at most 1048576: NARROWER than '..Said'. Prove '..Said' where nothing that the law and all that it calls make is longer than what came in: it says more and counts as full. Else prove '..UptoSaid'. A law counts once. -/
mutual
def uptoBulk {H : Type} : DataW H → Nat
  | .lit (.string bytes) => bytes.length + 1
  | .lit _ => 1
  | .nil => 1
  | .ptr d => uptoBulk d + 1
  | .slice elems spare => uptoBulkAll elems + uptoBulkAll spare + 1
  | .agg parts => uptoBulkAll parts + 1
  | .iface _ d => uptoBulk d + 1
  | .map entries => uptoBulkEntries entries + 1
  | .held _ => 1
def uptoBulkAll {H : Type} : List (DataW H) → Nat
  | [] => 0
  | d :: r => uptoBulk d + uptoBulkAll r
def uptoBulkEntries {H : Type} : List (Lit × DataW H) → Nat
  | [] => 0
  | x :: r => uptoBulkEntry x + uptoBulkEntries r
def uptoBulkEntry {H : Type} : Lit × DataW H → Nat
  | (.string bytes, d) => bytes.length + uptoBulk d + 1
  | (_, d) => uptoBulk d + 1
 end
def uptoSmall : (H : Type) → List (DataW H) → Bool := fun _ ds => decide (uptoBulkAll ds ≤ 1048576)
def OpenSpec.upto (s : _root_.Go.ChangeSpec) : _root_.Go.OpenSpec := { _root_.Go.OpenSpec.ofChange s with cond := some uptoSmall }

/-- 'damperlaw17.ClearMost', WHERE WHAT IT READS IS OF BULK AT MOST 1048576: true; the input reads as it did. -/
def clearMostUptoRow : OpenClaim := { program := "ytacpjpkhmdcagaagreat", sum := "c5a0bc2b82231e7a17e2206bcd7928c88f13adc06a176f2a12d604f115a9e8bf", func := "damper/damperlaw17.ClearMost", spec := "clearMost", inPlace := ["slices.overlaps[damper/ladder.Level]"], unfollowed := true, recurses := true, plainKeys := false, apart := false, narrowed := true }
def ClearMostUptoSaid : Prop := clearMostUptoRow.holds Tryz.pinned (OpenSpec.upto clearMostSpec)

/-- 'damperlaw17.ClearStays', WHERE WHAT IT READS IS OF BULK AT MOST 1048576: true; the input reads as it did. -/
def clearStaysUptoRow : OpenClaim := { program := "ytacpjpkhmdcagaagreat", sum := "c5a0bc2b82231e7a17e2206bcd7928c88f13adc06a176f2a12d604f115a9e8bf", func := "damper/damperlaw17.ClearStays", spec := "clearStays", inPlace := ["slices.overlaps[damper/ladder.Level]"], unfollowed := true, recurses := true, plainKeys := false, apart := false, narrowed := true }
def ClearStaysUptoSaid : Prop := clearStaysUptoRow.holds Tryz.pinned (OpenSpec.upto clearStaysSpec)

/-- 'damperlaw17.ClearOrders', WHERE WHAT IT READS IS OF BULK AT MOST 1048576: true; the input reads as it did. -/
def clearOrdersUptoRow : OpenClaim := { program := "ytacpjpkhmdcagaagreat", sum := "c5a0bc2b82231e7a17e2206bcd7928c88f13adc06a176f2a12d604f115a9e8bf", func := "damper/damperlaw17.ClearOrders", spec := "clearOrders", inPlace := ["slices.overlaps[damper/ladder.Level]"], unfollowed := true, recurses := true, plainKeys := false, apart := false, narrowed := true }
def ClearOrdersUptoSaid : Prop := clearOrdersUptoRow.holds Tryz.pinned (OpenSpec.upto clearOrdersSpec)

/-- 'damperlaw17.ClearChooses', WHERE WHAT IT READS IS OF BULK AT MOST 1048576: true; the input reads as it did. -/
def clearChoosesUptoRow : OpenClaim := { program := "ytacpjpkhmdcagaagreat", sum := "c5a0bc2b82231e7a17e2206bcd7928c88f13adc06a176f2a12d604f115a9e8bf", func := "damper/damperlaw17.ClearChooses", spec := "clearChooses", inPlace := ["slices.overlaps[damper/ladder.Level]"], unfollowed := true, recurses := true, plainKeys := false, apart := false, narrowed := true }
def ClearChoosesUptoSaid : Prop := clearChoosesUptoRow.holds Tryz.pinned (OpenSpec.upto clearChoosesSpec)

end Rows
end Go.Proofs.YtacpjpkhmdcagaaGreat
