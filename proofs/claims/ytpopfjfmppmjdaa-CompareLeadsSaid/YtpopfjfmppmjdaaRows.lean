/-
  No cell of these rows narrows 'for every input' (looked for: loops, veiled, ifaces, maps, wideKeys, modest, calm, conditions, laid).
  DERIVED. THE GIVEN ROWS OF THIS SEAT. 3 by the template 'for every input the law returns true; each argument reads behind the call as it read before'; 0 by the template 'total and deterministic' (their statements: YtpopfjfmppmjdaaTotals.lean).
  GIVEN WITH THE SEED: the statements are not yours to turn. If you find one false, say at which input.
  Laid BY PROGRAM, IN A SANDBOX (cutbox-rows.mjs): the forced cells as the released guide's own fill.sh prints them over the translation f62ca886500064d4… (all of the seat's roots in one cut). By AI agents, Wed Nov 11 2026. No macro, syntax, notation, axiom, sorry.
-/
import Derived.Test.YtpopfjfmppmjdaaChecked
import GoSem.Claim
import GoSem.ClaimJoined
import GoSem.ClaimMapViews
import Derived.JoinedTies
import Derived.KernelRfl
namespace Go.Proofs.Ytpopfjfmppmjdaa
/- THE CELL 'sum', in the pinned program and in every row, IS THE sha256 OF THE DUMP (.gsa) THAT YtpopfjfmppmjdaaProg.lean LOADS. Nothing in Lean hashes anything: it is a label: what it is worth is what the hold of that sum in a sandbox is worth. -/
noncomputable def Try.pinned : Pinned := { name := "ytpopfjfmppmjdaa", sum := "f62ca886500064d473eb88b5c7ae8a230ec0266bcb7684be3452bb26ac684a6f", checked := Try.checked }
namespace Rows
def none {H : Type} : Left H := { results := [], args := [] }

/-- 'damperlaw38.CompareEdits': WHATEVER THE INPUT: true; the input reads as it did. -/
def compareEditsSpec : ChangeSpec := { name := "compareEdits", fn := fun _ => fun
  | [d1, d2] => { results := [.lit (.bool true)], args := [d1, d2] }
  | _ => none }
def compareEditsRow : OpenClaim := { program := "ytpopfjfmppmjdaa", sum := "f62ca886500064d473eb88b5c7ae8a230ec0266bcb7684be3452bb26ac684a6f", func := "damper/damperlaw38.CompareEdits", spec := "compareEdits", unfollowed := true, recurses := true, apart := false }
def CompareEditsSaid : Prop := compareEditsRow.holds Try.pinned (OpenSpec.ofChange compareEditsSpec)

/-- ITS FALSE NEIGHBOUR: 'it returns false'. Refute it at one input. -/
def compareEditsWrong : ChangeSpec := { name := "compareEdits", fn := fun _ => fun
  | [d1, d2] => { results := [.lit (.bool false)], args := [d1, d2] }
  | _ => none }
def CompareEditsWrongFalsely : Prop := compareEditsRow.holds Try.pinned (OpenSpec.ofChange compareEditsWrong)

/-- 'damperlaw38.CompareApplies': WHATEVER THE INPUT: true; the input reads as it did. -/
def compareAppliesSpec : ChangeSpec := { name := "compareApplies", fn := fun _ => fun
  | [d1, d2, d3] => { results := [.lit (.bool true)], args := [d1, d2, d3] }
  | _ => none }
def compareAppliesRow : OpenClaim := { program := "ytpopfjfmppmjdaa", sum := "f62ca886500064d473eb88b5c7ae8a230ec0266bcb7684be3452bb26ac684a6f", func := "damper/damperlaw38.CompareApplies", spec := "compareApplies", unfollowed := true, recurses := true, apart := false }
def CompareAppliesSaid : Prop := compareAppliesRow.holds Try.pinned (OpenSpec.ofChange compareAppliesSpec)

/-- ITS FALSE NEIGHBOUR: 'it returns false'. Refute it at one input. -/
def compareAppliesWrong : ChangeSpec := { name := "compareApplies", fn := fun _ => fun
  | [d1, d2, d3] => { results := [.lit (.bool false)], args := [d1, d2, d3] }
  | _ => none }
def CompareAppliesWrongFalsely : Prop := compareAppliesRow.holds Try.pinned (OpenSpec.ofChange compareAppliesWrong)

/-- 'damperlaw38.CompareLeads': WHATEVER THE INPUT: true; the input reads as it did. -/
def compareLeadsSpec : ChangeSpec := { name := "compareLeads", fn := fun _ => fun
  | [d1, d2] => { results := [.lit (.bool true)], args := [d1, d2] }
  | _ => none }
def compareLeadsRow : OpenClaim := { program := "ytpopfjfmppmjdaa", sum := "f62ca886500064d473eb88b5c7ae8a230ec0266bcb7684be3452bb26ac684a6f", func := "damper/damperlaw38.CompareLeads", spec := "compareLeads", unfollowed := true, recurses := true, apart := false }
def CompareLeadsSaid : Prop := compareLeadsRow.holds Try.pinned (OpenSpec.ofChange compareLeadsSpec)

/-- ITS FALSE NEIGHBOUR: 'it returns false'. Refute it at one input. -/
def compareLeadsWrong : ChangeSpec := { name := "compareLeads", fn := fun _ => fun
  | [d1, d2] => { results := [.lit (.bool false)], args := [d1, d2] }
  | _ => none }
def CompareLeadsWrongFalsely : Prop := compareLeadsRow.holds Try.pinned (OpenSpec.ofChange compareLeadsWrong)

/- THE SECOND FORM. 'bulk': how many values and letters a reading holds, each counted each time it is reached (what is shared counts as often as it is met; a slice's spare places count too). A statement '..UptoSaid' is the law's where the arguments, and the package variables that the reading takes, are together of bulk at most 1048576: NARROWER than '..Said'. Prove '..Said' where nothing that the law and all that it calls make is longer than what came in: it says more and counts as full. Else prove '..UptoSaid'. A law counts once. -/
mutual
def uptoBulk {H : Type} : DataW H → Nat
  | .lit (.string bytes) => bytes.length + 1
  | .lit _ => 1
  | .nil => 1
  | .ptr d => uptoBulk d + 1
  | .slice elems spare => uptoBulkAll elems + uptoBulkAll spare + 1
  | .agg parts => uptoBulkAll parts + 1
  | .iface _ d => uptoBulk d + 1
  | .map entries => uptoBulkEntries entries + 1
  | .held _ => 1
def uptoBulkAll {H : Type} : List (DataW H) → Nat
  | [] => 0
  | d :: r => uptoBulk d + uptoBulkAll r
def uptoBulkEntries {H : Type} : List (Lit × DataW H) → Nat
  | [] => 0
  | x :: r => uptoBulkEntry x + uptoBulkEntries r
def uptoBulkEntry {H : Type} : Lit × DataW H → Nat
  | (.string bytes, d) => bytes.length + uptoBulk d + 1
  | (_, d) => uptoBulk d + 1
 end
def uptoSmall : (H : Type) → List (DataW H) → Bool := fun _ ds => decide (uptoBulkAll ds ≤ 1048576)
def OpenSpec.upto (s : _root_.Go.ChangeSpec) : _root_.Go.OpenSpec := { _root_.Go.OpenSpec.ofChange s with cond := some uptoSmall }

/-- 'damperlaw38.CompareEdits', WHERE WHAT IT READS IS OF BULK AT MOST 1048576: true; the input reads as it did. -/
def compareEditsUptoRow : OpenClaim := { program := "ytpopfjfmppmjdaa", sum := "f62ca886500064d473eb88b5c7ae8a230ec0266bcb7684be3452bb26ac684a6f", func := "damper/damperlaw38.CompareEdits", spec := "compareEdits", unfollowed := true, recurses := true, apart := false, narrowed := true }
def CompareEditsUptoSaid : Prop := compareEditsUptoRow.holds Try.pinned (OpenSpec.upto compareEditsSpec)

/-- 'damperlaw38.CompareApplies', WHERE WHAT IT READS IS OF BULK AT MOST 1048576: true; the input reads as it did. -/
def compareAppliesUptoRow : OpenClaim := { program := "ytpopfjfmppmjdaa", sum := "f62ca886500064d473eb88b5c7ae8a230ec0266bcb7684be3452bb26ac684a6f", func := "damper/damperlaw38.CompareApplies", spec := "compareApplies", unfollowed := true, recurses := true, apart := false, narrowed := true }
def CompareAppliesUptoSaid : Prop := compareAppliesUptoRow.holds Try.pinned (OpenSpec.upto compareAppliesSpec)

/-- 'damperlaw38.CompareLeads', WHERE WHAT IT READS IS OF BULK AT MOST 1048576: true; the input reads as it did. -/
def compareLeadsUptoRow : OpenClaim := { program := "ytpopfjfmppmjdaa", sum := "f62ca886500064d473eb88b5c7ae8a230ec0266bcb7684be3452bb26ac684a6f", func := "damper/damperlaw38.CompareLeads", spec := "compareLeads", unfollowed := true, recurses := true, apart := false, narrowed := true }
def CompareLeadsUptoSaid : Prop := compareLeadsUptoRow.holds Try.pinned (OpenSpec.upto compareLeadsSpec)

end Rows
end Go.Proofs.Ytpopfjfmppmjdaa
