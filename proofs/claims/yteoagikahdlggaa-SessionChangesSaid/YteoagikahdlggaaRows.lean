/-
  No cell of these rows narrows 'for every input' (looked for: loops, veiled, ifaces, maps, wideKeys, modest, calm, conditions, laid).
  DERIVED. THE GIVEN ROWS OF THIS SEAT. 4 by the template 'for every input the law returns true; each argument reads behind the call as it read before'; 0 by the template 'total and deterministic' (their statements: YteoagikahdlggaaTotals.lean).
  GIVEN WITH THE SEED: the statements are not yours to turn. If you find one false, say at which input.
  Laid BY PROGRAM, IN A SANDBOX (cutbox-rows.mjs): the forced cells as the released guide's own fill.sh prints them over the translation 90fb89bd0b43acf6… (all of the seat's roots in one cut). By AI agents, Wed Nov 11 2026. No macro, syntax, notation, axiom, sorry.
-/
import Derived.Test.YteoagikahdlggaaChecked
import GoSem.Claim
import GoSem.ClaimJoined
import GoSem.ClaimMapViews
import Derived.JoinedTies
import Derived.KernelRfl
namespace Go.Proofs.Yteoagikahdlggaa
/- THE CELL 'sum', in the pinned program and in every row, IS THE sha256 OF THE DUMP (.gsa) THAT YteoagikahdlggaaProg.lean LOADS. Nothing in Lean hashes anything: it is a label: what it is worth is what the hold of that sum in a sandbox is worth. -/
noncomputable def Try.pinned : Pinned := { name := "yteoagikahdlggaa", sum := "90fb89bd0b43acf6fda48f84f8880d3731a6af82f227402c0e4755ff1a640d0c", checked := Try.checked }
namespace Rows
def none {H : Type} : Left H := { results := [], args := [] }

/-- 'damperlaw08.SessionAts': WHATEVER THE INPUT: true; the input reads as it did. -/
def sessionAtsSpec : ChangeSpec := { name := "sessionAts", fn := fun _ => fun
  | [d1, d2] => { results := [.lit (.bool true)], args := [d1, d2] }
  | _ => none }
def sessionAtsRow : OpenClaim := { program := "yteoagikahdlggaa", sum := "90fb89bd0b43acf6fda48f84f8880d3731a6af82f227402c0e4755ff1a640d0c", func := "damper/damperlaw08.SessionAts", spec := "sessionAts", unfollowed := true, recurses := true, apart := false }
def SessionAtsSaid : Prop := sessionAtsRow.holds Try.pinned (OpenSpec.ofChange sessionAtsSpec)

/-- ITS FALSE NEIGHBOUR: 'it returns false'. Refute it at one input. -/
def sessionAtsWrong : ChangeSpec := { name := "sessionAts", fn := fun _ => fun
  | [d1, d2] => { results := [.lit (.bool false)], args := [d1, d2] }
  | _ => none }
def SessionAtsWrongFalsely : Prop := sessionAtsRow.holds Try.pinned (OpenSpec.ofChange sessionAtsWrong)

/-- 'damperlaw08.SessionStays': WHATEVER THE INPUT: true; the input reads as it did. -/
def sessionStaysSpec : ChangeSpec := { name := "sessionStays", fn := fun _ => fun
  | [d1, d2, d3] => { results := [.lit (.bool true)], args := [d1, d2, d3] }
  | _ => none }
def sessionStaysRow : OpenClaim := { program := "yteoagikahdlggaa", sum := "90fb89bd0b43acf6fda48f84f8880d3731a6af82f227402c0e4755ff1a640d0c", func := "damper/damperlaw08.SessionStays", spec := "sessionStays", unfollowed := true, recurses := true, apart := false }
def SessionStaysSaid : Prop := sessionStaysRow.holds Try.pinned (OpenSpec.ofChange sessionStaysSpec)

/-- ITS FALSE NEIGHBOUR: 'it returns false'. Refute it at one input. -/
def sessionStaysWrong : ChangeSpec := { name := "sessionStays", fn := fun _ => fun
  | [d1, d2, d3] => { results := [.lit (.bool false)], args := [d1, d2, d3] }
  | _ => none }
def SessionStaysWrongFalsely : Prop := sessionStaysRow.holds Try.pinned (OpenSpec.ofChange sessionStaysWrong)

/-- 'damperlaw08.SessionLasts': WHATEVER THE INPUT: true; the input reads as it did. -/
def sessionLastsSpec : ChangeSpec := { name := "sessionLasts", fn := fun _ => fun
  | [d1, d2, d3] => { results := [.lit (.bool true)], args := [d1, d2, d3] }
  | _ => none }
def sessionLastsRow : OpenClaim := { program := "yteoagikahdlggaa", sum := "90fb89bd0b43acf6fda48f84f8880d3731a6af82f227402c0e4755ff1a640d0c", func := "damper/damperlaw08.SessionLasts", spec := "sessionLasts", unfollowed := true, recurses := true, apart := false }
def SessionLastsSaid : Prop := sessionLastsRow.holds Try.pinned (OpenSpec.ofChange sessionLastsSpec)

/-- ITS FALSE NEIGHBOUR: 'it returns false'. Refute it at one input. -/
def sessionLastsWrong : ChangeSpec := { name := "sessionLasts", fn := fun _ => fun
  | [d1, d2, d3] => { results := [.lit (.bool false)], args := [d1, d2, d3] }
  | _ => none }
def SessionLastsWrongFalsely : Prop := sessionLastsRow.holds Try.pinned (OpenSpec.ofChange sessionLastsWrong)

/-- 'damperlaw08.SessionChanges': WHATEVER THE INPUT: true; the input reads as it did. -/
def sessionChangesSpec : ChangeSpec := { name := "sessionChanges", fn := fun _ => fun
  | [d1, d2] => { results := [.lit (.bool true)], args := [d1, d2] }
  | _ => none }
def sessionChangesRow : OpenClaim := { program := "yteoagikahdlggaa", sum := "90fb89bd0b43acf6fda48f84f8880d3731a6af82f227402c0e4755ff1a640d0c", func := "damper/damperlaw08.SessionChanges", spec := "sessionChanges", unfollowed := true, recurses := true, apart := false }
def SessionChangesSaid : Prop := sessionChangesRow.holds Try.pinned (OpenSpec.ofChange sessionChangesSpec)

/-- ITS FALSE NEIGHBOUR: 'it returns false'. Refute it at one input. -/
def sessionChangesWrong : ChangeSpec := { name := "sessionChanges", fn := fun _ => fun
  | [d1, d2] => { results := [.lit (.bool false)], args := [d1, d2] }
  | _ => none }
def SessionChangesWrongFalsely : Prop := sessionChangesRow.holds Try.pinned (OpenSpec.ofChange sessionChangesWrong)

/- THE SECOND FORM. 'bulk': how many values and letters a reading holds, each counted each time it is reached (what is shared counts as often as it is met; a slice's spare places count too). A statement '..UptoSaid' is the law's where the arguments, and the package variables that the reading takes, are together of bulk at most 1048576: NARROWER than '..Said'. Prove '..Said' where nothing that the law and all that it calls make is longer than what came in: it says more and counts as full. Else prove '..UptoSaid'. A law counts once. -/
mutual
def uptoBulk {H : Type} : DataW H → Nat
  | .lit (.string bytes) => bytes.length + 1
  | .lit _ => 1
  | .nil => 1
  | .ptr d => uptoBulk d + 1
  | .slice elems spare => uptoBulkAll elems + uptoBulkAll spare + 1
  | .agg parts => uptoBulkAll parts + 1
  | .iface _ d => uptoBulk d + 1
  | .map entries => uptoBulkEntries entries + 1
  | .held _ => 1
def uptoBulkAll {H : Type} : List (DataW H) → Nat
  | [] => 0
  | d :: r => uptoBulk d + uptoBulkAll r
def uptoBulkEntries {H : Type} : List (Lit × DataW H) → Nat
  | [] => 0
  | x :: r => uptoBulkEntry x + uptoBulkEntries r
def uptoBulkEntry {H : Type} : Lit × DataW H → Nat
  | (.string bytes, d) => bytes.length + uptoBulk d + 1
  | (_, d) => uptoBulk d + 1
 end
def uptoSmall : (H : Type) → List (DataW H) → Bool := fun _ ds => decide (uptoBulkAll ds ≤ 1048576)
def OpenSpec.upto (s : _root_.Go.ChangeSpec) : _root_.Go.OpenSpec := { _root_.Go.OpenSpec.ofChange s with cond := some uptoSmall }

/-- 'damperlaw08.SessionAts', WHERE WHAT IT READS IS OF BULK AT MOST 1048576: true; the input reads as it did. -/
def sessionAtsUptoRow : OpenClaim := { program := "yteoagikahdlggaa", sum := "90fb89bd0b43acf6fda48f84f8880d3731a6af82f227402c0e4755ff1a640d0c", func := "damper/damperlaw08.SessionAts", spec := "sessionAts", unfollowed := true, recurses := true, apart := false, narrowed := true }
def SessionAtsUptoSaid : Prop := sessionAtsUptoRow.holds Try.pinned (OpenSpec.upto sessionAtsSpec)

/-- 'damperlaw08.SessionStays', WHERE WHAT IT READS IS OF BULK AT MOST 1048576: true; the input reads as it did. -/
def sessionStaysUptoRow : OpenClaim := { program := "yteoagikahdlggaa", sum := "90fb89bd0b43acf6fda48f84f8880d3731a6af82f227402c0e4755ff1a640d0c", func := "damper/damperlaw08.SessionStays", spec := "sessionStays", unfollowed := true, recurses := true, apart := false, narrowed := true }
def SessionStaysUptoSaid : Prop := sessionStaysUptoRow.holds Try.pinned (OpenSpec.upto sessionStaysSpec)

/-- 'damperlaw08.SessionLasts', WHERE WHAT IT READS IS OF BULK AT MOST 1048576: true; the input reads as it did. -/
def sessionLastsUptoRow : OpenClaim := { program := "yteoagikahdlggaa", sum := "90fb89bd0b43acf6fda48f84f8880d3731a6af82f227402c0e4755ff1a640d0c", func := "damper/damperlaw08.SessionLasts", spec := "sessionLasts", unfollowed := true, recurses := true, apart := false, narrowed := true }
def SessionLastsUptoSaid : Prop := sessionLastsUptoRow.holds Try.pinned (OpenSpec.upto sessionLastsSpec)

/-- 'damperlaw08.SessionChanges', WHERE WHAT IT READS IS OF BULK AT MOST 1048576: true; the input reads as it did. -/
def sessionChangesUptoRow : OpenClaim := { program := "yteoagikahdlggaa", sum := "90fb89bd0b43acf6fda48f84f8880d3731a6af82f227402c0e4755ff1a640d0c", func := "damper/damperlaw08.SessionChanges", spec := "sessionChanges", unfollowed := true, recurses := true, apart := false, narrowed := true }
def SessionChangesUptoSaid : Prop := sessionChangesUptoRow.holds Try.pinned (OpenSpec.upto sessionChangesSpec)

end Rows
end Go.Proofs.Yteoagikahdlggaa
