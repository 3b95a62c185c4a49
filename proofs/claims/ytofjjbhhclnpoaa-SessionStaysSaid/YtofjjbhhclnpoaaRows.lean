/-
  No cell of these rows narrows 'for every input' (looked for: loops, veiled, ifaces, maps, wideKeys, modest, calm, conditions, laid).
  DERIVED. THE GIVEN ROWS OF THIS SEAT. 11 by the template 'for every input the law returns true; each argument reads behind the call as it read before'; 0 by the template 'total and deterministic' (their statements: YtofjjbhhclnpoaaTotals.lean).
  GIVEN WITH THE SEED: the statements are not yours to turn. If you find one false, say at which input.
  Laid BY PROGRAM, IN A SANDBOX (cutbox-rows.mjs): the forced cells as the released guide's own fill.sh prints them over the translation 9487e71f69cc3000… (all of the seat's roots in one cut). By AI agents, Wed Nov 11 2026. No macro, syntax, notation, axiom, sorry.
-/
import Derived.Test.YtofjjbhhclnpoaaChecked
import GoSem.Claim
import GoSem.ClaimJoined
import GoSem.ClaimMapViews
import Derived.JoinedTies
import Derived.KernelRfl
namespace Go.Proofs.Ytofjjbhhclnpoaa
/- THE CELL 'sum', in the pinned program and in every row, IS THE sha256 OF THE DUMP (.gsa) THAT YtofjjbhhclnpoaaProg.lean LOADS. Nothing in Lean hashes anything: it is a label: what it is worth is what the hold of that sum in a sandbox is worth. -/
noncomputable def Try.pinned : Pinned := { name := "ytofjjbhhclnpoaa", sum := "9487e71f69cc3000eb3ce3d2b7923d4e4a5936851dab38543592fa31d0ffcc13", checked := Try.checked }
namespace Rows
def none {H : Type} : Left H := { results := [], args := [] }

/-- 'damperlaw21.LimitPlays': WHATEVER THE INPUT: true; the input reads as it did. -/
def limitPlaysSpec : ChangeSpec := { name := "limitPlays", fn := fun _ => fun
  | [d1, d2, d3] => { results := [.lit (.bool true)], args := [d1, d2, d3] }
  | _ => none }
def limitPlaysRow : OpenClaim := { program := "ytofjjbhhclnpoaa", sum := "9487e71f69cc3000eb3ce3d2b7923d4e4a5936851dab38543592fa31d0ffcc13", func := "damper/damperlaw21.LimitPlays", spec := "limitPlays", apart := false }
def LimitPlaysSaid : Prop := limitPlaysRow.holds Try.pinned (OpenSpec.ofChange limitPlaysSpec)

/-- ITS FALSE NEIGHBOUR: 'it returns false'. Refute it at one input. -/
def limitPlaysWrong : ChangeSpec := { name := "limitPlays", fn := fun _ => fun
  | [d1, d2, d3] => { results := [.lit (.bool false)], args := [d1, d2, d3] }
  | _ => none }
def LimitPlaysWrongFalsely : Prop := limitPlaysRow.holds Try.pinned (OpenSpec.ofChange limitPlaysWrong)

/-- 'damperlaw21.LimitStates': WHATEVER THE INPUT: true; the input reads as it did. -/
def limitStatesSpec : ChangeSpec := { name := "limitStates", fn := fun _ => fun
  | [d1, d2, d3, d4] => { results := [.lit (.bool true)], args := [d1, d2, d3, d4] }
  | _ => none }
def limitStatesRow : OpenClaim := { program := "ytofjjbhhclnpoaa", sum := "9487e71f69cc3000eb3ce3d2b7923d4e4a5936851dab38543592fa31d0ffcc13", func := "damper/damperlaw21.LimitStates", spec := "limitStates", unfollowed := true, recurses := true, apart := false }
def LimitStatesSaid : Prop := limitStatesRow.holds Try.pinned (OpenSpec.ofChange limitStatesSpec)

/-- ITS FALSE NEIGHBOUR: 'it returns false'. Refute it at one input. -/
def limitStatesWrong : ChangeSpec := { name := "limitStates", fn := fun _ => fun
  | [d1, d2, d3, d4] => { results := [.lit (.bool false)], args := [d1, d2, d3, d4] }
  | _ => none }
def LimitStatesWrongFalsely : Prop := limitStatesRow.holds Try.pinned (OpenSpec.ofChange limitStatesWrong)

/-- 'damperlaw24.ShortLeast': WHATEVER THE INPUT: true; the input reads as it did. -/
def shortLeastSpec : ChangeSpec := { name := "shortLeast", fn := fun _ => fun
  | [d1, d2] => { results := [.lit (.bool true)], args := [d1, d2] }
  | _ => none }
def shortLeastRow : OpenClaim := { program := "ytofjjbhhclnpoaa", sum := "9487e71f69cc3000eb3ce3d2b7923d4e4a5936851dab38543592fa31d0ffcc13", func := "damper/damperlaw24.ShortLeast", spec := "shortLeast", apart := false }
def ShortLeastSaid : Prop := shortLeastRow.holds Try.pinned (OpenSpec.ofChange shortLeastSpec)

/-- ITS FALSE NEIGHBOUR: 'it returns false'. Refute it at one input. -/
def shortLeastWrong : ChangeSpec := { name := "shortLeast", fn := fun _ => fun
  | [d1, d2] => { results := [.lit (.bool false)], args := [d1, d2] }
  | _ => none }
def ShortLeastWrongFalsely : Prop := shortLeastRow.holds Try.pinned (OpenSpec.ofChange shortLeastWrong)

/-- 'damperlaw38.CompareEdits': WHATEVER THE INPUT: true; the input reads as it did. -/
def compareEditsSpec : ChangeSpec := { name := "compareEdits", fn := fun _ => fun
  | [d1, d2] => { results := [.lit (.bool true)], args := [d1, d2] }
  | _ => none }
def compareEditsRow : OpenClaim := { program := "ytofjjbhhclnpoaa", sum := "9487e71f69cc3000eb3ce3d2b7923d4e4a5936851dab38543592fa31d0ffcc13", func := "damper/damperlaw38.CompareEdits", spec := "compareEdits", unfollowed := true, recurses := true, apart := false }
def CompareEditsSaid : Prop := compareEditsRow.holds Try.pinned (OpenSpec.ofChange compareEditsSpec)

/-- ITS FALSE NEIGHBOUR: 'it returns false'. Refute it at one input. -/
def compareEditsWrong : ChangeSpec := { name := "compareEdits", fn := fun _ => fun
  | [d1, d2] => { results := [.lit (.bool false)], args := [d1, d2] }
  | _ => none }
def CompareEditsWrongFalsely : Prop := compareEditsRow.holds Try.pinned (OpenSpec.ofChange compareEditsWrong)

/-- 'damperlaw08.SessionAts': WHATEVER THE INPUT: true; the input reads as it did. -/
def sessionAtsSpec : ChangeSpec := { name := "sessionAts", fn := fun _ => fun
  | [d1, d2] => { results := [.lit (.bool true)], args := [d1, d2] }
  | _ => none }
def sessionAtsRow : OpenClaim := { program := "ytofjjbhhclnpoaa", sum := "9487e71f69cc3000eb3ce3d2b7923d4e4a5936851dab38543592fa31d0ffcc13", func := "damper/damperlaw08.SessionAts", spec := "sessionAts", unfollowed := true, recurses := true, apart := false }
def SessionAtsSaid : Prop := sessionAtsRow.holds Try.pinned (OpenSpec.ofChange sessionAtsSpec)

/-- ITS FALSE NEIGHBOUR: 'it returns false'. Refute it at one input. -/
def sessionAtsWrong : ChangeSpec := { name := "sessionAts", fn := fun _ => fun
  | [d1, d2] => { results := [.lit (.bool false)], args := [d1, d2] }
  | _ => none }
def SessionAtsWrongFalsely : Prop := sessionAtsRow.holds Try.pinned (OpenSpec.ofChange sessionAtsWrong)

/-- 'damperlaw08.SessionStays': WHATEVER THE INPUT: true; the input reads as it did. -/
def sessionStaysSpec : ChangeSpec := { name := "sessionStays", fn := fun _ => fun
  | [d1, d2, d3] => { results := [.lit (.bool true)], args := [d1, d2, d3] }
  | _ => none }
def sessionStaysRow : OpenClaim := { program := "ytofjjbhhclnpoaa", sum := "9487e71f69cc3000eb3ce3d2b7923d4e4a5936851dab38543592fa31d0ffcc13", func := "damper/damperlaw08.SessionStays", spec := "sessionStays", unfollowed := true, recurses := true, apart := false }
def SessionStaysSaid : Prop := sessionStaysRow.holds Try.pinned (OpenSpec.ofChange sessionStaysSpec)

/-- ITS FALSE NEIGHBOUR: 'it returns false'. Refute it at one input. -/
def sessionStaysWrong : ChangeSpec := { name := "sessionStays", fn := fun _ => fun
  | [d1, d2, d3] => { results := [.lit (.bool false)], args := [d1, d2, d3] }
  | _ => none }
def SessionStaysWrongFalsely : Prop := sessionStaysRow.holds Try.pinned (OpenSpec.ofChange sessionStaysWrong)

/-- 'damperlaw24.ShortMays': WHATEVER THE INPUT: true; the input reads as it did. -/
def shortMaysSpec : ChangeSpec := { name := "shortMays", fn := fun _ => fun
  | [d1, d2, d3, d4, d5] => { results := [.lit (.bool true)], args := [d1, d2, d3, d4, d5] }
  | _ => none }
def shortMaysRow : OpenClaim := { program := "ytofjjbhhclnpoaa", sum := "9487e71f69cc3000eb3ce3d2b7923d4e4a5936851dab38543592fa31d0ffcc13", func := "damper/damperlaw24.ShortMays", spec := "shortMays", unfollowed := true, recurses := true, apart := false }
def ShortMaysSaid : Prop := shortMaysRow.holds Try.pinned (OpenSpec.ofChange shortMaysSpec)

/-- ITS FALSE NEIGHBOUR: 'it returns false'. Refute it at one input. -/
def shortMaysWrong : ChangeSpec := { name := "shortMays", fn := fun _ => fun
  | [d1, d2, d3, d4, d5] => { results := [.lit (.bool false)], args := [d1, d2, d3, d4, d5] }
  | _ => none }
def ShortMaysWrongFalsely : Prop := shortMaysRow.holds Try.pinned (OpenSpec.ofChange shortMaysWrong)

/-- 'damperlaw08.SessionLasts': WHATEVER THE INPUT: true; the input reads as it did. -/
def sessionLastsSpec : ChangeSpec := { name := "sessionLasts", fn := fun _ => fun
  | [d1, d2, d3] => { results := [.lit (.bool true)], args := [d1, d2, d3] }
  | _ => none }
def sessionLastsRow : OpenClaim := { program := "ytofjjbhhclnpoaa", sum := "9487e71f69cc3000eb3ce3d2b7923d4e4a5936851dab38543592fa31d0ffcc13", func := "damper/damperlaw08.SessionLasts", spec := "sessionLasts", unfollowed := true, recurses := true, apart := false }
def SessionLastsSaid : Prop := sessionLastsRow.holds Try.pinned (OpenSpec.ofChange sessionLastsSpec)

/-- ITS FALSE NEIGHBOUR: 'it returns false'. Refute it at one input. -/
def sessionLastsWrong : ChangeSpec := { name := "sessionLasts", fn := fun _ => fun
  | [d1, d2, d3] => { results := [.lit (.bool false)], args := [d1, d2, d3] }
  | _ => none }
def SessionLastsWrongFalsely : Prop := sessionLastsRow.holds Try.pinned (OpenSpec.ofChange sessionLastsWrong)

/-- 'damperlaw08.SessionChanges': WHATEVER THE INPUT: true; the input reads as it did. -/
def sessionChangesSpec : ChangeSpec := { name := "sessionChanges", fn := fun _ => fun
  | [d1, d2] => { results := [.lit (.bool true)], args := [d1, d2] }
  | _ => none }
def sessionChangesRow : OpenClaim := { program := "ytofjjbhhclnpoaa", sum := "9487e71f69cc3000eb3ce3d2b7923d4e4a5936851dab38543592fa31d0ffcc13", func := "damper/damperlaw08.SessionChanges", spec := "sessionChanges", unfollowed := true, recurses := true, apart := false }
def SessionChangesSaid : Prop := sessionChangesRow.holds Try.pinned (OpenSpec.ofChange sessionChangesSpec)

/-- ITS FALSE NEIGHBOUR: 'it returns false'. Refute it at one input. -/
def sessionChangesWrong : ChangeSpec := { name := "sessionChanges", fn := fun _ => fun
  | [d1, d2] => { results := [.lit (.bool false)], args := [d1, d2] }
  | _ => none }
def SessionChangesWrongFalsely : Prop := sessionChangesRow.holds Try.pinned (OpenSpec.ofChange sessionChangesWrong)

/-- 'damperlaw38.CompareApplies': WHATEVER THE INPUT: true; the input reads as it did. -/
def compareAppliesSpec : ChangeSpec := { name := "compareApplies", fn := fun _ => fun
  | [d1, d2, d3] => { results := [.lit (.bool true)], args := [d1, d2, d3] }
  | _ => none }
def compareAppliesRow : OpenClaim := { program := "ytofjjbhhclnpoaa", sum := "9487e71f69cc3000eb3ce3d2b7923d4e4a5936851dab38543592fa31d0ffcc13", func := "damper/damperlaw38.CompareApplies", spec := "compareApplies", unfollowed := true, recurses := true, apart := false }
def CompareAppliesSaid : Prop := compareAppliesRow.holds Try.pinned (OpenSpec.ofChange compareAppliesSpec)

/-- ITS FALSE NEIGHBOUR: 'it returns false'. Refute it at one input. -/
def compareAppliesWrong : ChangeSpec := { name := "compareApplies", fn := fun _ => fun
  | [d1, d2, d3] => { results := [.lit (.bool false)], args := [d1, d2, d3] }
  | _ => none }
def CompareAppliesWrongFalsely : Prop := compareAppliesRow.holds Try.pinned (OpenSpec.ofChange compareAppliesWrong)

/-- 'damperlaw38.CompareLeads': WHATEVER THE INPUT: true; the input reads as it did. -/
def compareLeadsSpec : ChangeSpec := { name := "compareLeads", fn := fun _ => fun
  | [d1, d2] => { results := [.lit (.bool true)], args := [d1, d2] }
  | _ => none }
def compareLeadsRow : OpenClaim := { program := "ytofjjbhhclnpoaa", sum := "9487e71f69cc3000eb3ce3d2b7923d4e4a5936851dab38543592fa31d0ffcc13", func := "damper/damperlaw38.CompareLeads", spec := "compareLeads", unfollowed := true, recurses := true, apart := false }
def CompareLeadsSaid : Prop := compareLeadsRow.holds Try.pinned (OpenSpec.ofChange compareLeadsSpec)

/-- ITS FALSE NEIGHBOUR: 'it returns false'. Refute it at one input. -/
def compareLeadsWrong : ChangeSpec := { name := "compareLeads", fn := fun _ => fun
  | [d1, d2] => { results := [.lit (.bool false)], args := [d1, d2] }
  | _ => none }
def CompareLeadsWrongFalsely : Prop := compareLeadsRow.holds Try.pinned (OpenSpec.ofChange compareLeadsWrong)

/- THE SECOND FORM. 'bulk': how many values and letters a reading holds, each counted each time it is reached (what is shared counts as often as it is met; a slice's spare places count too). A statement '..UptoSaid' is the law's where the arguments, and the package variables that the reading takes, are together of bulk at most 1048576: NARROWER than '..Said'. Prove '..Said' where nothing that the law and all that it calls make is longer than what came in: it says more and counts as full. Else prove '..UptoSaid'. A law counts once. -/
mutual
def uptoBulk {H : Type} : DataW H → Nat
  | .lit (.string bytes) => bytes.length + 1
  | .lit _ => 1
  | .nil => 1
  | .ptr d => uptoBulk d + 1
  | .slice elems spare => uptoBulkAll elems + uptoBulkAll spare + 1
  | .agg parts => uptoBulkAll parts + 1
  | .iface _ d => uptoBulk d + 1
  | .map entries => uptoBulkEntries entries + 1
  | .held _ => 1
def uptoBulkAll {H : Type} : List (DataW H) → Nat
  | [] => 0
  | d :: r => uptoBulk d + uptoBulkAll r
def uptoBulkEntries {H : Type} : List (Lit × DataW H) → Nat
  | [] => 0
  | x :: r => uptoBulkEntry x + uptoBulkEntries r
def uptoBulkEntry {H : Type} : Lit × DataW H → Nat
  | (.string bytes, d) => bytes.length + uptoBulk d + 1
  | (_, d) => uptoBulk d + 1
 end
def uptoSmall : (H : Type) → List (DataW H) → Bool := fun _ ds => decide (uptoBulkAll ds ≤ 1048576)
def OpenSpec.upto (s : _root_.Go.ChangeSpec) : _root_.Go.OpenSpec := { _root_.Go.OpenSpec.ofChange s with cond := some uptoSmall }

/-- 'damperlaw21.LimitPlays', WHERE WHAT IT READS IS OF BULK AT MOST 1048576: true; the input reads as it did. -/
def limitPlaysUptoRow : OpenClaim := { program := "ytofjjbhhclnpoaa", sum := "9487e71f69cc3000eb3ce3d2b7923d4e4a5936851dab38543592fa31d0ffcc13", func := "damper/damperlaw21.LimitPlays", spec := "limitPlays", apart := false, narrowed := true }
def LimitPlaysUptoSaid : Prop := limitPlaysUptoRow.holds Try.pinned (OpenSpec.upto limitPlaysSpec)

/-- 'damperlaw21.LimitStates', WHERE WHAT IT READS IS OF BULK AT MOST 1048576: true; the input reads as it did. -/
def limitStatesUptoRow : OpenClaim := { program := "ytofjjbhhclnpoaa", sum := "9487e71f69cc3000eb3ce3d2b7923d4e4a5936851dab38543592fa31d0ffcc13", func := "damper/damperlaw21.LimitStates", spec := "limitStates", unfollowed := true, recurses := true, apart := false, narrowed := true }
def LimitStatesUptoSaid : Prop := limitStatesUptoRow.holds Try.pinned (OpenSpec.upto limitStatesSpec)

/-- 'damperlaw24.ShortLeast', WHERE WHAT IT READS IS OF BULK AT MOST 1048576: true; the input reads as it did. -/
def shortLeastUptoRow : OpenClaim := { program := "ytofjjbhhclnpoaa", sum := "9487e71f69cc3000eb3ce3d2b7923d4e4a5936851dab38543592fa31d0ffcc13", func := "damper/damperlaw24.ShortLeast", spec := "shortLeast", apart := false, narrowed := true }
def ShortLeastUptoSaid : Prop := shortLeastUptoRow.holds Try.pinned (OpenSpec.upto shortLeastSpec)

/-- 'damperlaw38.CompareEdits', WHERE WHAT IT READS IS OF BULK AT MOST 1048576: true; the input reads as it did. -/
def compareEditsUptoRow : OpenClaim := { program := "ytofjjbhhclnpoaa", sum := "9487e71f69cc3000eb3ce3d2b7923d4e4a5936851dab38543592fa31d0ffcc13", func := "damper/damperlaw38.CompareEdits", spec := "compareEdits", unfollowed := true, recurses := true, apart := false, narrowed := true }
def CompareEditsUptoSaid : Prop := compareEditsUptoRow.holds Try.pinned (OpenSpec.upto compareEditsSpec)

/-- 'damperlaw08.SessionAts', WHERE WHAT IT READS IS OF BULK AT MOST 1048576: true; the input reads as it did. -/
def sessionAtsUptoRow : OpenClaim := { program := "ytofjjbhhclnpoaa", sum := "9487e71f69cc3000eb3ce3d2b7923d4e4a5936851dab38543592fa31d0ffcc13", func := "damper/damperlaw08.SessionAts", spec := "sessionAts", unfollowed := true, recurses := true, apart := false, narrowed := true }
def SessionAtsUptoSaid : Prop := sessionAtsUptoRow.holds Try.pinned (OpenSpec.upto sessionAtsSpec)

/-- 'damperlaw08.SessionStays', WHERE WHAT IT READS IS OF BULK AT MOST 1048576: true; the input reads as it did. -/
def sessionStaysUptoRow : OpenClaim := { program := "ytofjjbhhclnpoaa", sum := "9487e71f69cc3000eb3ce3d2b7923d4e4a5936851dab38543592fa31d0ffcc13", func := "damper/damperlaw08.SessionStays", spec := "sessionStays", unfollowed := true, recurses := true, apart := false, narrowed := true }
def SessionStaysUptoSaid : Prop := sessionStaysUptoRow.holds Try.pinned (OpenSpec.upto sessionStaysSpec)

/-- 'damperlaw24.ShortMays', WHERE WHAT IT READS IS OF BULK AT MOST 1048576: true; the input reads as it did. -/
def shortMaysUptoRow : OpenClaim := { program := "ytofjjbhhclnpoaa", sum := "9487e71f69cc3000eb3ce3d2b7923d4e4a5936851dab38543592fa31d0ffcc13", func := "damper/damperlaw24.ShortMays", spec := "shortMays", unfollowed := true, recurses := true, apart := false, narrowed := true }
def ShortMaysUptoSaid : Prop := shortMaysUptoRow.holds Try.pinned (OpenSpec.upto shortMaysSpec)

/-- 'damperlaw08.SessionLasts', WHERE WHAT IT READS IS OF BULK AT MOST 1048576: true; the input reads as it did. -/
def sessionLastsUptoRow : OpenClaim := { program := "ytofjjbhhclnpoaa", sum := "9487e71f69cc3000eb3ce3d2b7923d4e4a5936851dab38543592fa31d0ffcc13", func := "damper/damperlaw08.SessionLasts", spec := "sessionLasts", unfollowed := true, recurses := true, apart := false, narrowed := true }
def SessionLastsUptoSaid : Prop := sessionLastsUptoRow.holds Try.pinned (OpenSpec.upto sessionLastsSpec)

/-- 'damperlaw08.SessionChanges', WHERE WHAT IT READS IS OF BULK AT MOST 1048576: true; the input reads as it did. -/
def sessionChangesUptoRow : OpenClaim := { program := "ytofjjbhhclnpoaa", sum := "9487e71f69cc3000eb3ce3d2b7923d4e4a5936851dab38543592fa31d0ffcc13", func := "damper/damperlaw08.SessionChanges", spec := "sessionChanges", unfollowed := true, recurses := true, apart := false, narrowed := true }
def SessionChangesUptoSaid : Prop := sessionChangesUptoRow.holds Try.pinned (OpenSpec.upto sessionChangesSpec)

/-- 'damperlaw38.CompareApplies', WHERE WHAT IT READS IS OF BULK AT MOST 1048576: true; the input reads as it did. -/
def compareAppliesUptoRow : OpenClaim := { program := "ytofjjbhhclnpoaa", sum := "9487e71f69cc3000eb3ce3d2b7923d4e4a5936851dab38543592fa31d0ffcc13", func := "damper/damperlaw38.CompareApplies", spec := "compareApplies", unfollowed := true, recurses := true, apart := false, narrowed := true }
def CompareAppliesUptoSaid : Prop := compareAppliesUptoRow.holds Try.pinned (OpenSpec.upto compareAppliesSpec)

/-- 'damperlaw38.CompareLeads', WHERE WHAT IT READS IS OF BULK AT MOST 1048576: true; the input reads as it did. -/
def compareLeadsUptoRow : OpenClaim := { program := "ytofjjbhhclnpoaa", sum := "9487e71f69cc3000eb3ce3d2b7923d4e4a5936851dab38543592fa31d0ffcc13", func := "damper/damperlaw38.CompareLeads", spec := "compareLeads", unfollowed := true, recurses := true, apart := false, narrowed := true }
def CompareLeadsUptoSaid : Prop := compareLeadsUptoRow.holds Try.pinned (OpenSpec.upto compareLeadsSpec)

end Rows
end Go.Proofs.Ytofjjbhhclnpoaa
