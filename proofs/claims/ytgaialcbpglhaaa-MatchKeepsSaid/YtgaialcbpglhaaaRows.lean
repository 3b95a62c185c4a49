/-
  No cell of these rows narrows 'for every input' (looked for: loops, veiled, ifaces, maps, wideKeys, modest, calm, conditions, laid).
  DERIVED. THE GIVEN ROWS OF THIS SEAT. 6 by the template 'for every input the law returns true; each argument reads behind the call as it read before'; 0 by the template 'total and deterministic' (their statements: YtgaialcbpglhaaaTotals.lean).
  GIVEN WITH THE SEED: the statements are not yours to turn. If you find one false, say at which input.
  Laid BY PROGRAM, IN A SANDBOX (cutbox-rows.mjs): the forced cells as the released guide's own fill.sh prints them over the translation 75b0c06d90f49470… (all of the seat's roots in one cut). By AI agents, Wed Nov 11 2026. No macro, syntax, notation, axiom, sorry.
-/
import Derived.Test.YtgaialcbpglhaaaChecked
import GoSem.Claim
import GoSem.ClaimJoined
import GoSem.ClaimMapViews
import Derived.JoinedTies
import Derived.KernelRfl
namespace Go.Proofs.Ytgaialcbpglhaaa
/- THE CELL 'sum', in the pinned program and in every row, IS THE sha256 OF THE DUMP (.gsa) THAT YtgaialcbpglhaaaProg.lean LOADS. Nothing in Lean hashes anything: it is a label: what it is worth is what the hold of that sum in a sandbox is worth. -/
noncomputable def Try.pinned : Pinned := { name := "ytgaialcbpglhaaa", sum := "75b0c06d90f494701e2f40e7fab30132d8aa22eceb80f1f3f7a0db80a7a200cd", checked := Try.checked }
namespace Rows
def none {H : Type} : Left H := { results := [], args := [] }

/-- 'damperlaw14.SweepReaches': WHATEVER THE INPUT: true; the input reads as it did. -/
def sweepReachesSpec : ChangeSpec := { name := "sweepReaches", fn := fun _ => fun
  | [d1, d2, d3] => { results := [.lit (.bool true)], args := [d1, d2, d3] }
  | _ => none }
def sweepReachesRow : OpenClaim := { program := "ytgaialcbpglhaaa", sum := "75b0c06d90f494701e2f40e7fab30132d8aa22eceb80f1f3f7a0db80a7a200cd", func := "damper/damperlaw14.SweepReaches", spec := "sweepReaches", inPlace := ["slices.overlaps[damper/ladder.Level]"], unfollowed := true, recurses := true, plainKeys := false, apart := false }
def SweepReachesSaid : Prop := sweepReachesRow.holds Try.pinned (OpenSpec.ofChange sweepReachesSpec)

/-- ITS FALSE NEIGHBOUR: 'it returns false'. Refute it at one input. -/
def sweepReachesWrong : ChangeSpec := { name := "sweepReaches", fn := fun _ => fun
  | [d1, d2, d3] => { results := [.lit (.bool false)], args := [d1, d2, d3] }
  | _ => none }
def SweepReachesWrongFalsely : Prop := sweepReachesRow.holds Try.pinned (OpenSpec.ofChange sweepReachesWrong)

/-- 'damperlaw25.AdmitRight': WHATEVER THE INPUT: true; the input reads as it did. -/
def admitRightSpec : ChangeSpec := { name := "admitRight", fn := fun _ => fun
  | [d1, d2, d3, d4] => { results := [.lit (.bool true)], args := [d1, d2, d3, d4] }
  | _ => none }
def admitRightRow : OpenClaim := { program := "ytgaialcbpglhaaa", sum := "75b0c06d90f494701e2f40e7fab30132d8aa22eceb80f1f3f7a0db80a7a200cd", func := "damper/damperlaw25.AdmitRight", spec := "admitRight", inPlace := ["slices.overlaps[damper/ladder.Level]"], unfollowed := true, recurses := true, plainKeys := false, apart := false }
def AdmitRightSaid : Prop := admitRightRow.holds Try.pinned (OpenSpec.ofChange admitRightSpec)

/-- ITS FALSE NEIGHBOUR: 'it returns false'. Refute it at one input. -/
def admitRightWrong : ChangeSpec := { name := "admitRight", fn := fun _ => fun
  | [d1, d2, d3, d4] => { results := [.lit (.bool false)], args := [d1, d2, d3, d4] }
  | _ => none }
def AdmitRightWrongFalsely : Prop := admitRightRow.holds Try.pinned (OpenSpec.ofChange admitRightWrong)

/-- 'damperlaw24.ShortRests': WHATEVER THE INPUT: true; the input reads as it did. -/
def shortRestsSpec : ChangeSpec := { name := "shortRests", fn := fun _ => fun
  | [d1, d2, d3] => { results := [.lit (.bool true)], args := [d1, d2, d3] }
  | _ => none }
def shortRestsRow : OpenClaim := { program := "ytgaialcbpglhaaa", sum := "75b0c06d90f494701e2f40e7fab30132d8aa22eceb80f1f3f7a0db80a7a200cd", func := "damper/damperlaw24.ShortRests", spec := "shortRests", inPlace := ["slices.overlaps[damper/ladder.Level]"], unfollowed := true, recurses := true, plainKeys := false, apart := false }
def ShortRestsSaid : Prop := shortRestsRow.holds Try.pinned (OpenSpec.ofChange shortRestsSpec)

/-- ITS FALSE NEIGHBOUR: 'it returns false'. Refute it at one input. -/
def shortRestsWrong : ChangeSpec := { name := "shortRests", fn := fun _ => fun
  | [d1, d2, d3] => { results := [.lit (.bool false)], args := [d1, d2, d3] }
  | _ => none }
def ShortRestsWrongFalsely : Prop := shortRestsRow.holds Try.pinned (OpenSpec.ofChange shortRestsWrong)

/-- 'damperlaw14.SweepKeeps': WHATEVER THE INPUT: true; the input reads as it did. -/
def sweepKeepsSpec : ChangeSpec := { name := "sweepKeeps", fn := fun _ => fun
  | [d1, d2] => { results := [.lit (.bool true)], args := [d1, d2] }
  | _ => none }
def sweepKeepsRow : OpenClaim := { program := "ytgaialcbpglhaaa", sum := "75b0c06d90f494701e2f40e7fab30132d8aa22eceb80f1f3f7a0db80a7a200cd", func := "damper/damperlaw14.SweepKeeps", spec := "sweepKeeps", inPlace := ["slices.overlaps[damper/ladder.Level]"], unfollowed := true, recurses := true, plainKeys := false, apart := false }
def SweepKeepsSaid : Prop := sweepKeepsRow.holds Try.pinned (OpenSpec.ofChange sweepKeepsSpec)

/-- ITS FALSE NEIGHBOUR: 'it returns false'. Refute it at one input. -/
def sweepKeepsWrong : ChangeSpec := { name := "sweepKeeps", fn := fun _ => fun
  | [d1, d2] => { results := [.lit (.bool false)], args := [d1, d2] }
  | _ => none }
def SweepKeepsWrongFalsely : Prop := sweepKeepsRow.holds Try.pinned (OpenSpec.ofChange sweepKeepsWrong)

/-- 'damperlaw15.MatchTypes': WHATEVER THE INPUT: true; the input reads as it did. -/
def matchTypesSpec : ChangeSpec := { name := "matchTypes", fn := fun _ => fun
  | [d1, d2] => { results := [.lit (.bool true)], args := [d1, d2] }
  | _ => none }
def matchTypesRow : OpenClaim := { program := "ytgaialcbpglhaaa", sum := "75b0c06d90f494701e2f40e7fab30132d8aa22eceb80f1f3f7a0db80a7a200cd", func := "damper/damperlaw15.MatchTypes", spec := "matchTypes", inPlace := ["slices.overlaps[damper/ladder.Level]"], unfollowed := true, recurses := true, plainKeys := false, apart := false }
def MatchTypesSaid : Prop := matchTypesRow.holds Try.pinned (OpenSpec.ofChange matchTypesSpec)

/-- ITS FALSE NEIGHBOUR: 'it returns false'. Refute it at one input. -/
def matchTypesWrong : ChangeSpec := { name := "matchTypes", fn := fun _ => fun
  | [d1, d2] => { results := [.lit (.bool false)], args := [d1, d2] }
  | _ => none }
def MatchTypesWrongFalsely : Prop := matchTypesRow.holds Try.pinned (OpenSpec.ofChange matchTypesWrong)

/-- 'damperlaw15.MatchKeeps': WHATEVER THE INPUT: true; the input reads as it did. -/
def matchKeepsSpec : ChangeSpec := { name := "matchKeeps", fn := fun _ => fun
  | [d] => { results := [.lit (.bool true)], args := [d] }
  | _ => none }
def matchKeepsRow : OpenClaim := { program := "ytgaialcbpglhaaa", sum := "75b0c06d90f494701e2f40e7fab30132d8aa22eceb80f1f3f7a0db80a7a200cd", func := "damper/damperlaw15.MatchKeeps", spec := "matchKeeps", inPlace := ["slices.overlaps[damper/ladder.Level]"], unfollowed := true, recurses := true, plainKeys := false, apart := false }
def MatchKeepsSaid : Prop := matchKeepsRow.holds Try.pinned (OpenSpec.ofChange matchKeepsSpec)

/-- ITS FALSE NEIGHBOUR: 'it returns false'. Refute it at one input. -/
def matchKeepsWrong : ChangeSpec := { name := "matchKeeps", fn := fun _ => fun
  | [d] => { results := [.lit (.bool false)], args := [d] }
  | _ => none }
def MatchKeepsWrongFalsely : Prop := matchKeepsRow.holds Try.pinned (OpenSpec.ofChange matchKeepsWrong)

/- THE SECOND FORM. 'bulk': how many values and letters a reading holds, each counted each time it is reached (what is shared counts as often as it is met; a slice's spare places count too). A statement '..UptoSaid' is the law's where the arguments, and the package variables that the reading takes, are together of bulk at most 1048576: NARROWER than '..Said'. Prove '..Said' where nothing that the law and all that it calls make is longer than what came in: it says more and counts as full. Else prove '..UptoSaid'. A law counts once. -/
mutual
def uptoBulk {H : Type} : DataW H → Nat
  | .lit (.string bytes) => bytes.length + 1
  | .lit _ => 1
  | .nil => 1
  | .ptr d => uptoBulk d + 1
  | .slice elems spare => uptoBulkAll elems + uptoBulkAll spare + 1
  | .agg parts => uptoBulkAll parts + 1
  | .iface _ d => uptoBulk d + 1
  | .map entries => uptoBulkEntries entries + 1
  | .held _ => 1
def uptoBulkAll {H : Type} : List (DataW H) → Nat
  | [] => 0
  | d :: r => uptoBulk d + uptoBulkAll r
def uptoBulkEntries {H : Type} : List (Lit × DataW H) → Nat
  | [] => 0
  | x :: r => uptoBulkEntry x + uptoBulkEntries r
def uptoBulkEntry {H : Type} : Lit × DataW H → Nat
  | (.string bytes, d) => bytes.length + uptoBulk d + 1
  | (_, d) => uptoBulk d + 1
 end
def uptoSmall : (H : Type) → List (DataW H) → Bool := fun _ ds => decide (uptoBulkAll ds ≤ 1048576)
def OpenSpec.upto (s : _root_.Go.ChangeSpec) : _root_.Go.OpenSpec := { _root_.Go.OpenSpec.ofChange s with cond := some uptoSmall }

/-- 'damperlaw14.SweepReaches', WHERE WHAT IT READS IS OF BULK AT MOST 1048576: true; the input reads as it did. -/
def sweepReachesUptoRow : OpenClaim := { program := "ytgaialcbpglhaaa", sum := "75b0c06d90f494701e2f40e7fab30132d8aa22eceb80f1f3f7a0db80a7a200cd", func := "damper/damperlaw14.SweepReaches", spec := "sweepReaches", inPlace := ["slices.overlaps[damper/ladder.Level]"], unfollowed := true, recurses := true, plainKeys := false, apart := false, narrowed := true }
def SweepReachesUptoSaid : Prop := sweepReachesUptoRow.holds Try.pinned (OpenSpec.upto sweepReachesSpec)

/-- 'damperlaw25.AdmitRight', WHERE WHAT IT READS IS OF BULK AT MOST 1048576: true; the input reads as it did. -/
def admitRightUptoRow : OpenClaim := { program := "ytgaialcbpglhaaa", sum := "75b0c06d90f494701e2f40e7fab30132d8aa22eceb80f1f3f7a0db80a7a200cd", func := "damper/damperlaw25.AdmitRight", spec := "admitRight", inPlace := ["slices.overlaps[damper/ladder.Level]"], unfollowed := true, recurses := true, plainKeys := false, apart := false, narrowed := true }
def AdmitRightUptoSaid : Prop := admitRightUptoRow.holds Try.pinned (OpenSpec.upto admitRightSpec)

/-- 'damperlaw24.ShortRests', WHERE WHAT IT READS IS OF BULK AT MOST 1048576: true; the input reads as it did. -/
def shortRestsUptoRow : OpenClaim := { program := "ytgaialcbpglhaaa", sum := "75b0c06d90f494701e2f40e7fab30132d8aa22eceb80f1f3f7a0db80a7a200cd", func := "damper/damperlaw24.ShortRests", spec := "shortRests", inPlace := ["slices.overlaps[damper/ladder.Level]"], unfollowed := true, recurses := true, plainKeys := false, apart := false, narrowed := true }
def ShortRestsUptoSaid : Prop := shortRestsUptoRow.holds Try.pinned (OpenSpec.upto shortRestsSpec)

/-- 'damperlaw14.SweepKeeps', WHERE WHAT IT READS IS OF BULK AT MOST 1048576: true; the input reads as it did. -/
def sweepKeepsUptoRow : OpenClaim := { program := "ytgaialcbpglhaaa", sum := "75b0c06d90f494701e2f40e7fab30132d8aa22eceb80f1f3f7a0db80a7a200cd", func := "damper/damperlaw14.SweepKeeps", spec := "sweepKeeps", inPlace := ["slices.overlaps[damper/ladder.Level]"], unfollowed := true, recurses := true, plainKeys := false, apart := false, narrowed := true }
def SweepKeepsUptoSaid : Prop := sweepKeepsUptoRow.holds Try.pinned (OpenSpec.upto sweepKeepsSpec)

/-- 'damperlaw15.MatchTypes', WHERE WHAT IT READS IS OF BULK AT MOST 1048576: true; the input reads as it did. -/
def matchTypesUptoRow : OpenClaim := { program := "ytgaialcbpglhaaa", sum := "75b0c06d90f494701e2f40e7fab30132d8aa22eceb80f1f3f7a0db80a7a200cd", func := "damper/damperlaw15.MatchTypes", spec := "matchTypes", inPlace := ["slices.overlaps[damper/ladder.Level]"], unfollowed := true, recurses := true, plainKeys := false, apart := false, narrowed := true }
def MatchTypesUptoSaid : Prop := matchTypesUptoRow.holds Try.pinned (OpenSpec.upto matchTypesSpec)

/-- 'damperlaw15.MatchKeeps', WHERE WHAT IT READS IS OF BULK AT MOST 1048576: true; the input reads as it did. -/
def matchKeepsUptoRow : OpenClaim := { program := "ytgaialcbpglhaaa", sum := "75b0c06d90f494701e2f40e7fab30132d8aa22eceb80f1f3f7a0db80a7a200cd", func := "damper/damperlaw15.MatchKeeps", spec := "matchKeeps", inPlace := ["slices.overlaps[damper/ladder.Level]"], unfollowed := true, recurses := true, plainKeys := false, apart := false, narrowed := true }
def MatchKeepsUptoSaid : Prop := matchKeepsUptoRow.holds Try.pinned (OpenSpec.upto matchKeepsSpec)

end Rows
end Go.Proofs.Ytgaialcbpglhaaa
