/-
  No cell of these rows narrows 'for every input' (looked for: loops, veiled, ifaces, maps, wideKeys, modest, calm, conditions, laid).
  DERIVED. THE GIVEN ROWS OF THIS SEAT. 3 by the template 'for every input the law returns true; each argument reads behind the call as it read before'; 0 by the template 'total and deterministic' (their statements: YtdhbioaoholcbaaTotals.lean).
  GIVEN WITH THE SEED: the statements are not yours to turn. If you find one false, say at which input.
  Laid BY PROGRAM, IN A SANDBOX (cutbox-rows.mjs): the forced cells as the released guide's own fill.sh prints them over the translation eca7fc1aee2da8f1… (all of the seat's roots in one cut). By AI agents, Wed Nov 11 2026. No macro, syntax, notation, axiom, sorry.
-/
import Derived.Test.YtdhbioaoholcbaaChecked
import GoSem.Claim
import GoSem.ClaimJoined
import GoSem.ClaimMapViews
import Derived.JoinedTies
import Derived.KernelRfl
namespace Go.Proofs.Ytdhbioaoholcbaa
/- THE CELL 'sum', in the pinned program and in every row, IS THE sha256 OF THE DUMP (.gsa) THAT YtdhbioaoholcbaaProg.lean LOADS. Nothing in Lean hashes anything: it is a label: what it is worth is what the hold of that sum in a sandbox is worth. -/
noncomputable def Try.pinned : Pinned := { name := "ytdhbioaoholcbaa", sum := "eca7fc1aee2da8f1a2e1ba4edf9a7cb0d09533cd0b6095f2ae92a661324f86db", checked := Try.checked }
namespace Rows
def none {H : Type} : Left H := { results := [], args := [] }

/-- 'damperlaw13.BookGives': WHATEVER THE INPUT: true; the input reads as it did. -/
def bookGivesSpec : ChangeSpec := { name := "bookGives", fn := fun _ => fun
  | [d] => { results := [.lit (.bool true)], args := [d] }
  | _ => none }
def bookGivesRow : OpenClaim := { program := "ytdhbioaoholcbaa", sum := "eca7fc1aee2da8f1a2e1ba4edf9a7cb0d09533cd0b6095f2ae92a661324f86db", func := "damper/damperlaw13.BookGives", spec := "bookGives", inPlace := ["slices.overlaps[damper/ladder.Level]"], unfollowed := true, recurses := true, plainKeys := false, apart := false }
def BookGivesSaid : Prop := bookGivesRow.holds Try.pinned (OpenSpec.ofChange bookGivesSpec)

/-- ITS FALSE NEIGHBOUR: 'it returns false'. Refute it at one input. -/
def bookGivesWrong : ChangeSpec := { name := "bookGives", fn := fun _ => fun
  | [d] => { results := [.lit (.bool false)], args := [d] }
  | _ => none }
def BookGivesWrongFalsely : Prop := bookGivesRow.holds Try.pinned (OpenSpec.ofChange bookGivesWrong)

/-- 'damperlaw13.BookEach': WHATEVER THE INPUT: true; the input reads as it did. -/
def bookEachSpec : ChangeSpec := { name := "bookEach", fn := fun _ => fun
  | [d1, d2, d3, d4, d5] => { results := [.lit (.bool true)], args := [d1, d2, d3, d4, d5] }
  | _ => none }
def bookEachRow : OpenClaim := { program := "ytdhbioaoholcbaa", sum := "eca7fc1aee2da8f1a2e1ba4edf9a7cb0d09533cd0b6095f2ae92a661324f86db", func := "damper/damperlaw13.BookEach", spec := "bookEach", inPlace := ["slices.overlaps[damper/ladder.Level]"], unfollowed := true, recurses := true, plainKeys := false, apart := false }
def BookEachSaid : Prop := bookEachRow.holds Try.pinned (OpenSpec.ofChange bookEachSpec)

/-- ITS FALSE NEIGHBOUR: 'it returns false'. Refute it at one input. -/
def bookEachWrong : ChangeSpec := { name := "bookEach", fn := fun _ => fun
  | [d1, d2, d3, d4, d5] => { results := [.lit (.bool false)], args := [d1, d2, d3, d4, d5] }
  | _ => none }
def BookEachWrongFalsely : Prop := bookEachRow.holds Try.pinned (OpenSpec.ofChange bookEachWrong)

/-- 'damperlaw13.BookNils': WHATEVER THE INPUT: true; the input reads as it did. -/
def bookNilsSpec : ChangeSpec := { name := "bookNils", fn := fun _ => fun
  | [d1, d2, d3, d4] => { results := [.lit (.bool true)], args := [d1, d2, d3, d4] }
  | _ => none }
def bookNilsRow : OpenClaim := { program := "ytdhbioaoholcbaa", sum := "eca7fc1aee2da8f1a2e1ba4edf9a7cb0d09533cd0b6095f2ae92a661324f86db", func := "damper/damperlaw13.BookNils", spec := "bookNils", inPlace := ["slices.overlaps[damper/ladder.Level]"], unfollowed := true, recurses := true, plainKeys := false, apart := false }
def BookNilsSaid : Prop := bookNilsRow.holds Try.pinned (OpenSpec.ofChange bookNilsSpec)

/-- ITS FALSE NEIGHBOUR: 'it returns false'. Refute it at one input. -/
def bookNilsWrong : ChangeSpec := { name := "bookNils", fn := fun _ => fun
  | [d1, d2, d3, d4] => { results := [.lit (.bool false)], args := [d1, d2, d3, d4] }
  | _ => none }
def BookNilsWrongFalsely : Prop := bookNilsRow.holds Try.pinned (OpenSpec.ofChange bookNilsWrong)

/- THE SECOND FORM. 'bulk': how many values and letters a reading holds, each counted each time it is reached (what is shared counts as often as it is met; a slice's spare places count too). A statement '..UptoSaid' is the law's where the arguments, and the package variables that the reading takes, are together of bulk at most 1048576: NARROWER than '..Said'. Prove '..Said' where nothing that the law and all that it calls make is longer than what came in: it says more and counts as full. Else prove '..UptoSaid'. A law counts once. -/
mutual
def uptoBulk {H : Type} : DataW H → Nat
  | .lit (.string bytes) => bytes.length + 1
  | .lit _ => 1
  | .nil => 1
  | .ptr d => uptoBulk d + 1
  | .slice elems spare => uptoBulkAll elems + uptoBulkAll spare + 1
  | .agg parts => uptoBulkAll parts + 1
  | .iface _ d => uptoBulk d + 1
  | .map entries => uptoBulkEntries entries + 1
  | .held _ => 1
def uptoBulkAll {H : Type} : List (DataW H) → Nat
  | [] => 0
  | d :: r => uptoBulk d + uptoBulkAll r
def uptoBulkEntries {H : Type} : List (Lit × DataW H) → Nat
  | [] => 0
  | x :: r => uptoBulkEntry x + uptoBulkEntries r
def uptoBulkEntry {H : Type} : Lit × DataW H → Nat
  | (.string bytes, d) => bytes.length + uptoBulk d + 1
  | (_, d) => uptoBulk d + 1
 end
def uptoSmall : (H : Type) → List (DataW H) → Bool := fun _ ds => decide (uptoBulkAll ds ≤ 1048576)
def OpenSpec.upto (s : _root_.Go.ChangeSpec) : _root_.Go.OpenSpec := { _root_.Go.OpenSpec.ofChange s with cond := some uptoSmall }

/-- 'damperlaw13.BookGives', WHERE WHAT IT READS IS OF BULK AT MOST 1048576: true; the input reads as it did. -/
def bookGivesUptoRow : OpenClaim := { program := "ytdhbioaoholcbaa", sum := "eca7fc1aee2da8f1a2e1ba4edf9a7cb0d09533cd0b6095f2ae92a661324f86db", func := "damper/damperlaw13.BookGives", spec := "bookGives", inPlace := ["slices.overlaps[damper/ladder.Level]"], unfollowed := true, recurses := true, plainKeys := false, apart := false, narrowed := true }
def BookGivesUptoSaid : Prop := bookGivesUptoRow.holds Try.pinned (OpenSpec.upto bookGivesSpec)

/-- 'damperlaw13.BookEach', WHERE WHAT IT READS IS OF BULK AT MOST 1048576: true; the input reads as it did. -/
def bookEachUptoRow : OpenClaim := { program := "ytdhbioaoholcbaa", sum := "eca7fc1aee2da8f1a2e1ba4edf9a7cb0d09533cd0b6095f2ae92a661324f86db", func := "damper/damperlaw13.BookEach", spec := "bookEach", inPlace := ["slices.overlaps[damper/ladder.Level]"], unfollowed := true, recurses := true, plainKeys := false, apart := false, narrowed := true }
def BookEachUptoSaid : Prop := bookEachUptoRow.holds Try.pinned (OpenSpec.upto bookEachSpec)

/-- 'damperlaw13.BookNils', WHERE WHAT IT READS IS OF BULK AT MOST 1048576: true; the input reads as it did. -/
def bookNilsUptoRow : OpenClaim := { program := "ytdhbioaoholcbaa", sum := "eca7fc1aee2da8f1a2e1ba4edf9a7cb0d09533cd0b6095f2ae92a661324f86db", func := "damper/damperlaw13.BookNils", spec := "bookNils", inPlace := ["slices.overlaps[damper/ladder.Level]"], unfollowed := true, recurses := true, plainKeys := false, apart := false, narrowed := true }
def BookNilsUptoSaid : Prop := bookNilsUptoRow.holds Try.pinned (OpenSpec.upto bookNilsSpec)

end Rows
end Go.Proofs.Ytdhbioaoholcbaa
