/-
  No cell of these rows narrows 'for every input' (looked for: loops, veiled, ifaces, maps, wideKeys, modest, calm, conditions, laid).
  DERIVED. THE GIVEN ROWS OF THIS SEAT. 8 by the template 'for every input the law returns true; each argument reads behind the call as it read before'; 0 by the template 'total and deterministic' (their statements: YtodgeakkecaliaaTotals.lean).
  GIVEN WITH THE SEED: the statements are not yours to turn. If you find one false, say at which input.
  Laid BY PROGRAM, IN A SANDBOX (cutbox-rows.mjs): the forced cells as the released guide's own fill.sh prints them over the translation 29dbcbb08ee907bd… (all of the seat's roots in one cut). By AI agents, Wed Nov 11 2026. No macro, syntax, notation, axiom, sorry.
-/
import Derived.Test.YtodgeakkecaliaaChecked
import GoSem.Claim
import GoSem.ClaimJoined
import GoSem.ClaimMapViews
import Derived.JoinedTies
import Derived.KernelRfl
namespace Go.Proofs.Ytodgeakkecaliaa
/- THE CELL 'sum', in the pinned program and in every row, IS THE sha256 OF THE DUMP (.gsa) THAT YtodgeakkecaliaaProg.lean LOADS. Nothing in Lean hashes anything: it is a label: what it is worth is what the hold of that sum in a sandbox is worth. -/
noncomputable def Try.pinned : Pinned := { name := "ytodgeakkecaliaa", sum := "29dbcbb08ee907bd6c7caa0574a8c64cfb374114815d3c2b7a5d022707825299", checked := Try.checked }
namespace Rows
def none {H : Type} : Left H := { results := [], args := [] }

/-- 'damperlaw09.ArenaHolds': WHATEVER THE INPUT: true; the input reads as it did. -/
def arenaHoldsSpec : ChangeSpec := { name := "arenaHolds", fn := fun _ => fun
  | [d1, d2] => { results := [.lit (.bool true)], args := [d1, d2] }
  | _ => none }
def arenaHoldsRow : OpenClaim := { program := "ytodgeakkecaliaa", sum := "29dbcbb08ee907bd6c7caa0574a8c64cfb374114815d3c2b7a5d022707825299", func := "damper/damperlaw09.ArenaHolds", spec := "arenaHolds", apart := false }
def ArenaHoldsSaid : Prop := arenaHoldsRow.holds Try.pinned (OpenSpec.ofChange arenaHoldsSpec)

/-- ITS FALSE NEIGHBOUR: 'it returns false'. Refute it at one input. -/
def arenaHoldsWrong : ChangeSpec := { name := "arenaHolds", fn := fun _ => fun
  | [d1, d2] => { results := [.lit (.bool false)], args := [d1, d2] }
  | _ => none }
def ArenaHoldsWrongFalsely : Prop := arenaHoldsRow.holds Try.pinned (OpenSpec.ofChange arenaHoldsWrong)

/-- 'damperlaw09.ArenaPlays': WHATEVER THE INPUT: true; the input reads as it did. -/
def arenaPlaysSpec : ChangeSpec := { name := "arenaPlays", fn := fun _ => fun
  | [d1, d2] => { results := [.lit (.bool true)], args := [d1, d2] }
  | _ => none }
def arenaPlaysRow : OpenClaim := { program := "ytodgeakkecaliaa", sum := "29dbcbb08ee907bd6c7caa0574a8c64cfb374114815d3c2b7a5d022707825299", func := "damper/damperlaw09.ArenaPlays", spec := "arenaPlays", apart := false }
def ArenaPlaysSaid : Prop := arenaPlaysRow.holds Try.pinned (OpenSpec.ofChange arenaPlaysSpec)

/-- ITS FALSE NEIGHBOUR: 'it returns false'. Refute it at one input. -/
def arenaPlaysWrong : ChangeSpec := { name := "arenaPlays", fn := fun _ => fun
  | [d1, d2] => { results := [.lit (.bool false)], args := [d1, d2] }
  | _ => none }
def ArenaPlaysWrongFalsely : Prop := arenaPlaysRow.holds Try.pinned (OpenSpec.ofChange arenaPlaysWrong)

/-- 'damperlaw09.ArenaEach': WHATEVER THE INPUT: true; the input reads as it did. -/
def arenaEachSpec : ChangeSpec := { name := "arenaEach", fn := fun _ => fun
  | [d1, d2, d3] => { results := [.lit (.bool true)], args := [d1, d2, d3] }
  | _ => none }
def arenaEachRow : OpenClaim := { program := "ytodgeakkecaliaa", sum := "29dbcbb08ee907bd6c7caa0574a8c64cfb374114815d3c2b7a5d022707825299", func := "damper/damperlaw09.ArenaEach", spec := "arenaEach", unfollowed := true, recurses := true, apart := false }
def ArenaEachSaid : Prop := arenaEachRow.holds Try.pinned (OpenSpec.ofChange arenaEachSpec)

/-- ITS FALSE NEIGHBOUR: 'it returns false'. Refute it at one input. -/
def arenaEachWrong : ChangeSpec := { name := "arenaEach", fn := fun _ => fun
  | [d1, d2, d3] => { results := [.lit (.bool false)], args := [d1, d2, d3] }
  | _ => none }
def ArenaEachWrongFalsely : Prop := arenaEachRow.holds Try.pinned (OpenSpec.ofChange arenaEachWrong)

/-- 'damperlaw09.ArenaNils': WHATEVER THE INPUT: true; the input reads as it did. -/
def arenaNilsSpec : ChangeSpec := { name := "arenaNils", fn := fun _ => fun
  | [d1, d2] => { results := [.lit (.bool true)], args := [d1, d2] }
  | _ => none }
def arenaNilsRow : OpenClaim := { program := "ytodgeakkecaliaa", sum := "29dbcbb08ee907bd6c7caa0574a8c64cfb374114815d3c2b7a5d022707825299", func := "damper/damperlaw09.ArenaNils", spec := "arenaNils", unfollowed := true, recurses := true, apart := false }
def ArenaNilsSaid : Prop := arenaNilsRow.holds Try.pinned (OpenSpec.ofChange arenaNilsSpec)

/-- ITS FALSE NEIGHBOUR: 'it returns false'. Refute it at one input. -/
def arenaNilsWrong : ChangeSpec := { name := "arenaNils", fn := fun _ => fun
  | [d1, d2] => { results := [.lit (.bool false)], args := [d1, d2] }
  | _ => none }
def ArenaNilsWrongFalsely : Prop := arenaNilsRow.holds Try.pinned (OpenSpec.ofChange arenaNilsWrong)

/-- 'damperlaw10.FifoPlays': WHATEVER THE INPUT: true; the input reads as it did. -/
def fifoPlaysSpec : ChangeSpec := { name := "fifoPlays", fn := fun _ => fun
  | [d1, d2, d3] => { results := [.lit (.bool true)], args := [d1, d2, d3] }
  | _ => none }
def fifoPlaysRow : OpenClaim := { program := "ytodgeakkecaliaa", sum := "29dbcbb08ee907bd6c7caa0574a8c64cfb374114815d3c2b7a5d022707825299", func := "damper/damperlaw10.FifoPlays", spec := "fifoPlays", unfollowed := true, recurses := true, apart := false }
def FifoPlaysSaid : Prop := fifoPlaysRow.holds Try.pinned (OpenSpec.ofChange fifoPlaysSpec)

/-- ITS FALSE NEIGHBOUR: 'it returns false'. Refute it at one input. -/
def fifoPlaysWrong : ChangeSpec := { name := "fifoPlays", fn := fun _ => fun
  | [d1, d2, d3] => { results := [.lit (.bool false)], args := [d1, d2, d3] }
  | _ => none }
def FifoPlaysWrongFalsely : Prop := fifoPlaysRow.holds Try.pinned (OpenSpec.ofChange fifoPlaysWrong)

/-- 'damperlaw10.FifoOrder': WHATEVER THE INPUT: true; the input reads as it did. -/
def fifoOrderSpec : ChangeSpec := { name := "fifoOrder", fn := fun _ => fun
  | [d1, d2] => { results := [.lit (.bool true)], args := [d1, d2] }
  | _ => none }
def fifoOrderRow : OpenClaim := { program := "ytodgeakkecaliaa", sum := "29dbcbb08ee907bd6c7caa0574a8c64cfb374114815d3c2b7a5d022707825299", func := "damper/damperlaw10.FifoOrder", spec := "fifoOrder", unfollowed := true, recurses := true, apart := false }
def FifoOrderSaid : Prop := fifoOrderRow.holds Try.pinned (OpenSpec.ofChange fifoOrderSpec)

/-- ITS FALSE NEIGHBOUR: 'it returns false'. Refute it at one input. -/
def fifoOrderWrong : ChangeSpec := { name := "fifoOrder", fn := fun _ => fun
  | [d1, d2] => { results := [.lit (.bool false)], args := [d1, d2] }
  | _ => none }
def FifoOrderWrongFalsely : Prop := fifoOrderRow.holds Try.pinned (OpenSpec.ofChange fifoOrderWrong)

/-- 'damperlaw10.FifoEach': WHATEVER THE INPUT: true; the input reads as it did. -/
def fifoEachSpec : ChangeSpec := { name := "fifoEach", fn := fun _ => fun
  | [d1, d2, d3, d4, d5] => { results := [.lit (.bool true)], args := [d1, d2, d3, d4, d5] }
  | _ => none }
def fifoEachRow : OpenClaim := { program := "ytodgeakkecaliaa", sum := "29dbcbb08ee907bd6c7caa0574a8c64cfb374114815d3c2b7a5d022707825299", func := "damper/damperlaw10.FifoEach", spec := "fifoEach", unfollowed := true, recurses := true, apart := false }
def FifoEachSaid : Prop := fifoEachRow.holds Try.pinned (OpenSpec.ofChange fifoEachSpec)

/-- ITS FALSE NEIGHBOUR: 'it returns false'. Refute it at one input. -/
def fifoEachWrong : ChangeSpec := { name := "fifoEach", fn := fun _ => fun
  | [d1, d2, d3, d4, d5] => { results := [.lit (.bool false)], args := [d1, d2, d3, d4, d5] }
  | _ => none }
def FifoEachWrongFalsely : Prop := fifoEachRow.holds Try.pinned (OpenSpec.ofChange fifoEachWrong)

/-- 'damperlaw10.FifoNils': WHATEVER THE INPUT: true; the input reads as it did. -/
def fifoNilsSpec : ChangeSpec := { name := "fifoNils", fn := fun _ => fun
  | [d1, d2] => { results := [.lit (.bool true)], args := [d1, d2] }
  | _ => none }
def fifoNilsRow : OpenClaim := { program := "ytodgeakkecaliaa", sum := "29dbcbb08ee907bd6c7caa0574a8c64cfb374114815d3c2b7a5d022707825299", func := "damper/damperlaw10.FifoNils", spec := "fifoNils", unfollowed := true, recurses := true, apart := false }
def FifoNilsSaid : Prop := fifoNilsRow.holds Try.pinned (OpenSpec.ofChange fifoNilsSpec)

/-- ITS FALSE NEIGHBOUR: 'it returns false'. Refute it at one input. -/
def fifoNilsWrong : ChangeSpec := { name := "fifoNils", fn := fun _ => fun
  | [d1, d2] => { results := [.lit (.bool false)], args := [d1, d2] }
  | _ => none }
def FifoNilsWrongFalsely : Prop := fifoNilsRow.holds Try.pinned (OpenSpec.ofChange fifoNilsWrong)

/- THE SECOND FORM. 'bulk': how many values and letters a reading holds, each counted each time it is reached (what is shared counts as often as it is met; a slice's spare places count too). A statement '..UptoSaid' is the law's where the arguments, and the package variables that the reading takes, are together of bulk at most 1048576: NARROWER than '..Said'. Prove '..Said' where nothing that the law and all that it calls make is longer than what came in: it says more and counts as full. Else prove '..UptoSaid'. A law counts once. -/
mutual
def uptoBulk {H : Type} : DataW H → Nat
  | .lit (.string bytes) => bytes.length + 1
  | .lit _ => 1
  | .nil => 1
  | .ptr d => uptoBulk d + 1
  | .slice elems spare => uptoBulkAll elems + uptoBulkAll spare + 1
  | .agg parts => uptoBulkAll parts + 1
  | .iface _ d => uptoBulk d + 1
  | .map entries => uptoBulkEntries entries + 1
  | .held _ => 1
def uptoBulkAll {H : Type} : List (DataW H) → Nat
  | [] => 0
  | d :: r => uptoBulk d + uptoBulkAll r
def uptoBulkEntries {H : Type} : List (Lit × DataW H) → Nat
  | [] => 0
  | x :: r => uptoBulkEntry x + uptoBulkEntries r
def uptoBulkEntry {H : Type} : Lit × DataW H → Nat
  | (.string bytes, d) => bytes.length + uptoBulk d + 1
  | (_, d) => uptoBulk d + 1
 end
def uptoSmall : (H : Type) → List (DataW H) → Bool := fun _ ds => decide (uptoBulkAll ds ≤ 1048576)
def OpenSpec.upto (s : _root_.Go.ChangeSpec) : _root_.Go.OpenSpec := { _root_.Go.OpenSpec.ofChange s with cond := some uptoSmall }

/-- 'damperlaw09.ArenaHolds', WHERE WHAT IT READS IS OF BULK AT MOST 1048576: true; the input reads as it did. -/
def arenaHoldsUptoRow : OpenClaim := { program := "ytodgeakkecaliaa", sum := "29dbcbb08ee907bd6c7caa0574a8c64cfb374114815d3c2b7a5d022707825299", func := "damper/damperlaw09.ArenaHolds", spec := "arenaHolds", apart := false, narrowed := true }
def ArenaHoldsUptoSaid : Prop := arenaHoldsUptoRow.holds Try.pinned (OpenSpec.upto arenaHoldsSpec)

/-- 'damperlaw09.ArenaPlays', WHERE WHAT IT READS IS OF BULK AT MOST 1048576: true; the input reads as it did. -/
def arenaPlaysUptoRow : OpenClaim := { program := "ytodgeakkecaliaa", sum := "29dbcbb08ee907bd6c7caa0574a8c64cfb374114815d3c2b7a5d022707825299", func := "damper/damperlaw09.ArenaPlays", spec := "arenaPlays", apart := false, narrowed := true }
def ArenaPlaysUptoSaid : Prop := arenaPlaysUptoRow.holds Try.pinned (OpenSpec.upto arenaPlaysSpec)

/-- 'damperlaw09.ArenaEach', WHERE WHAT IT READS IS OF BULK AT MOST 1048576: true; the input reads as it did. -/
def arenaEachUptoRow : OpenClaim := { program := "ytodgeakkecaliaa", sum := "29dbcbb08ee907bd6c7caa0574a8c64cfb374114815d3c2b7a5d022707825299", func := "damper/damperlaw09.ArenaEach", spec := "arenaEach", unfollowed := true, recurses := true, apart := false, narrowed := true }
def ArenaEachUptoSaid : Prop := arenaEachUptoRow.holds Try.pinned (OpenSpec.upto arenaEachSpec)

/-- 'damperlaw09.ArenaNils', WHERE WHAT IT READS IS OF BULK AT MOST 1048576: true; the input reads as it did. -/
def arenaNilsUptoRow : OpenClaim := { program := "ytodgeakkecaliaa", sum := "29dbcbb08ee907bd6c7caa0574a8c64cfb374114815d3c2b7a5d022707825299", func := "damper/damperlaw09.ArenaNils", spec := "arenaNils", unfollowed := true, recurses := true, apart := false, narrowed := true }
def ArenaNilsUptoSaid : Prop := arenaNilsUptoRow.holds Try.pinned (OpenSpec.upto arenaNilsSpec)

/-- 'damperlaw10.FifoPlays', WHERE WHAT IT READS IS OF BULK AT MOST 1048576: true; the input reads as it did. -/
def fifoPlaysUptoRow : OpenClaim := { program := "ytodgeakkecaliaa", sum := "29dbcbb08ee907bd6c7caa0574a8c64cfb374114815d3c2b7a5d022707825299", func := "damper/damperlaw10.FifoPlays", spec := "fifoPlays", unfollowed := true, recurses := true, apart := false, narrowed := true }
def FifoPlaysUptoSaid : Prop := fifoPlaysUptoRow.holds Try.pinned (OpenSpec.upto fifoPlaysSpec)

/-- 'damperlaw10.FifoOrder', WHERE WHAT IT READS IS OF BULK AT MOST 1048576: true; the input reads as it did. -/
def fifoOrderUptoRow : OpenClaim := { program := "ytodgeakkecaliaa", sum := "29dbcbb08ee907bd6c7caa0574a8c64cfb374114815d3c2b7a5d022707825299", func := "damper/damperlaw10.FifoOrder", spec := "fifoOrder", unfollowed := true, recurses := true, apart := false, narrowed := true }
def FifoOrderUptoSaid : Prop := fifoOrderUptoRow.holds Try.pinned (OpenSpec.upto fifoOrderSpec)

/-- 'damperlaw10.FifoEach', WHERE WHAT IT READS IS OF BULK AT MOST 1048576: true; the input reads as it did. -/
def fifoEachUptoRow : OpenClaim := { program := "ytodgeakkecaliaa", sum := "29dbcbb08ee907bd6c7caa0574a8c64cfb374114815d3c2b7a5d022707825299", func := "damper/damperlaw10.FifoEach", spec := "fifoEach", unfollowed := true, recurses := true, apart := false, narrowed := true }
def FifoEachUptoSaid : Prop := fifoEachUptoRow.holds Try.pinned (OpenSpec.upto fifoEachSpec)

/-- 'damperlaw10.FifoNils', WHERE WHAT IT READS IS OF BULK AT MOST 1048576: true; the input reads as it did. -/
def fifoNilsUptoRow : OpenClaim := { program := "ytodgeakkecaliaa", sum := "29dbcbb08ee907bd6c7caa0574a8c64cfb374114815d3c2b7a5d022707825299", func := "damper/damperlaw10.FifoNils", spec := "fifoNils", unfollowed := true, recurses := true, apart := false, narrowed := true }
def FifoNilsUptoSaid : Prop := fifoNilsUptoRow.holds Try.pinned (OpenSpec.upto fifoNilsSpec)

end Rows
end Go.Proofs.Ytodgeakkecaliaa
