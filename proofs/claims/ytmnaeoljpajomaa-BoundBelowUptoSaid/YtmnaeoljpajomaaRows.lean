/-
  No cell of these rows narrows 'for every input' (looked for: loops, veiled, ifaces, maps, wideKeys, modest, calm, conditions, laid).
  DERIVED. THE GIVEN ROWS OF THIS SEAT. 5 by the template 'for every input the law returns true; each argument reads behind the call as it read before'; 0 by the template 'total and deterministic' (their statements: YtmnaeoljpajomaaTotals.lean).
  GIVEN WITH THE SEED: the statements are not yours to turn. If you find one false, say at which input.
  Laid BY PROGRAM, IN A SANDBOX (cutbox-rows.mjs): the forced cells as the released guide's own fill.sh prints them over the translation 12e4ffb19f0f551b… (all of the seat's roots in one cut). By AI agents, Wed Nov 11 2026. No macro, syntax, notation, axiom, sorry.
-/
import Derived.Test.YtmnaeoljpajomaaChecked
import GoSem.Claim
import GoSem.ClaimJoined
import GoSem.ClaimMapViews
import Derived.JoinedTies
import Derived.KernelRfl
namespace Go.Proofs.Ytmnaeoljpajomaa
/- THE CELL 'sum', in the pinned program and in every row, IS THE sha256 OF THE DUMP (.gsa) THAT YtmnaeoljpajomaaProg.lean LOADS. Nothing in Lean hashes anything: it is a label: what it is worth is what the hold of that sum in a sandbox is worth. -/
noncomputable def Try.pinned : Pinned := { name := "ytmnaeoljpajomaa", sum := "12e4ffb19f0f551bc578ce7395bd72ab0708a31a45aac063beeae1c4e85f6ae1", checked := Try.checked }
namespace Rows
def none {H : Type} : Left H := { results := [], args := [] }

/-- 'relaylaw22.BoundBelow': WHATEVER THE INPUT: true; the input reads as it did. -/
def boundBelowSpec : ChangeSpec := { name := "boundBelow", fn := fun _ => fun
  | [d1, d2] => { results := [.lit (.bool true)], args := [d1, d2] }
  | _ => none }
def boundBelowRow : OpenClaim := { program := "ytmnaeoljpajomaa", sum := "12e4ffb19f0f551bc578ce7395bd72ab0708a31a45aac063beeae1c4e85f6ae1", func := "relay/relaylaw22.BoundBelow", spec := "boundBelow", unfollowed := true, recurses := true, plainKeys := false, apart := false }
def BoundBelowSaid : Prop := boundBelowRow.holds Try.pinned (OpenSpec.ofChange boundBelowSpec)

/-- ITS FALSE NEIGHBOUR: 'it returns false'. Refute it at one input. -/
def boundBelowWrong : ChangeSpec := { name := "boundBelow", fn := fun _ => fun
  | [d1, d2] => { results := [.lit (.bool false)], args := [d1, d2] }
  | _ => none }
def BoundBelowWrongFalsely : Prop := boundBelowRow.holds Try.pinned (OpenSpec.ofChange boundBelowWrong)

/-- 'relaylaw22.BoundApart': WHATEVER THE INPUT: true; the input reads as it did. -/
def boundApartSpec : ChangeSpec := { name := "boundApart", fn := fun _ => fun
  | [d1, d2, d3] => { results := [.lit (.bool true)], args := [d1, d2, d3] }
  | _ => none }
def boundApartRow : OpenClaim := { program := "ytmnaeoljpajomaa", sum := "12e4ffb19f0f551bc578ce7395bd72ab0708a31a45aac063beeae1c4e85f6ae1", func := "relay/relaylaw22.BoundApart", spec := "boundApart", unfollowed := true, recurses := true, plainKeys := false, apart := false }
def BoundApartSaid : Prop := boundApartRow.holds Try.pinned (OpenSpec.ofChange boundApartSpec)

/-- ITS FALSE NEIGHBOUR: 'it returns false'. Refute it at one input. -/
def boundApartWrong : ChangeSpec := { name := "boundApart", fn := fun _ => fun
  | [d1, d2, d3] => { results := [.lit (.bool false)], args := [d1, d2, d3] }
  | _ => none }
def BoundApartWrongFalsely : Prop := boundApartRow.holds Try.pinned (OpenSpec.ofChange boundApartWrong)

/-- 'relaylaw22.BoundOnce': WHATEVER THE INPUT: true; the input reads as it did. -/
def boundOnceSpec : ChangeSpec := { name := "boundOnce", fn := fun _ => fun
  | [d1, d2, d3] => { results := [.lit (.bool true)], args := [d1, d2, d3] }
  | _ => none }
def boundOnceRow : OpenClaim := { program := "ytmnaeoljpajomaa", sum := "12e4ffb19f0f551bc578ce7395bd72ab0708a31a45aac063beeae1c4e85f6ae1", func := "relay/relaylaw22.BoundOnce", spec := "boundOnce", unfollowed := true, recurses := true, plainKeys := false, apart := false }
def BoundOnceSaid : Prop := boundOnceRow.holds Try.pinned (OpenSpec.ofChange boundOnceSpec)

/-- ITS FALSE NEIGHBOUR: 'it returns false'. Refute it at one input. -/
def boundOnceWrong : ChangeSpec := { name := "boundOnce", fn := fun _ => fun
  | [d1, d2, d3] => { results := [.lit (.bool false)], args := [d1, d2, d3] }
  | _ => none }
def BoundOnceWrongFalsely : Prop := boundOnceRow.holds Try.pinned (OpenSpec.ofChange boundOnceWrong)

/-- 'relaylaw22.BoundStraight': WHATEVER THE INPUT: true; the input reads as it did. -/
def boundStraightSpec : ChangeSpec := { name := "boundStraight", fn := fun _ => fun
  | [d] => { results := [.lit (.bool true)], args := [d] }
  | _ => none }
def boundStraightRow : OpenClaim := { program := "ytmnaeoljpajomaa", sum := "12e4ffb19f0f551bc578ce7395bd72ab0708a31a45aac063beeae1c4e85f6ae1", func := "relay/relaylaw22.BoundStraight", spec := "boundStraight", unfollowed := true, recurses := true, plainKeys := false, apart := false }
def BoundStraightSaid : Prop := boundStraightRow.holds Try.pinned (OpenSpec.ofChange boundStraightSpec)

/-- ITS FALSE NEIGHBOUR: 'it returns false'. Refute it at one input. -/
def boundStraightWrong : ChangeSpec := { name := "boundStraight", fn := fun _ => fun
  | [d] => { results := [.lit (.bool false)], args := [d] }
  | _ => none }
def BoundStraightWrongFalsely : Prop := boundStraightRow.holds Try.pinned (OpenSpec.ofChange boundStraightWrong)

/-- 'relaylaw22.BoundCalls': WHATEVER THE INPUT: true; the input reads as it did. -/
def boundCallsSpec : ChangeSpec := { name := "boundCalls", fn := fun _ => fun
  | [d] => { results := [.lit (.bool true)], args := [d] }
  | _ => none }
def boundCallsRow : OpenClaim := { program := "ytmnaeoljpajomaa", sum := "12e4ffb19f0f551bc578ce7395bd72ab0708a31a45aac063beeae1c4e85f6ae1", func := "relay/relaylaw22.BoundCalls", spec := "boundCalls", unfollowed := true, recurses := true, plainKeys := false, apart := false }
def BoundCallsSaid : Prop := boundCallsRow.holds Try.pinned (OpenSpec.ofChange boundCallsSpec)

/-- ITS FALSE NEIGHBOUR: 'it returns false'. Refute it at one input. -/
def boundCallsWrong : ChangeSpec := { name := "boundCalls", fn := fun _ => fun
  | [d] => { results := [.lit (.bool false)], args := [d] }
  | _ => none }
def BoundCallsWrongFalsely : Prop := boundCallsRow.holds Try.pinned (OpenSpec.ofChange boundCallsWrong)

/- THE SECOND FORM. 'bulk': how many values and letters a reading holds, each counted each time it is reached (what is shared counts as often as it is met; a slice's spare places count too). A statement '..UptoSaid' is the law's where the arguments, and the package variables that the reading takes, are together of bulk at most 1048576: NARROWER than '..Said'. Prove '..Said' where nothing that the law and all that it calls make is longer than what came in: it says more and counts as full. Else prove '..UptoSaid'. A law counts once. -/
mutual
def uptoBulk {H : Type} : DataW H → Nat
  | .lit (.string bytes) => bytes.length + 1
  | .lit _ => 1
  | .nil => 1
  | .ptr d => uptoBulk d + 1
  | .slice elems spare => uptoBulkAll elems + uptoBulkAll spare + 1
  | .agg parts => uptoBulkAll parts + 1
  | .iface _ d => uptoBulk d + 1
  | .map entries => uptoBulkEntries entries + 1
  | .held _ => 1
def uptoBulkAll {H : Type} : List (DataW H) → Nat
  | [] => 0
  | d :: r => uptoBulk d + uptoBulkAll r
def uptoBulkEntries {H : Type} : List (Lit × DataW H) → Nat
  | [] => 0
  | x :: r => uptoBulkEntry x + uptoBulkEntries r
def uptoBulkEntry {H : Type} : Lit × DataW H → Nat
  | (.string bytes, d) => bytes.length + uptoBulk d + 1
  | (_, d) => uptoBulk d + 1
 end
def uptoSmall : (H : Type) → List (DataW H) → Bool := fun _ ds => decide (uptoBulkAll ds ≤ 1048576)
def OpenSpec.upto (s : _root_.Go.ChangeSpec) : _root_.Go.OpenSpec := { _root_.Go.OpenSpec.ofChange s with cond := some uptoSmall }

/-- 'relaylaw22.BoundBelow', WHERE WHAT IT READS IS OF BULK AT MOST 1048576: true; the input reads as it did. -/
def boundBelowUptoRow : OpenClaim := { program := "ytmnaeoljpajomaa", sum := "12e4ffb19f0f551bc578ce7395bd72ab0708a31a45aac063beeae1c4e85f6ae1", func := "relay/relaylaw22.BoundBelow", spec := "boundBelow", unfollowed := true, recurses := true, plainKeys := false, apart := false, narrowed := true }
def BoundBelowUptoSaid : Prop := boundBelowUptoRow.holds Try.pinned (OpenSpec.upto boundBelowSpec)

/-- 'relaylaw22.BoundApart', WHERE WHAT IT READS IS OF BULK AT MOST 1048576: true; the input reads as it did. -/
def boundApartUptoRow : OpenClaim := { program := "ytmnaeoljpajomaa", sum := "12e4ffb19f0f551bc578ce7395bd72ab0708a31a45aac063beeae1c4e85f6ae1", func := "relay/relaylaw22.BoundApart", spec := "boundApart", unfollowed := true, recurses := true, plainKeys := false, apart := false, narrowed := true }
def BoundApartUptoSaid : Prop := boundApartUptoRow.holds Try.pinned (OpenSpec.upto boundApartSpec)

/-- 'relaylaw22.BoundOnce', WHERE WHAT IT READS IS OF BULK AT MOST 1048576: true; the input reads as it did. -/
def boundOnceUptoRow : OpenClaim := { program := "ytmnaeoljpajomaa", sum := "12e4ffb19f0f551bc578ce7395bd72ab0708a31a45aac063beeae1c4e85f6ae1", func := "relay/relaylaw22.BoundOnce", spec := "boundOnce", unfollowed := true, recurses := true, plainKeys := false, apart := false, narrowed := true }
def BoundOnceUptoSaid : Prop := boundOnceUptoRow.holds Try.pinned (OpenSpec.upto boundOnceSpec)

/-- 'relaylaw22.BoundStraight', WHERE WHAT IT READS IS OF BULK AT MOST 1048576: true; the input reads as it did. -/
def boundStraightUptoRow : OpenClaim := { program := "ytmnaeoljpajomaa", sum := "12e4ffb19f0f551bc578ce7395bd72ab0708a31a45aac063beeae1c4e85f6ae1", func := "relay/relaylaw22.BoundStraight", spec := "boundStraight", unfollowed := true, recurses := true, plainKeys := false, apart := false, narrowed := true }
def BoundStraightUptoSaid : Prop := boundStraightUptoRow.holds Try.pinned (OpenSpec.upto boundStraightSpec)

/-- 'relaylaw22.BoundCalls', WHERE WHAT IT READS IS OF BULK AT MOST 1048576: true; the input reads as it did. -/
def boundCallsUptoRow : OpenClaim := { program := "ytmnaeoljpajomaa", sum := "12e4ffb19f0f551bc578ce7395bd72ab0708a31a45aac063beeae1c4e85f6ae1", func := "relay/relaylaw22.BoundCalls", spec := "boundCalls", unfollowed := true, recurses := true, plainKeys := false, apart := false, narrowed := true }
def BoundCallsUptoSaid : Prop := boundCallsUptoRow.holds Try.pinned (OpenSpec.upto boundCallsSpec)

end Rows
end Go.Proofs.Ytmnaeoljpajomaa
