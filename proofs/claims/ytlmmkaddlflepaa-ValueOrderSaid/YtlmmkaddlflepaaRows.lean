/-
  No cell of these rows narrows 'for every input' (looked for: loops, veiled, ifaces, maps, wideKeys, modest, calm, conditions, laid).
  DERIVED. THE GIVEN ROWS OF THIS SEAT. 6 by the template 'for every input the law returns true; each argument reads behind the call as it read before'; 0 by the template 'total and deterministic' (their statements: YtlmmkaddlflepaaTotals.lean).
  GIVEN WITH THE SEED: the statements are not yours to turn. If you find one false, say at which input.
  Laid BY PROGRAM, IN A SANDBOX (cutbox-rows.mjs): the forced cells as the released guide's own fill.sh prints them over the translation bc30d1a2ba5d7892… (all of the seat's roots in one cut). By AI agents, Wed Nov 11 2026. No macro, syntax, notation, axiom, sorry.
-/
import Derived.Test.YtlmmkaddlflepaaChecked
import GoSem.Claim
import GoSem.ClaimJoined
import GoSem.ClaimMapViews
import Derived.JoinedTies
import Derived.KernelRfl
namespace Go.Proofs.Ytlmmkaddlflepaa
/- THE CELL 'sum', in the pinned program and in every row, IS THE sha256 OF THE DUMP (.gsa) THAT YtlmmkaddlflepaaProg.lean LOADS. Nothing in Lean hashes anything: it is a label: what it is worth is what the hold of that sum in a sandbox is worth. -/
noncomputable def Try.pinned : Pinned := { name := "ytlmmkaddlflepaa", sum := "bc30d1a2ba5d7892076e8de953cfdfd515a82bbb58da763d9387abbe56f4df2a", checked := Try.checked }
namespace Rows
def none {H : Type} : Left H := { results := [], args := [] }

/-- 'relaylaw01.ValueFits': WHATEVER THE INPUT: true; the input reads as it did. -/
def valueFitsSpec : ChangeSpec := { name := "valueFits", fn := fun _ => fun
  | [d1, d2] => { results := [.lit (.bool true)], args := [d1, d2] }
  | _ => none }
def valueFitsRow : OpenClaim := { program := "ytlmmkaddlflepaa", sum := "bc30d1a2ba5d7892076e8de953cfdfd515a82bbb58da763d9387abbe56f4df2a", func := "relay/relaylaw01.ValueFits", spec := "valueFits", inPlace := ["math.Float64frombits"], apart := false }
def ValueFitsSaid : Prop := valueFitsRow.holds Try.pinned (OpenSpec.ofChange valueFitsSpec)

/-- ITS FALSE NEIGHBOUR: 'it returns false'. Refute it at one input. -/
def valueFitsWrong : ChangeSpec := { name := "valueFits", fn := fun _ => fun
  | [d1, d2] => { results := [.lit (.bool false)], args := [d1, d2] }
  | _ => none }
def ValueFitsWrongFalsely : Prop := valueFitsRow.holds Try.pinned (OpenSpec.ofChange valueFitsWrong)

/-- 'relaylaw01.ValueTurns': WHATEVER THE INPUT: true; the input reads as it did. -/
def valueTurnsSpec : ChangeSpec := { name := "valueTurns", fn := fun _ => fun
  | [d1, d2] => { results := [.lit (.bool true)], args := [d1, d2] }
  | _ => none }
def valueTurnsRow : OpenClaim := { program := "ytlmmkaddlflepaa", sum := "bc30d1a2ba5d7892076e8de953cfdfd515a82bbb58da763d9387abbe56f4df2a", func := "relay/relaylaw01.ValueTurns", spec := "valueTurns", inPlace := ["math.Float64frombits", "math.Float64bits"], recurses := true, apart := false }
def ValueTurnsSaid : Prop := valueTurnsRow.holds Try.pinned (OpenSpec.ofChange valueTurnsSpec)

/-- ITS FALSE NEIGHBOUR: 'it returns false'. Refute it at one input. -/
def valueTurnsWrong : ChangeSpec := { name := "valueTurns", fn := fun _ => fun
  | [d1, d2] => { results := [.lit (.bool false)], args := [d1, d2] }
  | _ => none }
def ValueTurnsWrongFalsely : Prop := valueTurnsRow.holds Try.pinned (OpenSpec.ofChange valueTurnsWrong)

/-- 'relaylaw01.ValueSigns': WHATEVER THE INPUT: true; the input reads as it did. -/
def valueSignsSpec : ChangeSpec := { name := "valueSigns", fn := fun _ => fun
  | [d] => { results := [.lit (.bool true)], args := [d] }
  | _ => none }
def valueSignsRow : OpenClaim := { program := "ytlmmkaddlflepaa", sum := "bc30d1a2ba5d7892076e8de953cfdfd515a82bbb58da763d9387abbe56f4df2a", func := "relay/relaylaw01.ValueSigns", spec := "valueSigns", inPlace := ["math.Float64frombits", "math.Float64bits"], recurses := true, apart := false }
def ValueSignsSaid : Prop := valueSignsRow.holds Try.pinned (OpenSpec.ofChange valueSignsSpec)

/-- ITS FALSE NEIGHBOUR: 'it returns false'. Refute it at one input. -/
def valueSignsWrong : ChangeSpec := { name := "valueSigns", fn := fun _ => fun
  | [d] => { results := [.lit (.bool false)], args := [d] }
  | _ => none }
def ValueSignsWrongFalsely : Prop := valueSignsRow.holds Try.pinned (OpenSpec.ofChange valueSignsWrong)

/-- 'relaylaw01.ValueMakes': WHATEVER THE INPUT: true; the input reads as it did. -/
def valueMakesSpec : ChangeSpec := { name := "valueMakes", fn := fun _ => fun
  | [d1, d2, d3, d4, d5] => { results := [.lit (.bool true)], args := [d1, d2, d3, d4, d5] }
  | _ => none }
def valueMakesRow : OpenClaim := { program := "ytlmmkaddlflepaa", sum := "bc30d1a2ba5d7892076e8de953cfdfd515a82bbb58da763d9387abbe56f4df2a", func := "relay/relaylaw01.ValueMakes", spec := "valueMakes", inPlace := ["math.Float64bits", "math.Float64frombits"], apart := false }
def ValueMakesSaid : Prop := valueMakesRow.holds Try.pinned (OpenSpec.ofChange valueMakesSpec)

/-- ITS FALSE NEIGHBOUR: 'it returns false'. Refute it at one input. -/
def valueMakesWrong : ChangeSpec := { name := "valueMakes", fn := fun _ => fun
  | [d1, d2, d3, d4, d5] => { results := [.lit (.bool false)], args := [d1, d2, d3, d4, d5] }
  | _ => none }
def ValueMakesWrongFalsely : Prop := valueMakesRow.holds Try.pinned (OpenSpec.ofChange valueMakesWrong)

/-- 'relaylaw01.ValueReckons': WHATEVER THE INPUT: true; the input reads as it did. -/
def valueReckonsSpec : ChangeSpec := { name := "valueReckons", fn := fun _ => fun
  | [d1, d2, d3] => { results := [.lit (.bool true)], args := [d1, d2, d3] }
  | _ => none }
def valueReckonsRow : OpenClaim := { program := "ytlmmkaddlflepaa", sum := "bc30d1a2ba5d7892076e8de953cfdfd515a82bbb58da763d9387abbe56f4df2a", func := "relay/relaylaw01.ValueReckons", spec := "valueReckons", inPlace := ["math.Float64frombits", "math.Float64bits"], recurses := true, apart := false }
def ValueReckonsSaid : Prop := valueReckonsRow.holds Try.pinned (OpenSpec.ofChange valueReckonsSpec)

/-- ITS FALSE NEIGHBOUR: 'it returns false'. Refute it at one input. -/
def valueReckonsWrong : ChangeSpec := { name := "valueReckons", fn := fun _ => fun
  | [d1, d2, d3] => { results := [.lit (.bool false)], args := [d1, d2, d3] }
  | _ => none }
def ValueReckonsWrongFalsely : Prop := valueReckonsRow.holds Try.pinned (OpenSpec.ofChange valueReckonsWrong)

/-- 'relaylaw01.ValueOrder': WHATEVER THE INPUT: true; the input reads as it did. -/
def valueOrderSpec : ChangeSpec := { name := "valueOrder", fn := fun _ => fun
  | [d1, d2] => { results := [.lit (.bool true)], args := [d1, d2] }
  | _ => none }
def valueOrderRow : OpenClaim := { program := "ytlmmkaddlflepaa", sum := "bc30d1a2ba5d7892076e8de953cfdfd515a82bbb58da763d9387abbe56f4df2a", func := "relay/relaylaw01.ValueOrder", spec := "valueOrder", inPlace := ["math.Float64frombits", "math.Float64bits"], apart := false }
def ValueOrderSaid : Prop := valueOrderRow.holds Try.pinned (OpenSpec.ofChange valueOrderSpec)

/-- ITS FALSE NEIGHBOUR: 'it returns false'. Refute it at one input. -/
def valueOrderWrong : ChangeSpec := { name := "valueOrder", fn := fun _ => fun
  | [d1, d2] => { results := [.lit (.bool false)], args := [d1, d2] }
  | _ => none }
def ValueOrderWrongFalsely : Prop := valueOrderRow.holds Try.pinned (OpenSpec.ofChange valueOrderWrong)

/- THE SECOND FORM. 'bulk': how many values and letters a reading holds, each counted each time it is reached (what is shared counts as often as it is met; a slice's spare places count too). A statement '..UptoSaid' is the law's where the arguments, and the package variables that the reading takes, are together of bulk at most 1048576: NARROWER than '..Said'. Prove '..Said' where nothing that the law and all that it calls make is longer than what came in: it says more and counts as full. Else prove '..UptoSaid'. A law counts once. -/
mutual
def uptoBulk {H : Type} : DataW H → Nat
  | .lit (.string bytes) => bytes.length + 1
  | .lit _ => 1
  | .nil => 1
  | .ptr d => uptoBulk d + 1
  | .slice elems spare => uptoBulkAll elems + uptoBulkAll spare + 1
  | .agg parts => uptoBulkAll parts + 1
  | .iface _ d => uptoBulk d + 1
  | .map entries => uptoBulkEntries entries + 1
  | .held _ => 1
def uptoBulkAll {H : Type} : List (DataW H) → Nat
  | [] => 0
  | d :: r => uptoBulk d + uptoBulkAll r
def uptoBulkEntries {H : Type} : List (Lit × DataW H) → Nat
  | [] => 0
  | x :: r => uptoBulkEntry x + uptoBulkEntries r
def uptoBulkEntry {H : Type} : Lit × DataW H → Nat
  | (.string bytes, d) => bytes.length + uptoBulk d + 1
  | (_, d) => uptoBulk d + 1
 end
def uptoSmall : (H : Type) → List (DataW H) → Bool := fun _ ds => decide (uptoBulkAll ds ≤ 1048576)
def OpenSpec.upto (s : _root_.Go.ChangeSpec) : _root_.Go.OpenSpec := { _root_.Go.OpenSpec.ofChange s with cond := some uptoSmall }

/-- 'relaylaw01.ValueFits', WHERE WHAT IT READS IS OF BULK AT MOST 1048576: true; the input reads as it did. -/
def valueFitsUptoRow : OpenClaim := { program := "ytlmmkaddlflepaa", sum := "bc30d1a2ba5d7892076e8de953cfdfd515a82bbb58da763d9387abbe56f4df2a", func := "relay/relaylaw01.ValueFits", spec := "valueFits", inPlace := ["math.Float64frombits"], apart := false, narrowed := true }
def ValueFitsUptoSaid : Prop := valueFitsUptoRow.holds Try.pinned (OpenSpec.upto valueFitsSpec)

/-- 'relaylaw01.ValueTurns', WHERE WHAT IT READS IS OF BULK AT MOST 1048576: true; the input reads as it did. -/
def valueTurnsUptoRow : OpenClaim := { program := "ytlmmkaddlflepaa", sum := "bc30d1a2ba5d7892076e8de953cfdfd515a82bbb58da763d9387abbe56f4df2a", func := "relay/relaylaw01.ValueTurns", spec := "valueTurns", inPlace := ["math.Float64frombits", "math.Float64bits"], recurses := true, apart := false, narrowed := true }
def ValueTurnsUptoSaid : Prop := valueTurnsUptoRow.holds Try.pinned (OpenSpec.upto valueTurnsSpec)

/-- 'relaylaw01.ValueSigns', WHERE WHAT IT READS IS OF BULK AT MOST 1048576: true; the input reads as it did. -/
def valueSignsUptoRow : OpenClaim := { program := "ytlmmkaddlflepaa", sum := "bc30d1a2ba5d7892076e8de953cfdfd515a82bbb58da763d9387abbe56f4df2a", func := "relay/relaylaw01.ValueSigns", spec := "valueSigns", inPlace := ["math.Float64frombits", "math.Float64bits"], recurses := true, apart := false, narrowed := true }
def ValueSignsUptoSaid : Prop := valueSignsUptoRow.holds Try.pinned (OpenSpec.upto valueSignsSpec)

/-- 'relaylaw01.ValueMakes', WHERE WHAT IT READS IS OF BULK AT MOST 1048576: true; the input reads as it did. -/
def valueMakesUptoRow : OpenClaim := { program := "ytlmmkaddlflepaa", sum := "bc30d1a2ba5d7892076e8de953cfdfd515a82bbb58da763d9387abbe56f4df2a", func := "relay/relaylaw01.ValueMakes", spec := "valueMakes", inPlace := ["math.Float64bits", "math.Float64frombits"], apart := false, narrowed := true }
def ValueMakesUptoSaid : Prop := valueMakesUptoRow.holds Try.pinned (OpenSpec.upto valueMakesSpec)

/-- 'relaylaw01.ValueReckons', WHERE WHAT IT READS IS OF BULK AT MOST 1048576: true; the input reads as it did. -/
def valueReckonsUptoRow : OpenClaim := { program := "ytlmmkaddlflepaa", sum := "bc30d1a2ba5d7892076e8de953cfdfd515a82bbb58da763d9387abbe56f4df2a", func := "relay/relaylaw01.ValueReckons", spec := "valueReckons", inPlace := ["math.Float64frombits", "math.Float64bits"], recurses := true, apart := false, narrowed := true }
def ValueReckonsUptoSaid : Prop := valueReckonsUptoRow.holds Try.pinned (OpenSpec.upto valueReckonsSpec)

/-- 'relaylaw01.ValueOrder', WHERE WHAT IT READS IS OF BULK AT MOST 1048576: true; the input reads as it did. -/
def valueOrderUptoRow : OpenClaim := { program := "ytlmmkaddlflepaa", sum := "bc30d1a2ba5d7892076e8de953cfdfd515a82bbb58da763d9387abbe56f4df2a", func := "relay/relaylaw01.ValueOrder", spec := "valueOrder", inPlace := ["math.Float64frombits", "math.Float64bits"], apart := false, narrowed := true }
def ValueOrderUptoSaid : Prop := valueOrderUptoRow.holds Try.pinned (OpenSpec.upto valueOrderSpec)

end Rows
end Go.Proofs.Ytlmmkaddlflepaa
