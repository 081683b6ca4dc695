/-
  DERIVED. GIVEN WITH THE SEED: THE CARDS: each row of YtilbgcinmnndhaaGreatDoorRows.lean that lists a variable, with what it lists TIED to the program's text (the seventh form; the later family's looks); each row that meets fmt, with fmt's text TOLD by the authors' own Lean function (tested against real Go, not proved from fmt's source: count such statements apart). THE CARD IS WHAT COUNTS. Prove the row's statement (the work); the ties are given (YtilbgcinmnndhaaGreatDoorTie.lean); close each card by the builder's one call (the guide's Derived/Test/ToyasCard.lean, 'card_holds'). Laid BY PROGRAM, IN A SANDBOX (cutbox-door.mjs). By AI agents, Wed Nov 11 2026. No macro, syntax, notation, axiom, sorry.
-/
import Derived.Test.YtilbgcinmnndhaaGreatDoorRows
import GoSem.ClaimSeven
namespace Go.Proofs.YtilbgcinmnndhaaGreatDoor
namespace Rows

/-- THE TIED CARD OF 'relaylaw23.SchedNobody'. -/
def schedNobodyCard : Claim7 := { stood := { row := schedNobodyRow, standIns := [], harness := (true, "ce29b5795d44e09b3e47d60ef52f5eb79e45610caa19cf14f8ecc7d5a142f80f"), looks := true }, kinds := [], alts := [], laidByText := true, laidKinds := [.data, .data, .data, .data, .sentinel, .sentinel, .pinned, .pinned], laidTests := true, laidLooks := .later }
def SchedNobodyCardSaid : Prop := Claim7.holds Tryz.pinned (.plain (OpenSpec.ofChange schedNobodySpec)) schedNobodyCard

/-- THE SECOND FORM's CARD OF 'relaylaw23.SchedNobody'. -/
def schedNobodyUptoCard : Claim7 := { stood := { row := schedNobodyUptoRow, standIns := [], harness := (true, "ce29b5795d44e09b3e47d60ef52f5eb79e45610caa19cf14f8ecc7d5a142f80f"), looks := true }, kinds := [], alts := [], laidByText := true, laidKinds := [.data, .data, .data, .data, .sentinel, .sentinel, .pinned, .pinned], laidTests := true, laidLooks := .later }
def SchedNobodyUptoCardSaid : Prop := Claim7.holds Tryz.pinned (.plain (OpenSpec.upto schedNobodySpec)) schedNobodyUptoCard
end Rows
end Go.Proofs.YtilbgcinmnndhaaGreatDoor
