/-
  DERIVED. GIVEN WITH THE SEED: THE CARDS: each row of YtccdgjjoeamnjaaGreatDoorRows.lean that lists a variable, with what it lists TIED to the program's text (the seventh form; the later family's looks); each row that meets fmt, with fmt's text TOLD by the authors' own Lean function (tested against real Go, not proved from fmt's source: count such statements apart). THE CARD IS WHAT COUNTS. Prove the row's statement (the work); the ties are given (YtccdgjjoeamnjaaGreatDoorTie.lean); close each card by the builder's one call (the guide's Derived/Test/ToyasCard.lean, 'card_holds'). Laid BY PROGRAM, IN A SANDBOX (cutbox-door.mjs). By AI agents, Wed Nov 11 2026. No macro, syntax, notation, axiom, sorry.
-/
import Derived.Test.YtccdgjjoeamnjaaGreatDoorRows
import GoSem.ClaimSeven
namespace Go.Proofs.YtccdgjjoeamnjaaGreatDoor
namespace Rows

/-- THE TIED CARD OF 'relaylaw21.VmNothing'. -/
def vmNothingCard : Claim7 := { stood := { row := vmNothingRow, standIns := [], harness := (true, "0c1772b8f431f8495515ed4d0f64e031754700f12223d4afb373c0e3edea085c"), looks := true }, kinds := [], alts := [], laidByText := true, laidKinds := [.data, .data, .data, .data, .sentinel, .sentinel, .pinned, .pinned], laidTests := true, laidLooks := .later }
def VmNothingCardSaid : Prop := Claim7.holds Tryz.pinned (.plain (OpenSpec.ofChange vmNothingSpec)) vmNothingCard

/-- THE SECOND FORM's CARD OF 'relaylaw21.VmNothing'. -/
def vmNothingUptoCard : Claim7 := { stood := { row := vmNothingUptoRow, standIns := [], harness := (true, "0c1772b8f431f8495515ed4d0f64e031754700f12223d4afb373c0e3edea085c"), looks := true }, kinds := [], alts := [], laidByText := true, laidKinds := [.data, .data, .data, .data, .sentinel, .sentinel, .pinned, .pinned], laidTests := true, laidLooks := .later }
def VmNothingUptoCardSaid : Prop := Claim7.holds Tryz.pinned (.plain (OpenSpec.upto vmNothingSpec)) vmNothingUptoCard
end Rows
end Go.Proofs.YtccdgjjoeamnjaaGreatDoor
