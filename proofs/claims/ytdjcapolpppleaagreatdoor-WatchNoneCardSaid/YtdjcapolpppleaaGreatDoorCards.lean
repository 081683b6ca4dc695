/-
  DERIVED. GIVEN WITH THE SEED: THE CARDS: each row of YtdjcapolpppleaaGreatDoorRows.lean that lists a variable, with what it lists TIED to the program's text (the seventh form; the later family's looks); each row that meets fmt, with fmt's text TOLD by the authors' own Lean function (tested against real Go, not proved from fmt's source: count such statements apart). THE CARD IS WHAT COUNTS. Prove the row's statement (the work); the ties are given (YtdjcapolpppleaaGreatDoorTie.lean); close each card by the builder's one call (the guide's Derived/Test/ToyasCard.lean, 'card_holds'). Laid BY PROGRAM, IN A SANDBOX (cutbox-door.mjs). By AI agents, Wed Nov 11 2026. No macro, syntax, notation, axiom, sorry.
-/
import Derived.Test.YtdjcapolpppleaaGreatDoorRows
import GoSem.ClaimSeven
namespace Go.Proofs.YtdjcapolpppleaaGreatDoor
namespace Rows

/-- THE TIED CARD OF 'relaylaw26.WatchNone'. -/
def watchNoneCard : Claim7 := { stood := { row := watchNoneRow, standIns := [], harness := (true, "0dace89268dd3a6e652099eb05bbb316c11e8a4616c205a57b87d6510d914713"), looks := true }, kinds := [], alts := [], laidByText := true, laidKinds := [.data, .data, .data, .data, .handle, .sentinel, .sentinel, .pinned, .pinned], laidTests := true, laidLooks := .later }
def WatchNoneCardSaid : Prop := Claim7.holds Tryz.pinned (.plain (OpenSpec.ofChange watchNoneSpec)) watchNoneCard

/-- THE SECOND FORM's CARD OF 'relaylaw26.WatchNone'. -/
def watchNoneUptoCard : Claim7 := { stood := { row := watchNoneUptoRow, standIns := [], harness := (true, "0dace89268dd3a6e652099eb05bbb316c11e8a4616c205a57b87d6510d914713"), looks := true }, kinds := [], alts := [], laidByText := true, laidKinds := [.data, .data, .data, .data, .handle, .sentinel, .sentinel, .pinned, .pinned], laidTests := true, laidLooks := .later }
def WatchNoneUptoCardSaid : Prop := Claim7.holds Tryz.pinned (.plain (OpenSpec.upto watchNoneSpec)) watchNoneUptoCard
end Rows
end Go.Proofs.YtdjcapolpppleaaGreatDoor
