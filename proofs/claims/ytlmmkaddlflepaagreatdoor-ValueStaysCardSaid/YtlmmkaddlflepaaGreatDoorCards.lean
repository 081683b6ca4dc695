/-
  DERIVED. GIVEN WITH THE SEED: THE CARDS: each row of YtlmmkaddlflepaaGreatDoorRows.lean that lists a variable, with what it lists TIED to the program's text (the seventh form; the later family's looks); each row that meets fmt, with fmt's text TOLD by the authors' own Lean function (tested against real Go, not proved from fmt's source: count such statements apart). THE CARD IS WHAT COUNTS. Prove the row's statement (the work); the ties are given (YtlmmkaddlflepaaGreatDoorTie.lean); close each card by the builder's one call (the guide's Derived/Test/ToyasCard.lean, 'card_holds'). Laid BY PROGRAM, IN A SANDBOX (cutbox-door.mjs). By AI agents, Wed Nov 11 2026. No macro, syntax, notation, axiom, sorry.
-/
import Derived.Test.YtlmmkaddlflepaaGreatDoorRows
import GoSem.ClaimSeven
namespace Go.Proofs.YtlmmkaddlflepaaGreatDoor
namespace Rows

/-- THE TIED CARD OF 'relaylaw01.ValueConverts'. -/
def valueConvertsCard : Claim7 := { stood := { row := valueConvertsRow, standIns := [], harness := (true, "9efcfcbdb3fc3ca5f69ef3e6e2f4388971957adcdbf5f06ecbc6b67a7254ac7a"), looks := true }, kinds := [], alts := [], laidByText := true, laidKinds := [.data, .data, .data, .data, .sentinel, .sentinel, .pinned, .pinned], laidTests := true, laidLooks := .later }
def ValueConvertsCardSaid : Prop := Claim7.holds Tryz.pinned (.plain (OpenSpec.ofChange valueConvertsSpec)) valueConvertsCard

/-- THE TIED CARD OF 'relaylaw01.ValueBack'. -/
def valueBackCard : Claim7 := { stood := { row := valueBackRow, standIns := [], harness := (true, "9efcfcbdb3fc3ca5f69ef3e6e2f4388971957adcdbf5f06ecbc6b67a7254ac7a"), looks := true }, kinds := [], alts := [], laidByText := true, laidKinds := [.data, .data, .data, .data, .sentinel, .sentinel, .pinned, .pinned], laidTests := true, laidLooks := .later }
def ValueBackCardSaid : Prop := Claim7.holds Tryz.pinned (.plain (OpenSpec.ofChange valueBackSpec)) valueBackCard

/-- THE TIED CARD OF 'relaylaw01.ValueStays'. -/
def valueStaysCard : Claim7 := { stood := { row := valueStaysRow, standIns := [], harness := (true, "9efcfcbdb3fc3ca5f69ef3e6e2f4388971957adcdbf5f06ecbc6b67a7254ac7a"), looks := true }, kinds := [], alts := [], laidByText := true, laidKinds := [.data, .data, .data, .data, .sentinel, .sentinel, .pinned, .pinned], laidTests := true, laidLooks := .later }
def ValueStaysCardSaid : Prop := Claim7.holds Tryz.pinned (.plain (OpenSpec.ofChange valueStaysSpec)) valueStaysCard

/-- THE SECOND FORM's CARD OF 'relaylaw01.ValueConverts'. -/
def valueConvertsUptoCard : Claim7 := { stood := { row := valueConvertsUptoRow, standIns := [], harness := (true, "9efcfcbdb3fc3ca5f69ef3e6e2f4388971957adcdbf5f06ecbc6b67a7254ac7a"), looks := true }, kinds := [], alts := [], laidByText := true, laidKinds := [.data, .data, .data, .data, .sentinel, .sentinel, .pinned, .pinned], laidTests := true, laidLooks := .later }
def ValueConvertsUptoCardSaid : Prop := Claim7.holds Tryz.pinned (.plain (OpenSpec.upto valueConvertsSpec)) valueConvertsUptoCard

/-- THE SECOND FORM's CARD OF 'relaylaw01.ValueBack'. -/
def valueBackUptoCard : Claim7 := { stood := { row := valueBackUptoRow, standIns := [], harness := (true, "9efcfcbdb3fc3ca5f69ef3e6e2f4388971957adcdbf5f06ecbc6b67a7254ac7a"), looks := true }, kinds := [], alts := [], laidByText := true, laidKinds := [.data, .data, .data, .data, .sentinel, .sentinel, .pinned, .pinned], laidTests := true, laidLooks := .later }
def ValueBackUptoCardSaid : Prop := Claim7.holds Tryz.pinned (.plain (OpenSpec.upto valueBackSpec)) valueBackUptoCard

/-- THE SECOND FORM's CARD OF 'relaylaw01.ValueStays'. -/
def valueStaysUptoCard : Claim7 := { stood := { row := valueStaysUptoRow, standIns := [], harness := (true, "9efcfcbdb3fc3ca5f69ef3e6e2f4388971957adcdbf5f06ecbc6b67a7254ac7a"), looks := true }, kinds := [], alts := [], laidByText := true, laidKinds := [.data, .data, .data, .data, .sentinel, .sentinel, .pinned, .pinned], laidTests := true, laidLooks := .later }
def ValueStaysUptoCardSaid : Prop := Claim7.holds Tryz.pinned (.plain (OpenSpec.upto valueStaysSpec)) valueStaysUptoCard
end Rows
end Go.Proofs.YtlmmkaddlflepaaGreatDoor
