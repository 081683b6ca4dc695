/-
  DERIVED. GIVEN WITH THE SEED: THE CARDS: each row of YtflhndjpfiklaaaGreatDoorRows.lean that lists a variable, with what it lists TIED to the program's text (the seventh form; the later family's looks); each row that meets fmt, with fmt's text TOLD by the authors' own Lean function (tested against real Go, not proved from fmt's source: count such statements apart). THE CARD IS WHAT COUNTS. Prove the row's statement (the work); the ties are given (YtflhndjpfiklaaaGreatDoorTie.lean); close each card by the builder's one call (the guide's Derived/Test/ToyasCard.lean, 'card_holds'). Laid BY PROGRAM, IN A SANDBOX (cutbox-door.mjs). By AI agents, Wed Nov 11 2026. No macro, syntax, notation, axiom, sorry.
-/
import Derived.Test.YtflhndjpfiklaaaGreatDoorRows
import GoSem.ClaimSeven
namespace Go.Proofs.YtflhndjpfiklaaaGreatDoor
namespace Rows

/-- THE TIED CARD OF 'relaylaw09.StdlibTexts'. -/
def stdlibTextsCard : Claim7 := { stood := { row := stdlibTextsRow, standIns := [], harness := (true, "48e836ae7eb301d4ce59a17f6c55d2674c8aa08d03df5dab146653d69543344f"), looks := true }, kinds := [], alts := [], laidByText := true, laidKinds := [.data, .data, .data, .data, .sentinel, .sentinel, .pinned, .pinned], laidTests := true, laidLooks := .later }
def StdlibTextsCardSaid : Prop := Claim7.holds Tryz.pinned (.plain (OpenSpec.ofChange stdlibTextsSpec)) stdlibTextsCard

/-- THE TIED CARD OF 'relaylaw09.StdlibTurned'. -/
def stdlibTurnedCard : Claim7 := { stood := { row := stdlibTurnedRow, standIns := [], harness := (true, "48e836ae7eb301d4ce59a17f6c55d2674c8aa08d03df5dab146653d69543344f"), looks := true }, kinds := [], alts := [], laidByText := true, laidKinds := [.data, .data, .data, .data, .sentinel, .sentinel, .pinned, .pinned], laidTests := true, laidLooks := .later }
def StdlibTurnedCardSaid : Prop := Claim7.holds Tryz.pinned (.plain (OpenSpec.ofChange stdlibTurnedSpec)) stdlibTurnedCard

/-- THE TIED CARD OF 'relaylaw09.StdlibFound'. -/
def stdlibFoundCard : Claim7 := { stood := { row := stdlibFoundRow, standIns := [], harness := (true, "48e836ae7eb301d4ce59a17f6c55d2674c8aa08d03df5dab146653d69543344f"), looks := true }, kinds := [], alts := [], laidByText := true, laidKinds := [.data, .data, .data, .data, .sentinel, .sentinel, .pinned, .pinned], laidTests := true, laidLooks := .later }
def StdlibFoundCardSaid : Prop := Claim7.holds Tryz.pinned (.plain (OpenSpec.ofChange stdlibFoundSpec)) stdlibFoundCard

/-- THE SECOND FORM's CARD OF 'relaylaw09.StdlibTexts'. -/
def stdlibTextsUptoCard : Claim7 := { stood := { row := stdlibTextsUptoRow, standIns := [], harness := (true, "48e836ae7eb301d4ce59a17f6c55d2674c8aa08d03df5dab146653d69543344f"), looks := true }, kinds := [], alts := [], laidByText := true, laidKinds := [.data, .data, .data, .data, .sentinel, .sentinel, .pinned, .pinned], laidTests := true, laidLooks := .later }
def StdlibTextsUptoCardSaid : Prop := Claim7.holds Tryz.pinned (.plain (OpenSpec.upto stdlibTextsSpec)) stdlibTextsUptoCard

/-- THE SECOND FORM's CARD OF 'relaylaw09.StdlibTurned'. -/
def stdlibTurnedUptoCard : Claim7 := { stood := { row := stdlibTurnedUptoRow, standIns := [], harness := (true, "48e836ae7eb301d4ce59a17f6c55d2674c8aa08d03df5dab146653d69543344f"), looks := true }, kinds := [], alts := [], laidByText := true, laidKinds := [.data, .data, .data, .data, .sentinel, .sentinel, .pinned, .pinned], laidTests := true, laidLooks := .later }
def StdlibTurnedUptoCardSaid : Prop := Claim7.holds Tryz.pinned (.plain (OpenSpec.upto stdlibTurnedSpec)) stdlibTurnedUptoCard

/-- THE SECOND FORM's CARD OF 'relaylaw09.StdlibFound'. -/
def stdlibFoundUptoCard : Claim7 := { stood := { row := stdlibFoundUptoRow, standIns := [], harness := (true, "48e836ae7eb301d4ce59a17f6c55d2674c8aa08d03df5dab146653d69543344f"), looks := true }, kinds := [], alts := [], laidByText := true, laidKinds := [.data, .data, .data, .data, .sentinel, .sentinel, .pinned, .pinned], laidTests := true, laidLooks := .later }
def StdlibFoundUptoCardSaid : Prop := Claim7.holds Tryz.pinned (.plain (OpenSpec.upto stdlibFoundSpec)) stdlibFoundUptoCard
end Rows
end Go.Proofs.YtflhndjpfiklaaaGreatDoor
