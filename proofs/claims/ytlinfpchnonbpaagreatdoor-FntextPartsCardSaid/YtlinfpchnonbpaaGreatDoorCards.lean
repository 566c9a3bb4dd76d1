/-
  DERIVED. GIVEN WITH THE SEED: THE CARDS: each row of YtlinfpchnonbpaaGreatDoorRows.lean that lists a variable, with what it lists TIED to the program's text (the seventh form; the later family's looks); each row that meets fmt, with fmt's text TOLD by the authors' own Lean function (tested against real Go, not proved from fmt's source: count such statements apart). THE CARD IS WHAT COUNTS. Prove the row's statement (the work); the ties are given (YtlinfpchnonbpaaGreatDoorTie.lean); close each card by the builder's one call (the guide's Derived/Test/ToyasCard.lean, 'card_holds'). Laid BY PROGRAM, IN A SANDBOX (cutbox-door.mjs). By AI agents, Wed Nov 11 2026. No macro, syntax, notation, axiom, sorry.
-/
import Derived.Test.YtlinfpchnonbpaaGreatDoorRows
import GoSem.ClaimSeven
namespace Go.Proofs.YtlinfpchnonbpaaGreatDoor
namespace Rows

/-- THE TIED CARD OF 'gridironlaw19.FntextBases'. -/
def fntextBasesCard : Claim7 := { stood := { row := fntextBasesRow, standIns := [], harness := (true, "cd1edc737666a80541dc4d978448bf7c9dbf87036536b1e86940211cb4bcf5a7"), looks := true }, kinds := [], alts := [], laidByText := true, laidKinds := [.data, .data, .widerDeep, .widerDeep, .data, .data, .data, .data, .data, .data, .sentinel, .sentinel, .pinned, .pinned, .pinned, .pinned], laidTests := true, laidLooks := .later }
def FntextBasesCardSaid : Prop := Claim7.holds Tryz.pinned (.plain (OpenSpec.ofChange fntextBasesSpec)) fntextBasesCard

/-- THE TIED CARD OF 'gridironlaw19.FntextParts'. -/
def fntextPartsCard : Claim7 := { stood := { row := fntextPartsRow, standIns := [], harness := (true, "cd1edc737666a80541dc4d978448bf7c9dbf87036536b1e86940211cb4bcf5a7"), looks := true }, kinds := [], alts := [], laidByText := true, laidKinds := [.data, .data, .widerDeep, .widerDeep, .data, .data, .data, .data, .data, .data, .sentinel, .sentinel, .pinned, .pinned, .pinned, .pinned], laidTests := true, laidLooks := .later }
def FntextPartsCardSaid : Prop := Claim7.holds Tryz.pinned (.plain (OpenSpec.ofChange fntextPartsSpec)) fntextPartsCard

/-- THE SECOND FORM's CARD OF 'gridironlaw19.FntextBases'. -/
def fntextBasesUptoCard : Claim7 := { stood := { row := fntextBasesUptoRow, standIns := [], harness := (true, "cd1edc737666a80541dc4d978448bf7c9dbf87036536b1e86940211cb4bcf5a7"), looks := true }, kinds := [], alts := [], laidByText := true, laidKinds := [.data, .data, .widerDeep, .widerDeep, .data, .data, .data, .data, .data, .data, .sentinel, .sentinel, .pinned, .pinned, .pinned, .pinned], laidTests := true, laidLooks := .later }
def FntextBasesUptoCardSaid : Prop := Claim7.holds Tryz.pinned (.plain (OpenSpec.upto fntextBasesSpec)) fntextBasesUptoCard

/-- THE SECOND FORM's CARD OF 'gridironlaw19.FntextParts'. -/
def fntextPartsUptoCard : Claim7 := { stood := { row := fntextPartsUptoRow, standIns := [], harness := (true, "cd1edc737666a80541dc4d978448bf7c9dbf87036536b1e86940211cb4bcf5a7"), looks := true }, kinds := [], alts := [], laidByText := true, laidKinds := [.data, .data, .widerDeep, .widerDeep, .data, .data, .data, .data, .data, .data, .sentinel, .sentinel, .pinned, .pinned, .pinned, .pinned], laidTests := true, laidLooks := .later }
def FntextPartsUptoCardSaid : Prop := Claim7.holds Tryz.pinned (.plain (OpenSpec.upto fntextPartsSpec)) fntextPartsUptoCard
end Rows
end Go.Proofs.YtlinfpchnonbpaaGreatDoor
