/-
  DERIVED. GIVEN WITH THE SEED: THE CARDS: each row of YthjdclmdjifcfaaGreatDoorRows.lean that lists a variable, with what it lists TIED to the program's text (the seventh form; the later family's looks); each row that meets fmt, with fmt's text TOLD by the authors' own Lean function (tested against real Go, not proved from fmt's source: count such statements apart). THE CARD IS WHAT COUNTS. Prove the row's statement (the work); the ties are given (YthjdclmdjifcfaaGreatDoorTie.lean); close each card by the builder's one call (the guide's Derived/Test/ToyasCard.lean, 'card_holds'). Laid BY PROGRAM, IN A SANDBOX (cutbox-door.mjs). By AI agents, Wed Nov 11 2026. No macro, syntax, notation, axiom, sorry.
-/
import Derived.Test.YthjdclmdjifcfaaGreatDoorRows
import GoSem.ClaimSeven
namespace Go.Proofs.YthjdclmdjifcfaaGreatDoor
namespace Rows

/-- THE TIED CARD OF 'gridironlaw18.FnstatNames'. -/
def fnstatNamesCard : Claim7 := { stood := { row := fnstatNamesRow, standIns := [], harness := (true, "d7760cb86308dd046f9ef13cb36994ac77094b4dd5d0cf299491e2b2ef47b3f9"), looks := true }, kinds := [], alts := [], laidByText := true, laidKinds := [.data, .data, .widerDeep, .widerDeep, .data, .data, .data, .data, .data, .data, .sentinel, .sentinel, .pinned, .pinned, .pinned, .pinned], laidTests := true, laidLooks := .later }
def FnstatNamesCardSaid : Prop := Claim7.holds Tryz.pinned (.plain (OpenSpec.ofChange fnstatNamesSpec)) fnstatNamesCard

/-- THE SECOND FORM's CARD OF 'gridironlaw18.FnstatNames'. -/
def fnstatNamesUptoCard : Claim7 := { stood := { row := fnstatNamesUptoRow, standIns := [], harness := (true, "d7760cb86308dd046f9ef13cb36994ac77094b4dd5d0cf299491e2b2ef47b3f9"), looks := true }, kinds := [], alts := [], laidByText := true, laidKinds := [.data, .data, .widerDeep, .widerDeep, .data, .data, .data, .data, .data, .data, .sentinel, .sentinel, .pinned, .pinned, .pinned, .pinned], laidTests := true, laidLooks := .later }
def FnstatNamesUptoCardSaid : Prop := Claim7.holds Tryz.pinned (.plain (OpenSpec.upto fnstatNamesSpec)) fnstatNamesUptoCard
end Rows
end Go.Proofs.YthjdclmdjifcfaaGreatDoor
