/-
  DERIVED. GIVEN WITH THE SEED: THE CARDS: each row of YtbhceehioahimaaGreatDoorRows.lean that lists a variable, with what it lists TIED to the program's text (the seventh form; the later family's looks); each row that meets fmt, with fmt's text TOLD by the authors' own Lean function (tested against real Go, not proved from fmt's source: count such statements apart). THE CARD IS WHAT COUNTS. Prove the row's statement (the work); the ties are given (YtbhceehioahimaaGreatDoorTie.lean); close each card by the builder's one call (the guide's Derived/Test/ToyasCard.lean, 'card_holds'). Laid BY PROGRAM, IN A SANDBOX (cutbox-door.mjs). By AI agents, Wed Nov 11 2026. No macro, syntax, notation, axiom, sorry.
-/
import Derived.Test.YtbhceehioahimaaGreatDoorRows
import GoSem.ClaimSeven
namespace Go.Proofs.YtbhceehioahimaaGreatDoor
namespace Rows

/-- THE TIED CARD OF 'gridironlaw17.FnmathNames'. -/
def fnmathNamesCard : Claim7 := { stood := { row := fnmathNamesRow, standIns := [], harness := (true, "61b3e4c536b60ac0989644404f3c15d9751ac976def454e9b820249dfbffec72"), looks := true }, kinds := [], alts := [], laidByText := true, laidKinds := [.data, .data, .widerDeep, .widerDeep, .data, .data, .data, .data, .data, .data, .sentinel, .sentinel, .pinned, .pinned, .pinned, .pinned], laidTests := true, laidLooks := .later }
def FnmathNamesCardSaid : Prop := Claim7.holds Tryz.pinned (.plain (OpenSpec.ofChange fnmathNamesSpec)) fnmathNamesCard

/-- THE SECOND FORM's CARD OF 'gridironlaw17.FnmathNames'. -/
def fnmathNamesUptoCard : Claim7 := { stood := { row := fnmathNamesUptoRow, standIns := [], harness := (true, "61b3e4c536b60ac0989644404f3c15d9751ac976def454e9b820249dfbffec72"), looks := true }, kinds := [], alts := [], laidByText := true, laidKinds := [.data, .data, .widerDeep, .widerDeep, .data, .data, .data, .data, .data, .data, .sentinel, .sentinel, .pinned, .pinned, .pinned, .pinned], laidTests := true, laidLooks := .later }
def FnmathNamesUptoCardSaid : Prop := Claim7.holds Tryz.pinned (.plain (OpenSpec.upto fnmathNamesSpec)) fnmathNamesUptoCard
end Rows
end Go.Proofs.YtbhceehioahimaaGreatDoor
