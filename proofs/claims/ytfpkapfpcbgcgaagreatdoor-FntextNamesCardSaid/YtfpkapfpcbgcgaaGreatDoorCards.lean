/-
  DERIVED. GIVEN WITH THE SEED: THE CARDS: each row of YtfpkapfpcbgcgaaGreatDoorRows.lean that lists a variable, with what it lists TIED to the program's text (the seventh form; the later family's looks); each row that meets fmt, with fmt's text TOLD by the authors' own Lean function (tested against real Go, not proved from fmt's source: count such statements apart). THE CARD IS WHAT COUNTS. Prove the row's statement (the work); the ties are given (YtfpkapfpcbgcgaaGreatDoorTie.lean); close each card by the builder's one call (the guide's Derived/Test/ToyasCard.lean, 'card_holds'). Laid BY PROGRAM, IN A SANDBOX (cutbox-door.mjs). By AI agents, Wed Nov 11 2026. No macro, syntax, notation, axiom, sorry.
-/
import Derived.Test.YtfpkapfpcbgcgaaGreatDoorRows
import GoSem.ClaimSeven
namespace Go.Proofs.YtfpkapfpcbgcgaaGreatDoor
namespace Rows

/-- THE TIED CARD OF 'gridironlaw19.FntextNames'. -/
def fntextNamesCard : Claim7 := { stood := { row := fntextNamesRow, standIns := [], harness := (true, "a1ccee9646b6c08739e80abe575fa53cca048c10554571061f328b2ff94b5624"), looks := true }, kinds := [], alts := [], laidByText := true, laidKinds := [.data, .data, .widerDeep, .widerDeep, .data, .data, .data, .data, .data, .data, .sentinel, .sentinel, .pinned, .pinned, .pinned, .pinned], laidTests := true, laidLooks := .later }
def FntextNamesCardSaid : Prop := Claim7.holds Tryz.pinned (.plain (OpenSpec.ofChange fntextNamesSpec)) fntextNamesCard

/-- THE TIED CARD OF 'gridironlaw21.FnlookNames'. -/
def fnlookNamesCard : Claim7 := { stood := { row := fnlookNamesRow, standIns := [], harness := (true, "a1ccee9646b6c08739e80abe575fa53cca048c10554571061f328b2ff94b5624"), looks := true }, kinds := [], alts := [], laidByText := true, laidKinds := [.data, .data, .widerDeep, .widerDeep, .data, .data, .data, .data, .data, .data, .sentinel, .sentinel, .pinned, .pinned, .pinned, .pinned], laidTests := true, laidLooks := .later }
def FnlookNamesCardSaid : Prop := Claim7.holds Tryz.pinned (.plain (OpenSpec.ofChange fnlookNamesSpec)) fnlookNamesCard

/-- THE TIED CARD OF 'gridironlaw09.ValueErrors'. -/
def valueErrorsCard : Claim7 := { stood := { row := valueErrorsRow, standIns := [], harness := (true, "a1ccee9646b6c08739e80abe575fa53cca048c10554571061f328b2ff94b5624"), looks := true }, kinds := [], alts := [], laidByText := true, laidKinds := [.data, .data, .widerDeep, .widerDeep, .data, .data, .data, .data, .data, .data, .sentinel, .sentinel, .pinned, .pinned, .pinned, .pinned], laidTests := true, laidLooks := .later }
def ValueErrorsCardSaid : Prop := Claim7.holds Tryz.pinned (.plain (OpenSpec.ofChange valueErrorsSpec)) valueErrorsCard

/-- THE SECOND FORM's CARD OF 'gridironlaw19.FntextNames'. -/
def fntextNamesUptoCard : Claim7 := { stood := { row := fntextNamesUptoRow, standIns := [], harness := (true, "a1ccee9646b6c08739e80abe575fa53cca048c10554571061f328b2ff94b5624"), looks := true }, kinds := [], alts := [], laidByText := true, laidKinds := [.data, .data, .widerDeep, .widerDeep, .data, .data, .data, .data, .data, .data, .sentinel, .sentinel, .pinned, .pinned, .pinned, .pinned], laidTests := true, laidLooks := .later }
def FntextNamesUptoCardSaid : Prop := Claim7.holds Tryz.pinned (.plain (OpenSpec.upto fntextNamesSpec)) fntextNamesUptoCard

/-- THE SECOND FORM's CARD OF 'gridironlaw21.FnlookNames'. -/
def fnlookNamesUptoCard : Claim7 := { stood := { row := fnlookNamesUptoRow, standIns := [], harness := (true, "a1ccee9646b6c08739e80abe575fa53cca048c10554571061f328b2ff94b5624"), looks := true }, kinds := [], alts := [], laidByText := true, laidKinds := [.data, .data, .widerDeep, .widerDeep, .data, .data, .data, .data, .data, .data, .sentinel, .sentinel, .pinned, .pinned, .pinned, .pinned], laidTests := true, laidLooks := .later }
def FnlookNamesUptoCardSaid : Prop := Claim7.holds Tryz.pinned (.plain (OpenSpec.upto fnlookNamesSpec)) fnlookNamesUptoCard

/-- THE SECOND FORM's CARD OF 'gridironlaw09.ValueErrors'. -/
def valueErrorsUptoCard : Claim7 := { stood := { row := valueErrorsUptoRow, standIns := [], harness := (true, "a1ccee9646b6c08739e80abe575fa53cca048c10554571061f328b2ff94b5624"), looks := true }, kinds := [], alts := [], laidByText := true, laidKinds := [.data, .data, .widerDeep, .widerDeep, .data, .data, .data, .data, .data, .data, .sentinel, .sentinel, .pinned, .pinned, .pinned, .pinned], laidTests := true, laidLooks := .later }
def ValueErrorsUptoCardSaid : Prop := Claim7.holds Tryz.pinned (.plain (OpenSpec.upto valueErrorsSpec)) valueErrorsUptoCard
end Rows
end Go.Proofs.YtfpkapfpcbgcgaaGreatDoor
