/-
  DERIVED. GIVEN WITH THE SEED: THE CARDS: each row of YtlpbimookmhjbaaGreatDoorRows.lean that lists a variable, with what it lists TIED to the program's text (the seventh form; the later family's looks); each row that meets fmt, with fmt's text TOLD by the authors' own Lean function (tested against real Go, not proved from fmt's source: count such statements apart). THE CARD IS WHAT COUNTS. Prove the row's statement (the work); the ties are given (YtlpbimookmhjbaaGreatDoorTie.lean); close each card by the builder's one call (the guide's Derived/Test/ToyasCard.lean, 'card_holds'). Laid BY PROGRAM, IN A SANDBOX (cutbox-door.mjs). By AI agents, Wed Nov 11 2026. No macro, syntax, notation, axiom, sorry.
-/
import Derived.Test.YtlpbimookmhjbaaGreatDoorRows
import GoSem.ClaimSeven
namespace Go.Proofs.YtlpbimookmhjbaaGreatDoor
namespace Rows

/-- THE TIED CARD OF 'gridironlaw20.FnlogicNames'. -/
def fnlogicNamesCard : Claim7 := { stood := { row := fnlogicNamesRow, standIns := [], harness := (true, "26345280a1e4adb6475e4d6b92290badd03241e7a4c7bc9b8c5e487cf0831722"), looks := true }, kinds := [], alts := [], laidByText := true, laidKinds := [.data, .data, .widerDeep, .widerDeep, .data, .data, .data, .data, .data, .data, .sentinel, .sentinel, .pinned, .pinned, .pinned, .pinned], laidTests := true, laidLooks := .later }
def FnlogicNamesCardSaid : Prop := Claim7.holds Tryz.pinned (.plain (OpenSpec.ofChange fnlogicNamesSpec)) fnlogicNamesCard

/-- THE TIED CARD OF 'gridironlaw20.FnlogicLaws'. -/
def fnlogicLawsCard : Claim7 := { stood := { row := fnlogicLawsRow, standIns := [], harness := (true, "26345280a1e4adb6475e4d6b92290badd03241e7a4c7bc9b8c5e487cf0831722"), looks := true }, kinds := [], alts := [], laidByText := true, laidKinds := [.data, .data, .widerDeep, .widerDeep, .data, .data, .data, .data, .data, .data, .sentinel, .sentinel, .pinned, .pinned, .pinned, .pinned], laidTests := true, laidLooks := .later }
def FnlogicLawsCardSaid : Prop := Claim7.holds Tryz.pinned (.plain (OpenSpec.ofChange fnlogicLawsSpec)) fnlogicLawsCard

/-- THE TIED CARD OF 'gridironlaw20.FnlogicBack'. -/
def fnlogicBackCard : Claim7 := { stood := { row := fnlogicBackRow, standIns := [], harness := (true, "26345280a1e4adb6475e4d6b92290badd03241e7a4c7bc9b8c5e487cf0831722"), looks := true }, kinds := [], alts := [], laidByText := true, laidKinds := [.data, .data, .widerDeep, .widerDeep, .data, .data, .data, .data, .data, .data, .sentinel, .sentinel, .pinned, .pinned, .pinned, .pinned], laidTests := true, laidLooks := .later }
def FnlogicBackCardSaid : Prop := Claim7.holds Tryz.pinned (.plain (OpenSpec.ofChange fnlogicBackSpec)) fnlogicBackCard

/-- THE TIED CARD OF 'gridironlaw20.FnlogicDates'. -/
def fnlogicDatesCard : Claim7 := { stood := { row := fnlogicDatesRow, standIns := [], harness := (true, "26345280a1e4adb6475e4d6b92290badd03241e7a4c7bc9b8c5e487cf0831722"), looks := true }, kinds := [], alts := [], laidByText := true, laidKinds := [.data, .data, .widerDeep, .widerDeep, .data, .data, .data, .data, .data, .data, .sentinel, .sentinel, .pinned, .pinned, .pinned, .pinned], laidTests := true, laidLooks := .later }
def FnlogicDatesCardSaid : Prop := Claim7.holds Tryz.pinned (.plain (OpenSpec.ofChange fnlogicDatesSpec)) fnlogicDatesCard

/-- THE SECOND FORM's CARD OF 'gridironlaw20.FnlogicNames'. -/
def fnlogicNamesUptoCard : Claim7 := { stood := { row := fnlogicNamesUptoRow, standIns := [], harness := (true, "26345280a1e4adb6475e4d6b92290badd03241e7a4c7bc9b8c5e487cf0831722"), looks := true }, kinds := [], alts := [], laidByText := true, laidKinds := [.data, .data, .widerDeep, .widerDeep, .data, .data, .data, .data, .data, .data, .sentinel, .sentinel, .pinned, .pinned, .pinned, .pinned], laidTests := true, laidLooks := .later }
def FnlogicNamesUptoCardSaid : Prop := Claim7.holds Tryz.pinned (.plain (OpenSpec.upto fnlogicNamesSpec)) fnlogicNamesUptoCard

/-- THE SECOND FORM's CARD OF 'gridironlaw20.FnlogicLaws'. -/
def fnlogicLawsUptoCard : Claim7 := { stood := { row := fnlogicLawsUptoRow, standIns := [], harness := (true, "26345280a1e4adb6475e4d6b92290badd03241e7a4c7bc9b8c5e487cf0831722"), looks := true }, kinds := [], alts := [], laidByText := true, laidKinds := [.data, .data, .widerDeep, .widerDeep, .data, .data, .data, .data, .data, .data, .sentinel, .sentinel, .pinned, .pinned, .pinned, .pinned], laidTests := true, laidLooks := .later }
def FnlogicLawsUptoCardSaid : Prop := Claim7.holds Tryz.pinned (.plain (OpenSpec.upto fnlogicLawsSpec)) fnlogicLawsUptoCard

/-- THE SECOND FORM's CARD OF 'gridironlaw20.FnlogicBack'. -/
def fnlogicBackUptoCard : Claim7 := { stood := { row := fnlogicBackUptoRow, standIns := [], harness := (true, "26345280a1e4adb6475e4d6b92290badd03241e7a4c7bc9b8c5e487cf0831722"), looks := true }, kinds := [], alts := [], laidByText := true, laidKinds := [.data, .data, .widerDeep, .widerDeep, .data, .data, .data, .data, .data, .data, .sentinel, .sentinel, .pinned, .pinned, .pinned, .pinned], laidTests := true, laidLooks := .later }
def FnlogicBackUptoCardSaid : Prop := Claim7.holds Tryz.pinned (.plain (OpenSpec.upto fnlogicBackSpec)) fnlogicBackUptoCard

/-- THE SECOND FORM's CARD OF 'gridironlaw20.FnlogicDates'. -/
def fnlogicDatesUptoCard : Claim7 := { stood := { row := fnlogicDatesUptoRow, standIns := [], harness := (true, "26345280a1e4adb6475e4d6b92290badd03241e7a4c7bc9b8c5e487cf0831722"), looks := true }, kinds := [], alts := [], laidByText := true, laidKinds := [.data, .data, .widerDeep, .widerDeep, .data, .data, .data, .data, .data, .data, .sentinel, .sentinel, .pinned, .pinned, .pinned, .pinned], laidTests := true, laidLooks := .later }
def FnlogicDatesUptoCardSaid : Prop := Claim7.holds Tryz.pinned (.plain (OpenSpec.upto fnlogicDatesSpec)) fnlogicDatesUptoCard
end Rows
end Go.Proofs.YtlpbimookmhjbaaGreatDoor
