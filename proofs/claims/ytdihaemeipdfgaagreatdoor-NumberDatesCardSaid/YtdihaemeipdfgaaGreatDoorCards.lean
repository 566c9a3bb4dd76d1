/-
  DERIVED. GIVEN WITH THE SEED: THE CARDS: each row of YtdihaemeipdfgaaGreatDoorRows.lean that lists a variable, with what it lists TIED to the program's text (the seventh form; the later family's looks); each row that meets fmt, with fmt's text TOLD by the authors' own Lean function (tested against real Go, not proved from fmt's source: count such statements apart). THE CARD IS WHAT COUNTS. Prove the row's statement (the work); the ties are given (YtdihaemeipdfgaaGreatDoorTie.lean); close each card by the builder's one call (the guide's Derived/Test/ToyasCard.lean, 'card_holds'). Laid BY PROGRAM, IN A SANDBOX (cutbox-door.mjs). By AI agents, Wed Nov 11 2026. No macro, syntax, notation, axiom, sorry.
-/
import Derived.Test.YtdihaemeipdfgaaGreatDoorRows
import GoSem.ClaimSeven
namespace Go.Proofs.YtdihaemeipdfgaaGreatDoor
namespace Rows

/-- THE TIED CARD OF 'gridironlaw08.NumberDays'. -/
def numberDaysCard : Claim7 := { stood := { row := numberDaysRow, standIns := [], harness := (true, "4ade23147447612e0c1a4dac8ad3921b45c8e529d775cf1e21a343a5a4da7978"), looks := true }, kinds := [], alts := [], laidByText := true, laidKinds := [.data, .data, .data, .data, .data, .sentinel, .sentinel, .pinned, .pinned, .pinned], laidTests := true, laidLooks := .later }
def NumberDaysCardSaid : Prop := Claim7.holds Tryz.pinned (.plain (OpenSpec.ofChange numberDaysSpec)) numberDaysCard

/-- THE TIED CARD OF 'gridironlaw08.NumberDates'. -/
def numberDatesCard : Claim7 := { stood := { row := numberDatesRow, standIns := [], harness := (true, "4ade23147447612e0c1a4dac8ad3921b45c8e529d775cf1e21a343a5a4da7978"), looks := true }, kinds := [], alts := [], laidByText := true, laidKinds := [.data, .data, .data, .data, .data, .sentinel, .sentinel, .pinned, .pinned, .pinned], laidTests := true, laidLooks := .later }
def NumberDatesCardSaid : Prop := Claim7.holds Tryz.pinned (.plain (OpenSpec.ofChange numberDatesSpec)) numberDatesCard

/-- THE TIED CARD OF 'gridironlaw09.ValueMakes'. -/
def valueMakesCard : Claim7 := { stood := { row := valueMakesRow, standIns := [], harness := (true, "4ade23147447612e0c1a4dac8ad3921b45c8e529d775cf1e21a343a5a4da7978"), looks := true }, kinds := [], alts := [], laidByText := true, laidKinds := [.data, .data, .widerDeep, .widerDeep, .data, .data, .data, .data, .data, .data, .sentinel, .sentinel, .pinned, .pinned, .pinned, .pinned], laidTests := true, laidLooks := .later }
def ValueMakesCardSaid : Prop := Claim7.holds Tryz.pinned (.plain (OpenSpec.ofChange valueMakesSpec)) valueMakesCard

/-- THE SECOND FORM's CARD OF 'gridironlaw08.NumberDays'. -/
def numberDaysUptoCard : Claim7 := { stood := { row := numberDaysUptoRow, standIns := [], harness := (true, "4ade23147447612e0c1a4dac8ad3921b45c8e529d775cf1e21a343a5a4da7978"), looks := true }, kinds := [], alts := [], laidByText := true, laidKinds := [.data, .data, .data, .data, .data, .sentinel, .sentinel, .pinned, .pinned, .pinned], laidTests := true, laidLooks := .later }
def NumberDaysUptoCardSaid : Prop := Claim7.holds Tryz.pinned (.plain (OpenSpec.upto numberDaysSpec)) numberDaysUptoCard

/-- THE SECOND FORM's CARD OF 'gridironlaw08.NumberDates'. -/
def numberDatesUptoCard : Claim7 := { stood := { row := numberDatesUptoRow, standIns := [], harness := (true, "4ade23147447612e0c1a4dac8ad3921b45c8e529d775cf1e21a343a5a4da7978"), looks := true }, kinds := [], alts := [], laidByText := true, laidKinds := [.data, .data, .data, .data, .data, .sentinel, .sentinel, .pinned, .pinned, .pinned], laidTests := true, laidLooks := .later }
def NumberDatesUptoCardSaid : Prop := Claim7.holds Tryz.pinned (.plain (OpenSpec.upto numberDatesSpec)) numberDatesUptoCard

/-- THE SECOND FORM's CARD OF 'gridironlaw09.ValueMakes'. -/
def valueMakesUptoCard : Claim7 := { stood := { row := valueMakesUptoRow, standIns := [], harness := (true, "4ade23147447612e0c1a4dac8ad3921b45c8e529d775cf1e21a343a5a4da7978"), looks := true }, kinds := [], alts := [], laidByText := true, laidKinds := [.data, .data, .widerDeep, .widerDeep, .data, .data, .data, .data, .data, .data, .sentinel, .sentinel, .pinned, .pinned, .pinned, .pinned], laidTests := true, laidLooks := .later }
def ValueMakesUptoCardSaid : Prop := Claim7.holds Tryz.pinned (.plain (OpenSpec.upto valueMakesSpec)) valueMakesUptoCard
end Rows
end Go.Proofs.YtdihaemeipdfgaaGreatDoor
