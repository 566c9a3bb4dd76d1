/-
  DERIVED. GIVEN WITH THE SEED: THE CARDS: each row of YtkeadpmehphkgaaGreatDoorRows.lean that lists a variable, with what it lists TIED to the program's text (the seventh form; the later family's looks); each row that meets fmt, with fmt's text TOLD by the authors' own Lean function (tested against real Go, not proved from fmt's source: count such statements apart). THE CARD IS WHAT COUNTS. Prove the row's statement (the work); the ties are given (YtkeadpmehphkgaaGreatDoorTie.lean); close each card by the builder's one call (the guide's Derived/Test/ToyasCard.lean, 'card_holds'). Laid BY PROGRAM, IN A SANDBOX (cutbox-door.mjs). By AI agents, Wed Nov 11 2026. No macro, syntax, notation, axiom, sorry.
-/
import Derived.Test.YtkeadpmehphkgaaGreatDoorRows
import GoSem.ClaimSeven
namespace Go.Proofs.YtkeadpmehphkgaaGreatDoor
namespace Rows

/-- THE TIED CARD OF 'gridironlaw16.ArrayExact'. -/
def arrayExactCard : Claim7 := { stood := { row := arrayExactRow, standIns := [], harness := (true, "2076343c42db29f52e3d3a3ab0ad567cd82160a3d36b632093c3da6f384eba90"), looks := true }, kinds := [], alts := [], laidByText := true, laidKinds := [.data, .data, .widerDeep, .widerDeep, .data, .data, .data, .data, .data, .data, .sentinel, .sentinel, .pinned, .pinned, .pinned, .pinned], laidTests := true, laidLooks := .later }
def ArrayExactCardSaid : Prop := Claim7.holds Tryz.pinned (.plain (OpenSpec.ofChange arrayExactSpec)) arrayExactCard

/-- THE TIED CARD OF 'gridironlaw16.ArrayWell'. -/
def arrayWellCard : Claim7 := { stood := { row := arrayWellRow, standIns := [], harness := (true, "2076343c42db29f52e3d3a3ab0ad567cd82160a3d36b632093c3da6f384eba90"), looks := true }, kinds := [], alts := [], laidByText := true, laidKinds := [.data, .data, .widerDeep, .widerDeep, .data, .data, .data, .data, .data, .data, .sentinel, .sentinel, .pinned, .pinned, .pinned, .pinned], laidTests := true, laidLooks := .later }
def ArrayWellCardSaid : Prop := Claim7.holds Tryz.pinned (.plain (OpenSpec.ofChange arrayWellSpec)) arrayWellCard

/-- THE TIED CARD OF 'gridironlaw16.ArrayAreas'. -/
def arrayAreasCard : Claim7 := { stood := { row := arrayAreasRow, standIns := [], harness := (true, "2076343c42db29f52e3d3a3ab0ad567cd82160a3d36b632093c3da6f384eba90"), looks := true }, kinds := [], alts := [], laidByText := true, laidKinds := [.data, .data, .widerDeep, .widerDeep, .data, .data, .data, .data, .data, .data, .sentinel, .sentinel, .pinned, .pinned, .pinned, .pinned], laidTests := true, laidLooks := .later }
def ArrayAreasCardSaid : Prop := Claim7.holds Tryz.pinned (.plain (OpenSpec.ofChange arrayAreasSpec)) arrayAreasCard

/-- THE TIED CARD OF 'gridironlaw16.ArrayCuts'. -/
def arrayCutsCard : Claim7 := { stood := { row := arrayCutsRow, standIns := [], harness := (true, "2076343c42db29f52e3d3a3ab0ad567cd82160a3d36b632093c3da6f384eba90"), looks := true }, kinds := [], alts := [], laidByText := true, laidKinds := [.data, .data, .widerDeep, .widerDeep, .data, .data, .data, .data, .data, .data, .sentinel, .sentinel, .pinned, .pinned, .pinned, .pinned], laidTests := true, laidLooks := .later }
def ArrayCutsCardSaid : Prop := Claim7.holds Tryz.pinned (.plain (OpenSpec.ofChange arrayCutsSpec)) arrayCutsCard

/-- THE TIED CARD OF 'gridironlaw16.ArrayOwn'. -/
def arrayOwnCard : Claim7 := { stood := { row := arrayOwnRow, standIns := [], harness := (true, "2076343c42db29f52e3d3a3ab0ad567cd82160a3d36b632093c3da6f384eba90"), looks := true }, kinds := [], alts := [], laidByText := true, laidKinds := [.data, .data, .widerDeep, .widerDeep, .data, .data, .data, .data, .data, .data, .sentinel, .sentinel, .pinned, .pinned, .pinned, .pinned], laidTests := true, laidLooks := .later }
def ArrayOwnCardSaid : Prop := Claim7.holds Tryz.pinned (.plain (OpenSpec.ofChange arrayOwnSpec)) arrayOwnCard

/-- THE SECOND FORM's CARD OF 'gridironlaw16.ArrayExact'. -/
def arrayExactUptoCard : Claim7 := { stood := { row := arrayExactUptoRow, standIns := [], harness := (true, "2076343c42db29f52e3d3a3ab0ad567cd82160a3d36b632093c3da6f384eba90"), looks := true }, kinds := [], alts := [], laidByText := true, laidKinds := [.data, .data, .widerDeep, .widerDeep, .data, .data, .data, .data, .data, .data, .sentinel, .sentinel, .pinned, .pinned, .pinned, .pinned], laidTests := true, laidLooks := .later }
def ArrayExactUptoCardSaid : Prop := Claim7.holds Tryz.pinned (.plain (OpenSpec.upto arrayExactSpec)) arrayExactUptoCard

/-- THE SECOND FORM's CARD OF 'gridironlaw16.ArrayWell'. -/
def arrayWellUptoCard : Claim7 := { stood := { row := arrayWellUptoRow, standIns := [], harness := (true, "2076343c42db29f52e3d3a3ab0ad567cd82160a3d36b632093c3da6f384eba90"), looks := true }, kinds := [], alts := [], laidByText := true, laidKinds := [.data, .data, .widerDeep, .widerDeep, .data, .data, .data, .data, .data, .data, .sentinel, .sentinel, .pinned, .pinned, .pinned, .pinned], laidTests := true, laidLooks := .later }
def ArrayWellUptoCardSaid : Prop := Claim7.holds Tryz.pinned (.plain (OpenSpec.upto arrayWellSpec)) arrayWellUptoCard

/-- THE SECOND FORM's CARD OF 'gridironlaw16.ArrayAreas'. -/
def arrayAreasUptoCard : Claim7 := { stood := { row := arrayAreasUptoRow, standIns := [], harness := (true, "2076343c42db29f52e3d3a3ab0ad567cd82160a3d36b632093c3da6f384eba90"), looks := true }, kinds := [], alts := [], laidByText := true, laidKinds := [.data, .data, .widerDeep, .widerDeep, .data, .data, .data, .data, .data, .data, .sentinel, .sentinel, .pinned, .pinned, .pinned, .pinned], laidTests := true, laidLooks := .later }
def ArrayAreasUptoCardSaid : Prop := Claim7.holds Tryz.pinned (.plain (OpenSpec.upto arrayAreasSpec)) arrayAreasUptoCard

/-- THE SECOND FORM's CARD OF 'gridironlaw16.ArrayCuts'. -/
def arrayCutsUptoCard : Claim7 := { stood := { row := arrayCutsUptoRow, standIns := [], harness := (true, "2076343c42db29f52e3d3a3ab0ad567cd82160a3d36b632093c3da6f384eba90"), looks := true }, kinds := [], alts := [], laidByText := true, laidKinds := [.data, .data, .widerDeep, .widerDeep, .data, .data, .data, .data, .data, .data, .sentinel, .sentinel, .pinned, .pinned, .pinned, .pinned], laidTests := true, laidLooks := .later }
def ArrayCutsUptoCardSaid : Prop := Claim7.holds Tryz.pinned (.plain (OpenSpec.upto arrayCutsSpec)) arrayCutsUptoCard

/-- THE SECOND FORM's CARD OF 'gridironlaw16.ArrayOwn'. -/
def arrayOwnUptoCard : Claim7 := { stood := { row := arrayOwnUptoRow, standIns := [], harness := (true, "2076343c42db29f52e3d3a3ab0ad567cd82160a3d36b632093c3da6f384eba90"), looks := true }, kinds := [], alts := [], laidByText := true, laidKinds := [.data, .data, .widerDeep, .widerDeep, .data, .data, .data, .data, .data, .data, .sentinel, .sentinel, .pinned, .pinned, .pinned, .pinned], laidTests := true, laidLooks := .later }
def ArrayOwnUptoCardSaid : Prop := Claim7.holds Tryz.pinned (.plain (OpenSpec.upto arrayOwnSpec)) arrayOwnUptoCard
end Rows
end Go.Proofs.YtkeadpmehphkgaaGreatDoor
