/-
  DERIVED. GIVEN WITH THE SEED: THE CARDS: each row of YtgfoocnnidhepaaGreatDoorRows.lean that lists a variable, with what it lists TIED to the program's text (the seventh form; the later family's looks); each row that meets fmt, with fmt's text TOLD by the authors' own Lean function (tested against real Go, not proved from fmt's source: count such statements apart). THE CARD IS WHAT COUNTS. Prove the row's statement (the work); the ties are given (YtgfoocnnidhepaaGreatDoorTie.lean); close each card by the builder's one call (the guide's Derived/Test/ToyasCard.lean, 'card_holds'). Laid BY PROGRAM, IN A SANDBOX (cutbox-door.mjs). By AI agents, Wed Nov 11 2026. No macro, syntax, notation, axiom, sorry.
-/
import Derived.Test.YtgfoocnnidhepaaGreatDoorRows
import GoSem.ClaimSeven
namespace Go.Proofs.YtgfoocnnidhepaaGreatDoor
namespace Rows

/-- THE TIED CARD OF 'gridironlaw17.FnmathDivides'. -/
def fnmathDividesCard : Claim7 := { stood := { row := fnmathDividesRow, standIns := [], harness := (true, "a63f1c3539beafad5106a721e074db6a542e7e30e3467a2fcb80d67f84b7b336"), looks := true }, kinds := [], alts := [], laidByText := true, laidKinds := [.data, .data, .widerDeep, .widerDeep, .data, .data, .data, .data, .data, .data, .sentinel, .sentinel, .pinned, .pinned, .pinned, .pinned], laidTests := true, laidLooks := .later }
def FnmathDividesCardSaid : Prop := Claim7.holds Tryz.pinned (.plain (OpenSpec.ofChange fnmathDividesSpec)) fnmathDividesCard

/-- THE TIED CARD OF 'gridironlaw17.FnmathRounds'. -/
def fnmathRoundsCard : Claim7 := { stood := { row := fnmathRoundsRow, standIns := [], harness := (true, "a63f1c3539beafad5106a721e074db6a542e7e30e3467a2fcb80d67f84b7b336"), looks := true }, kinds := [], alts := [], laidByText := true, laidKinds := [.data, .data, .widerDeep, .widerDeep, .data, .data, .data, .data, .data, .data, .sentinel, .sentinel, .pinned, .pinned, .pinned, .pinned], laidTests := true, laidLooks := .later }
def FnmathRoundsCardSaid : Prop := Claim7.holds Tryz.pinned (.plain (OpenSpec.ofChange fnmathRoundsSpec)) fnmathRoundsCard

/-- THE TIED CARD OF 'gridironlaw17.FnmathSums'. -/
def fnmathSumsCard : Claim7 := { stood := { row := fnmathSumsRow, standIns := [], harness := (true, "a63f1c3539beafad5106a721e074db6a542e7e30e3467a2fcb80d67f84b7b336"), looks := true }, kinds := [], alts := [], laidByText := true, laidKinds := [.data, .data, .widerDeep, .widerDeep, .data, .data, .data, .data, .data, .data, .sentinel, .sentinel, .pinned, .pinned, .pinned, .pinned], laidTests := true, laidLooks := .later }
def FnmathSumsCardSaid : Prop := Claim7.holds Tryz.pinned (.plain (OpenSpec.ofChange fnmathSumsSpec)) fnmathSumsCard

/-- THE TIED CARD OF 'gridironlaw17.FnmathBases'. -/
def fnmathBasesCard : Claim7 := { stood := { row := fnmathBasesRow, standIns := [], harness := (true, "a63f1c3539beafad5106a721e074db6a542e7e30e3467a2fcb80d67f84b7b336"), looks := true }, kinds := [], alts := [], laidByText := true, laidKinds := [.data, .data, .widerDeep, .widerDeep, .data, .data, .data, .data, .data, .data, .sentinel, .sentinel, .pinned, .pinned, .pinned, .pinned], laidTests := true, laidLooks := .later }
def FnmathBasesCardSaid : Prop := Claim7.holds Tryz.pinned (.plain (OpenSpec.ofChange fnmathBasesSpec)) fnmathBasesCard

/-- THE SECOND FORM's CARD OF 'gridironlaw17.FnmathDivides'. -/
def fnmathDividesUptoCard : Claim7 := { stood := { row := fnmathDividesUptoRow, standIns := [], harness := (true, "a63f1c3539beafad5106a721e074db6a542e7e30e3467a2fcb80d67f84b7b336"), looks := true }, kinds := [], alts := [], laidByText := true, laidKinds := [.data, .data, .widerDeep, .widerDeep, .data, .data, .data, .data, .data, .data, .sentinel, .sentinel, .pinned, .pinned, .pinned, .pinned], laidTests := true, laidLooks := .later }
def FnmathDividesUptoCardSaid : Prop := Claim7.holds Tryz.pinned (.plain (OpenSpec.upto fnmathDividesSpec)) fnmathDividesUptoCard

/-- THE SECOND FORM's CARD OF 'gridironlaw17.FnmathRounds'. -/
def fnmathRoundsUptoCard : Claim7 := { stood := { row := fnmathRoundsUptoRow, standIns := [], harness := (true, "a63f1c3539beafad5106a721e074db6a542e7e30e3467a2fcb80d67f84b7b336"), looks := true }, kinds := [], alts := [], laidByText := true, laidKinds := [.data, .data, .widerDeep, .widerDeep, .data, .data, .data, .data, .data, .data, .sentinel, .sentinel, .pinned, .pinned, .pinned, .pinned], laidTests := true, laidLooks := .later }
def FnmathRoundsUptoCardSaid : Prop := Claim7.holds Tryz.pinned (.plain (OpenSpec.upto fnmathRoundsSpec)) fnmathRoundsUptoCard

/-- THE SECOND FORM's CARD OF 'gridironlaw17.FnmathSums'. -/
def fnmathSumsUptoCard : Claim7 := { stood := { row := fnmathSumsUptoRow, standIns := [], harness := (true, "a63f1c3539beafad5106a721e074db6a542e7e30e3467a2fcb80d67f84b7b336"), looks := true }, kinds := [], alts := [], laidByText := true, laidKinds := [.data, .data, .widerDeep, .widerDeep, .data, .data, .data, .data, .data, .data, .sentinel, .sentinel, .pinned, .pinned, .pinned, .pinned], laidTests := true, laidLooks := .later }
def FnmathSumsUptoCardSaid : Prop := Claim7.holds Tryz.pinned (.plain (OpenSpec.upto fnmathSumsSpec)) fnmathSumsUptoCard

/-- THE SECOND FORM's CARD OF 'gridironlaw17.FnmathBases'. -/
def fnmathBasesUptoCard : Claim7 := { stood := { row := fnmathBasesUptoRow, standIns := [], harness := (true, "a63f1c3539beafad5106a721e074db6a542e7e30e3467a2fcb80d67f84b7b336"), looks := true }, kinds := [], alts := [], laidByText := true, laidKinds := [.data, .data, .widerDeep, .widerDeep, .data, .data, .data, .data, .data, .data, .sentinel, .sentinel, .pinned, .pinned, .pinned, .pinned], laidTests := true, laidLooks := .later }
def FnmathBasesUptoCardSaid : Prop := Claim7.holds Tryz.pinned (.plain (OpenSpec.upto fnmathBasesSpec)) fnmathBasesUptoCard
end Rows
end Go.Proofs.YtgfoocnnidhepaaGreatDoor
