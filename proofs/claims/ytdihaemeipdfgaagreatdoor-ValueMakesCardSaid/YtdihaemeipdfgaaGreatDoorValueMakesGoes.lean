/- The card of the row of gridironlaw09.ValueMakes, out of closed facts each shown by itself: the row holds, and its listed variables are tied to the program's text. Conditions: none. -/
import Derived.Test.YtdihaemeipdfgaaGreatDoorTie
import Derived.Test.YtdihaemeipdfgaaGreatDoorCards
import Derived.ProofKit
import Derived.SevenTiedAt
namespace Go.Proofs.YtdihaemeipdfgaaGreatDoor
open Go.ChangeShapes Go.WideShapes Go.ChangeAt Go.RowKit Go.ChangeMaps

theorem valueMakes_goes : false = Rows.valueMakesRow.goesBy Tryz.pinned.checked.prog := by kernel_rfl
end Go.Proofs.YtdihaemeipdfgaaGreatDoor
