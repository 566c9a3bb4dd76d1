/- The card of the row of gridironlaw08.NumberDates, out of closed facts each shown by itself: the row holds, and its listed variables are tied to the program's text. Conditions: none. -/
import Derived.Test.YtdihaemeipdfgaaGreatDoorTie
import Derived.Test.YtdihaemeipdfgaaGreatDoorCards
import Derived.ProofKit
import Derived.SevenTiedAt
namespace Go.Proofs.YtdihaemeipdfgaaGreatDoor
open Go.ChangeShapes Go.WideShapes Go.ChangeAt Go.RowKit Go.ChangeMaps

theorem numberDates_goes : false = Rows.numberDatesRow.goesBy Tryz.pinned.checked.prog := by kernel_rfl
end Go.Proofs.YtdihaemeipdfgaaGreatDoor
