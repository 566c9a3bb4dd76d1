/- The card of the row of gridironlaw19.FntextNames, out of closed facts each shown by itself: the row holds, and its listed variables are tied to the program's text. Conditions: none. -/
import Derived.Test.YtfpkapfpcbgcgaaGreatDoorTie
import Derived.Test.YtfpkapfpcbgcgaaGreatDoorCards
import Derived.ProofKit
import Derived.SevenTiedAt
namespace Go.Proofs.YtfpkapfpcbgcgaaGreatDoor
open Go.ChangeShapes Go.WideShapes Go.ChangeAt Go.RowKit Go.ChangeMaps

theorem fntextNames_goes : false = Rows.fntextNamesRow.goesBy Tryz.pinned.checked.prog := by kernel_rfl
end Go.Proofs.YtfpkapfpcbgcgaaGreatDoor
