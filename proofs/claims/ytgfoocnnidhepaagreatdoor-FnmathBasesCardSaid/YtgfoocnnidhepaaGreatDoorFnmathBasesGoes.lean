/- The card of the row of gridironlaw17.FnmathBases, out of closed facts each shown by itself: the row holds, and its listed variables are tied to the program's text. Conditions: none. -/
import Derived.Test.YtgfoocnnidhepaaGreatDoorTie
import Derived.Test.YtgfoocnnidhepaaGreatDoorCards
import Derived.ProofKit
import Derived.SevenTiedAt
namespace Go.Proofs.YtgfoocnnidhepaaGreatDoor
open Go.ChangeShapes Go.WideShapes Go.ChangeAt Go.RowKit Go.ChangeMaps
theorem fnmathBases_goes : false = Rows.fnmathBasesRow.goesBy Tryz.pinned.checked.prog := by kernel_rfl
end Go.Proofs.YtgfoocnnidhepaaGreatDoor
