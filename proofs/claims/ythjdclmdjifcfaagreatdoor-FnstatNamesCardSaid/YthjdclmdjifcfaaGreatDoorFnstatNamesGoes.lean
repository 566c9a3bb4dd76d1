/- The card of the row of gridironlaw18.FnstatNames, out of closed facts each shown by itself: the row holds, and its listed variables are tied to the program's text. Conditions: none. -/
import Derived.Test.YthjdclmdjifcfaaGreatDoorTie
import Derived.Test.YthjdclmdjifcfaaGreatDoorCards
import Derived.ProofKit
import Derived.SevenTiedAt
namespace Go.Proofs.YthjdclmdjifcfaaGreatDoor
open Go.ChangeShapes Go.WideShapes Go.ChangeAt Go.RowKit Go.ChangeMaps

theorem fnstatNames_goes : false = Rows.fnstatNamesRow.goesBy Tryz.pinned.checked.prog := by kernel_rfl
end Go.Proofs.YthjdclmdjifcfaaGreatDoor
