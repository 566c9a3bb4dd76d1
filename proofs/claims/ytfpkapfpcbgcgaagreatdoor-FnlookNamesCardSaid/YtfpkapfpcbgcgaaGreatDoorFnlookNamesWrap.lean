/- gridironlaw21.FnlookNames answers 'true' for every text, and leaves the text as it was; the listed variables start as the program's text lays them. Conditions: none. -/
import Derived.Test.YtfpkapfpcbgcgaaGreatDoorTie
import Derived.Test.YtfpkapfpcbgcgaaGreatDoorCards
import Derived.ProofKit
import Derived.OpenShut
import Derived.ShutString
import Derived.LaidMore
import Derived.Lay
import Derived.SevenTiedAt
import Derived.Stop.Joined
namespace Go.Proofs.YtfpkapfpcbgcgaaGreatDoor
open Go.ChangeShapes Go.WideShapes Go.ChangeAt Go.RowKit Go.ChangeMaps

theorem fnlookNames_wrap : Tryz.f4.isWrapper Tryz.pinned.checked.prog Rows.fnlookNamesRow.wrapper Rows.fnlookNamesRow.mainSum := by unfold Func.isWrapper; first | (rw [if_pos (by decide +kernel)]; kernel_rfl) | (rw [if_neg (by decide +kernel)]; exact ⟨rfl, rfl⟩)
theorem fnlookNames_named : Tryz.pinned.checked.prog.funcNamed Rows.fnlookNamesRow.func = some 4 := by kernel_rfl
theorem fnlookNames_inst : Tryz.f4.isInstance Tryz.pinned.checked.prog Rows.fnlookNamesRow.origin Rows.fnlookNamesRow.targs := of_decide_eq_true (by kernel_rfl)
end Go.Proofs.YtfpkapfpcbgcgaaGreatDoor
