/- gridironlaw18.FnstatNames answers 'true' for every text, and leaves the text as it was; the listed variables start as the program's text lays them. Conditions: none. -/
import Derived.Test.YthjdclmdjifcfaaGreatDoorTie
import Derived.Test.YthjdclmdjifcfaaGreatDoorCards
import Derived.ProofKit
import Derived.OpenShut
import Derived.ShutString
import Derived.LaidMore
import Derived.Lay
import Derived.SevenTiedAt
import Derived.Stop.Joined
namespace Go.Proofs.YthjdclmdjifcfaaGreatDoor
open Go.ChangeShapes Go.WideShapes Go.ChangeAt Go.RowKit Go.ChangeMaps

theorem fnstatNames_wrap : Tryz.f3.isWrapper Tryz.pinned.checked.prog Rows.fnstatNamesRow.wrapper Rows.fnstatNamesRow.mainSum := by unfold Func.isWrapper; first | (rw [if_pos (by decide +kernel)]; kernel_rfl) | (rw [if_neg (by decide +kernel)]; exact ⟨rfl, rfl⟩)
theorem fnstatNames_named : Tryz.pinned.checked.prog.funcNamed Rows.fnstatNamesRow.func = some 3 := by kernel_rfl
theorem fnstatNames_inst : Tryz.f3.isInstance Tryz.pinned.checked.prog Rows.fnstatNamesRow.origin Rows.fnstatNamesRow.targs := of_decide_eq_true (by kernel_rfl)
end Go.Proofs.YthjdclmdjifcfaaGreatDoor
