/- gridironlaw20.FnlogicNames answers 'true' for every text, and leaves the text as it was; the listed variables start as the program's text lays them. Conditions: none. -/
import Derived.Test.YtlpbimookmhjbaaGreatDoorTie
import Derived.Test.YtlpbimookmhjbaaGreatDoorCards
import Derived.ProofKit
import Derived.OpenShut
import Derived.ShutString
import Derived.LaidMore
import Derived.Lay
import Derived.SevenTiedAt
import Derived.Stop.Joined
namespace Go.Proofs.YtlpbimookmhjbaaGreatDoor
open Go.ChangeShapes Go.WideShapes Go.ChangeAt Go.RowKit Go.ChangeMaps

theorem fnlogicNames_wrap : Tryz.f3.isWrapper Tryz.pinned.checked.prog Rows.fnlogicNamesRow.wrapper Rows.fnlogicNamesRow.mainSum := by unfold Func.isWrapper; first | (rw [if_pos (by decide +kernel)]; kernel_rfl) | (rw [if_neg (by decide +kernel)]; exact ⟨rfl, rfl⟩)
theorem fnlogicNames_named : Tryz.pinned.checked.prog.funcNamed Rows.fnlogicNamesRow.func = some 3 := by kernel_rfl
theorem fnlogicNames_inst : Tryz.f3.isInstance Tryz.pinned.checked.prog Rows.fnlogicNamesRow.origin Rows.fnlogicNamesRow.targs := of_decide_eq_true (by kernel_rfl)
end Go.Proofs.YtlpbimookmhjbaaGreatDoor
