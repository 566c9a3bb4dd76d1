/- gridironlaw17.FnmathBases answers 'true' for every argument, and leaves them as they were. Conditions: none. -/
import Derived.Test.YtgfoocnnidhepaaGreatDoorEvFacts
import Derived.Test.YtgfoocnnidhepaaGreatDoorTie
import Derived.Test.YtgfoocnnidhepaaGreatDoorCards
import Derived.ProofKit
import Derived.OpenShut
import Derived.Carry
import Derived.ShutString
import Derived.Laws.Cover2
import Derived.LaidMore
import Derived.Lay
import Derived.SevenTiedAt
import Derived.Stop.Joined
namespace Go.Proofs.YtgfoocnnidhepaaGreatDoor
open Go.ChangeShapes Go.WideShapes Go.ChangeAt Go.RowKit Go.ChangeMaps
theorem fnmathBases_wrap : Tryz.f6.isWrapper Tryz.pinned.checked.prog Rows.fnmathBasesRow.wrapper Rows.fnmathBasesRow.mainSum := by unfold Func.isWrapper; first | (rw [if_pos (by decide +kernel)]; kernel_rfl) | (rw [if_neg (by decide +kernel)]; exact ⟨rfl, rfl⟩)
theorem fnmathBases_named : Tryz.pinned.checked.prog.funcNamed Rows.fnmathBasesRow.func = some 6 := by kernel_rfl
theorem fnmathBases_inst : Tryz.f6.isInstance Tryz.pinned.checked.prog Rows.fnmathBasesRow.origin Rows.fnmathBasesRow.targs := of_decide_eq_true (by kernel_rfl)
end Go.Proofs.YtgfoocnnidhepaaGreatDoor
