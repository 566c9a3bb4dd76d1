/- gridironlaw17.FnmathRounds answers 'true' for every argument, and leaves them as they were. Conditions: none. -/
import Derived.Test.YtgfoocnnidhepaaGreatDoorEvFacts
import Derived.Test.YtgfoocnnidhepaaGreatDoorTie
import Derived.Test.YtgfoocnnidhepaaGreatDoorCards
import Derived.ProofKit
import Derived.OpenShut
import Derived.Carry
import Derived.ShutString
import Derived.Laws.Cover2
import Derived.LaidMore
import Derived.Lay
import Derived.SevenTiedAt
import Derived.Stop.Joined
namespace Go.Proofs.YtgfoocnnidhepaaGreatDoor
open Go.ChangeShapes Go.WideShapes Go.ChangeAt Go.RowKit Go.ChangeMaps
theorem fnmathRounds_wrap : Tryz.f4.isWrapper Tryz.pinned.checked.prog Rows.fnmathRoundsRow.wrapper Rows.fnmathRoundsRow.mainSum := by unfold Func.isWrapper; first | (rw [if_pos (by decide +kernel)]; kernel_rfl) | (rw [if_neg (by decide +kernel)]; exact ⟨rfl, rfl⟩)
theorem fnmathRounds_named : Tryz.pinned.checked.prog.funcNamed Rows.fnmathRoundsRow.func = some 4 := by kernel_rfl
theorem fnmathRounds_inst : Tryz.f4.isInstance Tryz.pinned.checked.prog Rows.fnmathRoundsRow.origin Rows.fnmathRoundsRow.targs := of_decide_eq_true (by kernel_rfl)
end Go.Proofs.YtgfoocnnidhepaaGreatDoor
