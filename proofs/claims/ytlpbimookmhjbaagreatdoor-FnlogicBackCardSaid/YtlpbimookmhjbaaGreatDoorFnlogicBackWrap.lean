/- gridironlaw20.FnlogicBack answers 'true' for every argument, and leaves them as they were. Conditions: none. -/
import Derived.Test.YtlpbimookmhjbaaGreatDoorEvFacts
import Derived.Test.YtlpbimookmhjbaaGreatDoorTie
import Derived.Test.YtlpbimookmhjbaaGreatDoorCards
import Derived.ProofKit
import Derived.OpenShut
import Derived.Carry
import Derived.ShutString
import Derived.Laws.Cover2
import Derived.LaidMore
import Derived.Lay
import Derived.SevenTiedAt
import Derived.Stop.Joined
namespace Go.Proofs.YtlpbimookmhjbaaGreatDoor
open Go.ChangeShapes Go.WideShapes Go.ChangeAt Go.RowKit Go.ChangeMaps
theorem fnlogicBack_wrap : Tryz.f5.isWrapper Tryz.pinned.checked.prog Rows.fnlogicBackRow.wrapper Rows.fnlogicBackRow.mainSum := by unfold Func.isWrapper; first | (rw [if_pos (by decide +kernel)]; kernel_rfl) | (rw [if_neg (by decide +kernel)]; exact ⟨rfl, rfl⟩)
theorem fnlogicBack_named : Tryz.pinned.checked.prog.funcNamed Rows.fnlogicBackRow.func = some 5 := by kernel_rfl
theorem fnlogicBack_inst : Tryz.f5.isInstance Tryz.pinned.checked.prog Rows.fnlogicBackRow.origin Rows.fnlogicBackRow.targs := of_decide_eq_true (by kernel_rfl)
end Go.Proofs.YtlpbimookmhjbaaGreatDoor
