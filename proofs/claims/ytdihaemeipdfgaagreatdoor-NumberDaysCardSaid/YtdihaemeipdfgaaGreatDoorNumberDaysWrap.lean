/- gridironlaw08.NumberDays answers 'true' for every argument, and leaves them as they were. Conditions: none. -/
import Derived.Test.YtdihaemeipdfgaaGreatDoorTie
import Derived.Test.YtdihaemeipdfgaaGreatDoorCards
import Derived.ProofKit
import Derived.OpenShut
import Derived.ShutString
import Derived.Laws.Cover2
import Derived.LaidMore
import Derived.Lay
import Derived.SevenTiedAt
import Derived.Stop.Joined
namespace Go.Proofs.YtdihaemeipdfgaaGreatDoor
open Go.ChangeShapes Go.WideShapes Go.ChangeAt Go.RowKit Go.ChangeMaps

theorem numberDays_wrap : Tryz.f3.isWrapper Tryz.pinned.checked.prog Rows.numberDaysRow.wrapper Rows.numberDaysRow.mainSum := by unfold Func.isWrapper; first | (rw [if_pos (by decide +kernel)]; kernel_rfl) | (rw [if_neg (by decide +kernel)]; exact ⟨rfl, rfl⟩)
theorem numberDays_named : Tryz.pinned.checked.prog.funcNamed Rows.numberDaysRow.func = some 3 := by kernel_rfl
theorem numberDays_inst : Tryz.f3.isInstance Tryz.pinned.checked.prog Rows.numberDaysRow.origin Rows.numberDaysRow.targs := of_decide_eq_true (by kernel_rfl)
end Go.Proofs.YtdihaemeipdfgaaGreatDoor
