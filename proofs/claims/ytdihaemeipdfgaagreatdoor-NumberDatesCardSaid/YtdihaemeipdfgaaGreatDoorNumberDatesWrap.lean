/- gridironlaw08.NumberDates answers 'true' for every argument, and leaves them as they were. Conditions: none. -/
import Derived.Test.YtdihaemeipdfgaaGreatDoorEvFrame
import Derived.Test.YtdihaemeipdfgaaGreatDoorTie
import Derived.Test.YtdihaemeipdfgaaGreatDoorCards
import Derived.ProofKit
import Derived.OpenShut
import Derived.Carry
import Derived.ShutString
import Derived.Laws.Cover2
import Derived.LaidMore
import Derived.Lay
import Derived.SevenTiedAt
import Derived.Stop.Joined
namespace Go.Proofs.YtdihaemeipdfgaaGreatDoor
open Go.ChangeShapes Go.WideShapes Go.ChangeAt Go.RowKit Go.ChangeMaps

theorem numberDates_wrap : Tryz.f4.isWrapper Tryz.pinned.checked.prog Rows.numberDatesRow.wrapper Rows.numberDatesRow.mainSum := by unfold Func.isWrapper; first | (rw [if_pos (by decide +kernel)]; kernel_rfl) | (rw [if_neg (by decide +kernel)]; exact ⟨rfl, rfl⟩)
theorem numberDates_named : Tryz.pinned.checked.prog.funcNamed Rows.numberDatesRow.func = some 4 := by kernel_rfl
theorem numberDates_inst : Tryz.f4.isInstance Tryz.pinned.checked.prog Rows.numberDatesRow.origin Rows.numberDatesRow.targs := of_decide_eq_true (by kernel_rfl)
end Go.Proofs.YtdihaemeipdfgaaGreatDoor
