/- gridironlaw19.FntextParts answers 'true' for every argument, and leaves them as they were. Conditions: none. -/
import Derived.Test.YtlinfpchnonbpaaGreatDoorEvFacts
import Derived.Test.YtlinfpchnonbpaaGreatDoorTie
import Derived.Test.YtlinfpchnonbpaaGreatDoorCards
import Derived.ProofKit
import Derived.OpenShut
import Derived.Carry
import Derived.ShutString
import Derived.Laws.Cover2
import Derived.LaidMore
import Derived.Lay
import Derived.SevenTiedAt
import Derived.Stop.Joined
namespace Go.Proofs.YtlinfpchnonbpaaGreatDoor
open Go.ChangeShapes Go.WideShapes Go.ChangeAt Go.RowKit Go.ChangeMaps
theorem fntextParts_wrap : Tryz.f4.isWrapper Tryz.pinned.checked.prog Rows.fntextPartsRow.wrapper Rows.fntextPartsRow.mainSum := by unfold Func.isWrapper; first | (rw [if_pos (by decide +kernel)]; kernel_rfl) | (rw [if_neg (by decide +kernel)]; exact ⟨rfl, rfl⟩)
theorem fntextParts_named : Tryz.pinned.checked.prog.funcNamed Rows.fntextPartsRow.func = some 4 := by kernel_rfl
theorem fntextParts_inst : Tryz.f4.isInstance Tryz.pinned.checked.prog Rows.fntextPartsRow.origin Rows.fntextPartsRow.targs := of_decide_eq_true (by kernel_rfl)
end Go.Proofs.YtlinfpchnonbpaaGreatDoor
