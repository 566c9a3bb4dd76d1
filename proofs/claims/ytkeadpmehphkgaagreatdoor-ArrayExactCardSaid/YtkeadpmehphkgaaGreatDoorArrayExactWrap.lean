/- gridironlaw16.ArrayExact answers 'true' for every argument, and leaves them as they were. Conditions: none. -/
import Derived.Test.YtkeadpmehphkgaaGreatDoorEvFacts
import Derived.Test.YtkeadpmehphkgaaGreatDoorTie
import Derived.Test.YtkeadpmehphkgaaGreatDoorCards
import Derived.ProofKit
import Derived.OpenShut
import Derived.Carry
import Derived.ShutString
import Derived.Laws.Cover2
import Derived.LaidMore
import Derived.Lay
import Derived.SevenTiedAt
import Derived.Stop.Joined
namespace Go.Proofs.YtkeadpmehphkgaaGreatDoor
open Go.ChangeShapes Go.WideShapes Go.ChangeAt Go.RowKit Go.ChangeMaps
theorem arrayExact_wrap : Tryz.f3.isWrapper Tryz.pinned.checked.prog Rows.arrayExactRow.wrapper Rows.arrayExactRow.mainSum := by unfold Func.isWrapper; first | (rw [if_pos (by decide +kernel)]; kernel_rfl) | (rw [if_neg (by decide +kernel)]; exact ⟨rfl, rfl⟩)
theorem arrayExact_named : Tryz.pinned.checked.prog.funcNamed Rows.arrayExactRow.func = some 3 := by kernel_rfl
theorem arrayExact_inst : Tryz.f3.isInstance Tryz.pinned.checked.prog Rows.arrayExactRow.origin Rows.arrayExactRow.targs := of_decide_eq_true (by kernel_rfl)
end Go.Proofs.YtkeadpmehphkgaaGreatDoor
