/- The closed facts of the row of FntextBases, one by one. Conditions: none. -/
import Derived.Test.YtlinfpchnonbpaaGreatDoorCards
import Derived.Test.YtlinfpchnonbpaaGreatDoorEvFacts
import Derived.ProofKit
import Derived.Lay
import Derived.SevenTiedAt
namespace Go.Proofs.YtlinfpchnonbpaaGreatDoor
open Go.ChangeShapes Go.WideShapes Go.ChangeAt Go.RowKit Go.ChangeMaps
theorem fntextBases_fact0 : Go.Ev.jf0 Tryz.pinned.checked.prog 3 Tryz.f3 Rows.fntextBasesSpec Rows.fntextBasesRow = true := by kernel_rfl
theorem fntextBases_fact1 : Go.Ev.jf1 Tryz.pinned.checked.prog 3 Tryz.f3 Rows.fntextBasesSpec Rows.fntextBasesRow = true := by kernel_rfl
theorem fntextBases_fact2 : Go.Ev.jf2 Tryz.pinned.checked.prog 3 Tryz.f3 Rows.fntextBasesSpec Rows.fntextBasesRow = true := by kernel_rfl
theorem fntextBases_fact3 : Go.Ev.jf3 Tryz.pinned.checked.prog 3 Tryz.f3 Rows.fntextBasesSpec Rows.fntextBasesRow = true := by kernel_rfl
theorem fntextBases_fact4 : Go.Ev.jf4 Tryz.pinned.checked.prog 3 Tryz.f3 Rows.fntextBasesSpec Rows.fntextBasesRow = true := by kernel_rfl
theorem fntextBases_fact5 : Go.Ev.jf5 Tryz.pinned.checked.prog 3 Tryz.f3 Rows.fntextBasesSpec Rows.fntextBasesRow = true := by kernel_rfl
theorem fntextBases_fact6 : Go.Ev.jf6 Tryz.pinned.checked.prog 3 Tryz.f3 Rows.fntextBasesSpec Rows.fntextBasesRow = true := by kernel_rfl
theorem fntextBases_fact7 : Go.Ev.jf7 Tryz.pinned.checked.prog 3 Tryz.f3 Rows.fntextBasesSpec Rows.fntextBasesRow = true := by kernel_rfl
theorem fntextBases_fact8 : Go.Ev.jf8 Tryz.pinned.checked.prog 3 Tryz.f3 Rows.fntextBasesSpec Rows.fntextBasesRow = true := by kernel_rfl
theorem fntextBases_fact9 : Go.Ev.jf9 Tryz.pinned.checked.prog 3 Tryz.f3 Rows.fntextBasesSpec Rows.fntextBasesRow = true := by kernel_rfl
theorem fntextBases_fact10 : Go.Ev.jf10 Tryz.pinned.checked.prog 3 Tryz.f3 Rows.fntextBasesSpec Rows.fntextBasesRow = true := by kernel_rfl
theorem fntextBases_fact11 : Go.Ev.jf11 Tryz.pinned.checked.prog 3 Tryz.f3 Rows.fntextBasesSpec Rows.fntextBasesRow = true := by kernel_rfl
theorem fntextBases_fact12 : Go.Ev.jf12 Tryz.pinned.checked.prog 3 Tryz.f3 Rows.fntextBasesSpec Rows.fntextBasesRow = true := by kernel_rfl
theorem fntextBases_fact13 : Go.Ev.jf13 Tryz.pinned.checked.prog 3 Tryz.f3 Rows.fntextBasesSpec Rows.fntextBasesRow = true := by kernel_rfl
theorem fntextBases_fact14 : Go.Ev.jf14 Tryz.pinned.checked.prog 3 Tryz.f3 Rows.fntextBasesSpec Rows.fntextBasesRow = true := by kernel_rfl
theorem fntextBases_fact15 : Go.Ev.jf15 Tryz.pinned.checked.prog 3 Tryz.f3 Rows.fntextBasesSpec Rows.fntextBasesRow = true := by kernel_rfl
theorem fntextBases_fact16 : Go.Ev.jf16 Tryz.pinned.checked.prog 3 Tryz.f3 Rows.fntextBasesSpec Rows.fntextBasesRow = true := by kernel_rfl
theorem fntextBases_fact17 : Go.Ev.jf17 Tryz.pinned.checked.prog 3 Tryz.f3 Rows.fntextBasesSpec Rows.fntextBasesRow = true := by kernel_rfl
theorem fntextBases_fact18 : Go.Ev.jf18 Tryz.pinned.checked.prog 3 Tryz.f3 Rows.fntextBasesSpec Rows.fntextBasesRow = true := by kernel_rfl
theorem fntextBases_fact19 : Go.Ev.jf19 Tryz.pinned.checked.prog 3 Tryz.f3 Rows.fntextBasesSpec Rows.fntextBasesRow = true := by kernel_rfl
theorem fntextBases_fact20 : Go.Ev.jf20 Tryz.pinned.checked.prog 3 Tryz.f3 Rows.fntextBasesSpec Rows.fntextBasesRow = true := by kernel_rfl
theorem fntextBases_fact21 : Go.Ev.jf21 Tryz.pinned.checked.prog 3 Tryz.f3 Rows.fntextBasesSpec Rows.fntextBasesRow = true := by kernel_rfl
theorem fntextBases_fact22 : Go.Ev.jf22 Tryz.pinned.checked.prog 3 Tryz.f3 Rows.fntextBasesSpec Rows.fntextBasesRow = true := by kernel_rfl
theorem fntextBases_fact23 : Go.Ev.jf23 Tryz.pinned.checked.prog 3 Tryz.f3 Rows.fntextBasesSpec Rows.fntextBasesRow = true := by kernel_rfl
theorem fntextBases_fact24 : Go.Ev.jf24 Tryz.pinned.checked.prog 3 Tryz.f3 Rows.fntextBasesSpec Rows.fntextBasesRow = true := by kernel_rfl
theorem fntextBases_fact25 : Go.Ev.jf25 Tryz.pinned.checked.prog 3 Tryz.f3 Rows.fntextBasesSpec Rows.fntextBasesRow = true := by kernel_rfl
theorem fntextBases_fact26 : Go.Ev.jf26 Tryz.pinned.checked.prog 3 Tryz.f3 Rows.fntextBasesSpec Rows.fntextBasesRow = true := by kernel_rfl
theorem fntextBases_fact27 : Go.Ev.jf27 Tryz.pinned.checked.prog 3 Tryz.f3 Rows.fntextBasesSpec Rows.fntextBasesRow = true := by kernel_rfl
theorem fntextBases_fact28 : Go.Ev.jf28 Tryz.pinned.checked.prog 3 Tryz.f3 Rows.fntextBasesSpec Rows.fntextBasesRow = true := by kernel_rfl
theorem fntextBases_fact29 : Go.Ev.jf29 Tryz.pinned.checked.prog 3 Tryz.f3 Rows.fntextBasesSpec Rows.fntextBasesRow = true := by kernel_rfl
theorem fntextBases_fact30 : Go.Ev.jf30 Tryz.pinned.checked.prog 3 Tryz.f3 Rows.fntextBasesSpec Rows.fntextBasesRow = true := by kernel_rfl
theorem fntextBases_fact31 : Go.Ev.jf31 Tryz.pinned.checked.prog 3 Tryz.f3 Rows.fntextBasesSpec Rows.fntextBasesRow = true := by kernel_rfl
theorem fntextBases_facts : joinedFacts Tryz.pinned.checked.prog 3 Tryz.f3 Rows.fntextBasesSpec Rows.fntextBasesRow = true :=
  Go.Ev.joinedFacts_of (P := Tryz.pinned.checked.prog) (f := 3) (fn := Tryz.f3) (s := Rows.fntextBasesSpec) (c := Rows.fntextBasesRow) fntextBases_fact0 fntextBases_fact1 fntextBases_fact2 fntextBases_fact3 fntextBases_fact4 fntextBases_fact5 fntextBases_fact6 fntextBases_fact7 fntextBases_fact8 fntextBases_fact9 fntextBases_fact10 fntextBases_fact11 fntextBases_fact12 fntextBases_fact13 fntextBases_fact14 fntextBases_fact15 fntextBases_fact16 fntextBases_fact17 fntextBases_fact18 fntextBases_fact19 fntextBases_fact20 fntextBases_fact21 fntextBases_fact22 fntextBases_fact23 fntextBases_fact24 fntextBases_fact25 fntextBases_fact26 fntextBases_fact27 fntextBases_fact28 fntextBases_fact29 fntextBases_fact30 fntextBases_fact31
end Go.Proofs.YtlinfpchnonbpaaGreatDoor
