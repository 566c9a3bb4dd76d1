/- The closed facts of the row of FntextParts, one by one. Conditions: none. -/
import Derived.Test.YtlinfpchnonbpaaGreatDoorCards
import Derived.Test.YtlinfpchnonbpaaGreatDoorEvFacts
import Derived.ProofKit
import Derived.Lay
import Derived.SevenTiedAt
namespace Go.Proofs.YtlinfpchnonbpaaGreatDoor
open Go.ChangeShapes Go.WideShapes Go.ChangeAt Go.RowKit Go.ChangeMaps
theorem fntextParts_fact0 : Go.Ev.jf0 Tryz.pinned.checked.prog 4 Tryz.f4 Rows.fntextPartsSpec Rows.fntextPartsRow = true := by kernel_rfl
theorem fntextParts_fact1 : Go.Ev.jf1 Tryz.pinned.checked.prog 4 Tryz.f4 Rows.fntextPartsSpec Rows.fntextPartsRow = true := by kernel_rfl
theorem fntextParts_fact2 : Go.Ev.jf2 Tryz.pinned.checked.prog 4 Tryz.f4 Rows.fntextPartsSpec Rows.fntextPartsRow = true := by kernel_rfl
theorem fntextParts_fact3 : Go.Ev.jf3 Tryz.pinned.checked.prog 4 Tryz.f4 Rows.fntextPartsSpec Rows.fntextPartsRow = true := by kernel_rfl
theorem fntextParts_fact4 : Go.Ev.jf4 Tryz.pinned.checked.prog 4 Tryz.f4 Rows.fntextPartsSpec Rows.fntextPartsRow = true := by kernel_rfl
theorem fntextParts_fact5 : Go.Ev.jf5 Tryz.pinned.checked.prog 4 Tryz.f4 Rows.fntextPartsSpec Rows.fntextPartsRow = true := by kernel_rfl
theorem fntextParts_fact6 : Go.Ev.jf6 Tryz.pinned.checked.prog 4 Tryz.f4 Rows.fntextPartsSpec Rows.fntextPartsRow = true := by kernel_rfl
theorem fntextParts_fact7 : Go.Ev.jf7 Tryz.pinned.checked.prog 4 Tryz.f4 Rows.fntextPartsSpec Rows.fntextPartsRow = true := by kernel_rfl
theorem fntextParts_fact8 : Go.Ev.jf8 Tryz.pinned.checked.prog 4 Tryz.f4 Rows.fntextPartsSpec Rows.fntextPartsRow = true := by kernel_rfl
theorem fntextParts_fact9 : Go.Ev.jf9 Tryz.pinned.checked.prog 4 Tryz.f4 Rows.fntextPartsSpec Rows.fntextPartsRow = true := by kernel_rfl
theorem fntextParts_fact10 : Go.Ev.jf10 Tryz.pinned.checked.prog 4 Tryz.f4 Rows.fntextPartsSpec Rows.fntextPartsRow = true := by kernel_rfl
theorem fntextParts_fact11 : Go.Ev.jf11 Tryz.pinned.checked.prog 4 Tryz.f4 Rows.fntextPartsSpec Rows.fntextPartsRow = true := by kernel_rfl
theorem fntextParts_fact12 : Go.Ev.jf12 Tryz.pinned.checked.prog 4 Tryz.f4 Rows.fntextPartsSpec Rows.fntextPartsRow = true := by kernel_rfl
theorem fntextParts_fact13 : Go.Ev.jf13 Tryz.pinned.checked.prog 4 Tryz.f4 Rows.fntextPartsSpec Rows.fntextPartsRow = true := by kernel_rfl
theorem fntextParts_fact14 : Go.Ev.jf14 Tryz.pinned.checked.prog 4 Tryz.f4 Rows.fntextPartsSpec Rows.fntextPartsRow = true := by kernel_rfl
theorem fntextParts_fact15 : Go.Ev.jf15 Tryz.pinned.checked.prog 4 Tryz.f4 Rows.fntextPartsSpec Rows.fntextPartsRow = true := by kernel_rfl
theorem fntextParts_fact16 : Go.Ev.jf16 Tryz.pinned.checked.prog 4 Tryz.f4 Rows.fntextPartsSpec Rows.fntextPartsRow = true := by kernel_rfl
theorem fntextParts_fact17 : Go.Ev.jf17 Tryz.pinned.checked.prog 4 Tryz.f4 Rows.fntextPartsSpec Rows.fntextPartsRow = true := by kernel_rfl
theorem fntextParts_fact18 : Go.Ev.jf18 Tryz.pinned.checked.prog 4 Tryz.f4 Rows.fntextPartsSpec Rows.fntextPartsRow = true := by kernel_rfl
theorem fntextParts_fact19 : Go.Ev.jf19 Tryz.pinned.checked.prog 4 Tryz.f4 Rows.fntextPartsSpec Rows.fntextPartsRow = true := by kernel_rfl
theorem fntextParts_fact20 : Go.Ev.jf20 Tryz.pinned.checked.prog 4 Tryz.f4 Rows.fntextPartsSpec Rows.fntextPartsRow = true := by kernel_rfl
theorem fntextParts_fact21 : Go.Ev.jf21 Tryz.pinned.checked.prog 4 Tryz.f4 Rows.fntextPartsSpec Rows.fntextPartsRow = true := by kernel_rfl
theorem fntextParts_fact22 : Go.Ev.jf22 Tryz.pinned.checked.prog 4 Tryz.f4 Rows.fntextPartsSpec Rows.fntextPartsRow = true := by kernel_rfl
theorem fntextParts_fact23 : Go.Ev.jf23 Tryz.pinned.checked.prog 4 Tryz.f4 Rows.fntextPartsSpec Rows.fntextPartsRow = true := by kernel_rfl
theorem fntextParts_fact24 : Go.Ev.jf24 Tryz.pinned.checked.prog 4 Tryz.f4 Rows.fntextPartsSpec Rows.fntextPartsRow = true := by kernel_rfl
theorem fntextParts_fact25 : Go.Ev.jf25 Tryz.pinned.checked.prog 4 Tryz.f4 Rows.fntextPartsSpec Rows.fntextPartsRow = true := by kernel_rfl
theorem fntextParts_fact26 : Go.Ev.jf26 Tryz.pinned.checked.prog 4 Tryz.f4 Rows.fntextPartsSpec Rows.fntextPartsRow = true := by kernel_rfl
theorem fntextParts_fact27 : Go.Ev.jf27 Tryz.pinned.checked.prog 4 Tryz.f4 Rows.fntextPartsSpec Rows.fntextPartsRow = true := by kernel_rfl
theorem fntextParts_fact28 : Go.Ev.jf28 Tryz.pinned.checked.prog 4 Tryz.f4 Rows.fntextPartsSpec Rows.fntextPartsRow = true := by kernel_rfl
theorem fntextParts_fact29 : Go.Ev.jf29 Tryz.pinned.checked.prog 4 Tryz.f4 Rows.fntextPartsSpec Rows.fntextPartsRow = true := by kernel_rfl
theorem fntextParts_fact30 : Go.Ev.jf30 Tryz.pinned.checked.prog 4 Tryz.f4 Rows.fntextPartsSpec Rows.fntextPartsRow = true := by kernel_rfl
theorem fntextParts_fact31 : Go.Ev.jf31 Tryz.pinned.checked.prog 4 Tryz.f4 Rows.fntextPartsSpec Rows.fntextPartsRow = true := by kernel_rfl
theorem fntextParts_facts : joinedFacts Tryz.pinned.checked.prog 4 Tryz.f4 Rows.fntextPartsSpec Rows.fntextPartsRow = true :=
  Go.Ev.joinedFacts_of (P := Tryz.pinned.checked.prog) (f := 4) (fn := Tryz.f4) (s := Rows.fntextPartsSpec) (c := Rows.fntextPartsRow) fntextParts_fact0 fntextParts_fact1 fntextParts_fact2 fntextParts_fact3 fntextParts_fact4 fntextParts_fact5 fntextParts_fact6 fntextParts_fact7 fntextParts_fact8 fntextParts_fact9 fntextParts_fact10 fntextParts_fact11 fntextParts_fact12 fntextParts_fact13 fntextParts_fact14 fntextParts_fact15 fntextParts_fact16 fntextParts_fact17 fntextParts_fact18 fntextParts_fact19 fntextParts_fact20 fntextParts_fact21 fntextParts_fact22 fntextParts_fact23 fntextParts_fact24 fntextParts_fact25 fntextParts_fact26 fntextParts_fact27 fntextParts_fact28 fntextParts_fact29 fntextParts_fact30 fntextParts_fact31
end Go.Proofs.YtlinfpchnonbpaaGreatDoor
