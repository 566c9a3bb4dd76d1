/- The closed facts of the row of NumberDates, one by one. Conditions: none. -/
import Derived.Test.YtdihaemeipdfgaaGreatDoorCards
import Derived.Test.YtdihaemeipdfgaaGreatDoorEvFacts
import Derived.ProofKit
import Derived.Lay
import Derived.SevenTiedAt
namespace Go.Proofs.YtdihaemeipdfgaaGreatDoor
open Go.ChangeShapes Go.WideShapes Go.ChangeAt Go.RowKit Go.ChangeMaps

theorem numberDates_fact0 : Go.Ev.jf0 Tryz.pinned.checked.prog 4 Tryz.f4 Rows.numberDatesSpec Rows.numberDatesRow = true := by kernel_rfl
theorem numberDates_fact1 : Go.Ev.jf1 Tryz.pinned.checked.prog 4 Tryz.f4 Rows.numberDatesSpec Rows.numberDatesRow = true := by kernel_rfl
theorem numberDates_fact2 : Go.Ev.jf2 Tryz.pinned.checked.prog 4 Tryz.f4 Rows.numberDatesSpec Rows.numberDatesRow = true := by kernel_rfl
theorem numberDates_fact3 : Go.Ev.jf3 Tryz.pinned.checked.prog 4 Tryz.f4 Rows.numberDatesSpec Rows.numberDatesRow = true := by kernel_rfl
theorem numberDates_fact4 : Go.Ev.jf4 Tryz.pinned.checked.prog 4 Tryz.f4 Rows.numberDatesSpec Rows.numberDatesRow = true := by kernel_rfl
theorem numberDates_fact5 : Go.Ev.jf5 Tryz.pinned.checked.prog 4 Tryz.f4 Rows.numberDatesSpec Rows.numberDatesRow = true := by kernel_rfl
theorem numberDates_fact6 : Go.Ev.jf6 Tryz.pinned.checked.prog 4 Tryz.f4 Rows.numberDatesSpec Rows.numberDatesRow = true := by kernel_rfl
theorem numberDates_fact7 : Go.Ev.jf7 Tryz.pinned.checked.prog 4 Tryz.f4 Rows.numberDatesSpec Rows.numberDatesRow = true := by kernel_rfl
theorem numberDates_fact8 : Go.Ev.jf8 Tryz.pinned.checked.prog 4 Tryz.f4 Rows.numberDatesSpec Rows.numberDatesRow = true := by kernel_rfl
theorem numberDates_fact9 : Go.Ev.jf9 Tryz.pinned.checked.prog 4 Tryz.f4 Rows.numberDatesSpec Rows.numberDatesRow = true := by kernel_rfl
theorem numberDates_fact10 : Go.Ev.jf10 Tryz.pinned.checked.prog 4 Tryz.f4 Rows.numberDatesSpec Rows.numberDatesRow = true := by kernel_rfl
theorem numberDates_fact11 : Go.Ev.jf11 Tryz.pinned.checked.prog 4 Tryz.f4 Rows.numberDatesSpec Rows.numberDatesRow = true := by kernel_rfl
theorem numberDates_fact12 : Go.Ev.jf12 Tryz.pinned.checked.prog 4 Tryz.f4 Rows.numberDatesSpec Rows.numberDatesRow = true := by kernel_rfl
theorem numberDates_fact13 : Go.Ev.jf13 Tryz.pinned.checked.prog 4 Tryz.f4 Rows.numberDatesSpec Rows.numberDatesRow = true := by kernel_rfl
theorem numberDates_fact14 : Go.Ev.jf14 Tryz.pinned.checked.prog 4 Tryz.f4 Rows.numberDatesSpec Rows.numberDatesRow = true := by kernel_rfl
theorem numberDates_fact15 : Go.Ev.jf15 Tryz.pinned.checked.prog 4 Tryz.f4 Rows.numberDatesSpec Rows.numberDatesRow = true := by kernel_rfl
theorem numberDates_fact16 : Go.Ev.jf16 Tryz.pinned.checked.prog 4 Tryz.f4 Rows.numberDatesSpec Rows.numberDatesRow = true := by kernel_rfl
theorem numberDates_fact17 : Go.Ev.jf17 Tryz.pinned.checked.prog 4 Tryz.f4 Rows.numberDatesSpec Rows.numberDatesRow = true := by kernel_rfl
theorem numberDates_fact18 : Go.Ev.jf18 Tryz.pinned.checked.prog 4 Tryz.f4 Rows.numberDatesSpec Rows.numberDatesRow = true := by kernel_rfl
theorem numberDates_fact19 : Go.Ev.jf19 Tryz.pinned.checked.prog 4 Tryz.f4 Rows.numberDatesSpec Rows.numberDatesRow = true := by kernel_rfl
theorem numberDates_fact20 : Go.Ev.jf20 Tryz.pinned.checked.prog 4 Tryz.f4 Rows.numberDatesSpec Rows.numberDatesRow = true := by kernel_rfl
theorem numberDates_fact21 : Go.Ev.jf21 Tryz.pinned.checked.prog 4 Tryz.f4 Rows.numberDatesSpec Rows.numberDatesRow = true := by kernel_rfl
theorem numberDates_fact22 : Go.Ev.jf22 Tryz.pinned.checked.prog 4 Tryz.f4 Rows.numberDatesSpec Rows.numberDatesRow = true := by kernel_rfl
theorem numberDates_fact23 : Go.Ev.jf23 Tryz.pinned.checked.prog 4 Tryz.f4 Rows.numberDatesSpec Rows.numberDatesRow = true := by kernel_rfl
theorem numberDates_fact24 : Go.Ev.jf24 Tryz.pinned.checked.prog 4 Tryz.f4 Rows.numberDatesSpec Rows.numberDatesRow = true := by kernel_rfl
theorem numberDates_fact25 : Go.Ev.jf25 Tryz.pinned.checked.prog 4 Tryz.f4 Rows.numberDatesSpec Rows.numberDatesRow = true := by kernel_rfl
theorem numberDates_fact26 : Go.Ev.jf26 Tryz.pinned.checked.prog 4 Tryz.f4 Rows.numberDatesSpec Rows.numberDatesRow = true := by kernel_rfl
theorem numberDates_fact27 : Go.Ev.jf27 Tryz.pinned.checked.prog 4 Tryz.f4 Rows.numberDatesSpec Rows.numberDatesRow = true := by kernel_rfl
theorem numberDates_fact28 : Go.Ev.jf28 Tryz.pinned.checked.prog 4 Tryz.f4 Rows.numberDatesSpec Rows.numberDatesRow = true := by kernel_rfl
theorem numberDates_fact29 : Go.Ev.jf29 Tryz.pinned.checked.prog 4 Tryz.f4 Rows.numberDatesSpec Rows.numberDatesRow = true := by kernel_rfl
theorem numberDates_fact30 : Go.Ev.jf30 Tryz.pinned.checked.prog 4 Tryz.f4 Rows.numberDatesSpec Rows.numberDatesRow = true := by kernel_rfl
theorem numberDates_fact31 : Go.Ev.jf31 Tryz.pinned.checked.prog 4 Tryz.f4 Rows.numberDatesSpec Rows.numberDatesRow = true := by kernel_rfl
theorem numberDates_facts : joinedFacts Tryz.pinned.checked.prog 4 Tryz.f4 Rows.numberDatesSpec Rows.numberDatesRow = true :=
  Go.Ev.joinedFacts_of (P := Tryz.pinned.checked.prog) (f := 4) (fn := Tryz.f4) (s := Rows.numberDatesSpec) (c := Rows.numberDatesRow) numberDates_fact0 numberDates_fact1 numberDates_fact2 numberDates_fact3 numberDates_fact4 numberDates_fact5 numberDates_fact6 numberDates_fact7 numberDates_fact8 numberDates_fact9 numberDates_fact10 numberDates_fact11 numberDates_fact12 numberDates_fact13 numberDates_fact14 numberDates_fact15 numberDates_fact16 numberDates_fact17 numberDates_fact18 numberDates_fact19 numberDates_fact20 numberDates_fact21 numberDates_fact22 numberDates_fact23 numberDates_fact24 numberDates_fact25 numberDates_fact26 numberDates_fact27 numberDates_fact28 numberDates_fact29 numberDates_fact30 numberDates_fact31
end Go.Proofs.YtdihaemeipdfgaaGreatDoor
