/- The closed facts of the row of NumberDays, one by one. Conditions: none. -/
import Derived.Test.YtdihaemeipdfgaaGreatDoorCards
import Derived.Test.YtdihaemeipdfgaaGreatDoorEvFacts
import Derived.ProofKit
import Derived.Lay
import Derived.SevenTiedAt
namespace Go.Proofs.YtdihaemeipdfgaaGreatDoor
open Go.ChangeShapes Go.WideShapes Go.ChangeAt Go.RowKit Go.ChangeMaps

theorem numberDays_fact0 : Go.Ev.jf0 Tryz.pinned.checked.prog 3 Tryz.f3 Rows.numberDaysSpec Rows.numberDaysRow = true := by kernel_rfl
theorem numberDays_fact1 : Go.Ev.jf1 Tryz.pinned.checked.prog 3 Tryz.f3 Rows.numberDaysSpec Rows.numberDaysRow = true := by kernel_rfl
theorem numberDays_fact2 : Go.Ev.jf2 Tryz.pinned.checked.prog 3 Tryz.f3 Rows.numberDaysSpec Rows.numberDaysRow = true := by kernel_rfl
theorem numberDays_fact3 : Go.Ev.jf3 Tryz.pinned.checked.prog 3 Tryz.f3 Rows.numberDaysSpec Rows.numberDaysRow = true := by kernel_rfl
theorem numberDays_fact4 : Go.Ev.jf4 Tryz.pinned.checked.prog 3 Tryz.f3 Rows.numberDaysSpec Rows.numberDaysRow = true := by kernel_rfl
theorem numberDays_fact5 : Go.Ev.jf5 Tryz.pinned.checked.prog 3 Tryz.f3 Rows.numberDaysSpec Rows.numberDaysRow = true := by kernel_rfl
theorem numberDays_fact6 : Go.Ev.jf6 Tryz.pinned.checked.prog 3 Tryz.f3 Rows.numberDaysSpec Rows.numberDaysRow = true := by kernel_rfl
theorem numberDays_fact7 : Go.Ev.jf7 Tryz.pinned.checked.prog 3 Tryz.f3 Rows.numberDaysSpec Rows.numberDaysRow = true := by kernel_rfl
theorem numberDays_fact8 : Go.Ev.jf8 Tryz.pinned.checked.prog 3 Tryz.f3 Rows.numberDaysSpec Rows.numberDaysRow = true := by kernel_rfl
theorem numberDays_fact9 : Go.Ev.jf9 Tryz.pinned.checked.prog 3 Tryz.f3 Rows.numberDaysSpec Rows.numberDaysRow = true := by kernel_rfl
theorem numberDays_fact10 : Go.Ev.jf10 Tryz.pinned.checked.prog 3 Tryz.f3 Rows.numberDaysSpec Rows.numberDaysRow = true := by kernel_rfl
theorem numberDays_fact11 : Go.Ev.jf11 Tryz.pinned.checked.prog 3 Tryz.f3 Rows.numberDaysSpec Rows.numberDaysRow = true := by kernel_rfl
theorem numberDays_fact12 : Go.Ev.jf12 Tryz.pinned.checked.prog 3 Tryz.f3 Rows.numberDaysSpec Rows.numberDaysRow = true := by kernel_rfl
theorem numberDays_fact13 : Go.Ev.jf13 Tryz.pinned.checked.prog 3 Tryz.f3 Rows.numberDaysSpec Rows.numberDaysRow = true := by kernel_rfl
theorem numberDays_fact14 : Go.Ev.jf14 Tryz.pinned.checked.prog 3 Tryz.f3 Rows.numberDaysSpec Rows.numberDaysRow = true := by kernel_rfl
theorem numberDays_fact15 : Go.Ev.jf15 Tryz.pinned.checked.prog 3 Tryz.f3 Rows.numberDaysSpec Rows.numberDaysRow = true := by kernel_rfl
theorem numberDays_fact16 : Go.Ev.jf16 Tryz.pinned.checked.prog 3 Tryz.f3 Rows.numberDaysSpec Rows.numberDaysRow = true := by kernel_rfl
theorem numberDays_fact17 : Go.Ev.jf17 Tryz.pinned.checked.prog 3 Tryz.f3 Rows.numberDaysSpec Rows.numberDaysRow = true := by kernel_rfl
theorem numberDays_fact18 : Go.Ev.jf18 Tryz.pinned.checked.prog 3 Tryz.f3 Rows.numberDaysSpec Rows.numberDaysRow = true := by kernel_rfl
theorem numberDays_fact19 : Go.Ev.jf19 Tryz.pinned.checked.prog 3 Tryz.f3 Rows.numberDaysSpec Rows.numberDaysRow = true := by kernel_rfl
theorem numberDays_fact20 : Go.Ev.jf20 Tryz.pinned.checked.prog 3 Tryz.f3 Rows.numberDaysSpec Rows.numberDaysRow = true := by kernel_rfl
theorem numberDays_fact21 : Go.Ev.jf21 Tryz.pinned.checked.prog 3 Tryz.f3 Rows.numberDaysSpec Rows.numberDaysRow = true := by kernel_rfl
theorem numberDays_fact22 : Go.Ev.jf22 Tryz.pinned.checked.prog 3 Tryz.f3 Rows.numberDaysSpec Rows.numberDaysRow = true := by kernel_rfl
theorem numberDays_fact23 : Go.Ev.jf23 Tryz.pinned.checked.prog 3 Tryz.f3 Rows.numberDaysSpec Rows.numberDaysRow = true := by kernel_rfl
theorem numberDays_fact24 : Go.Ev.jf24 Tryz.pinned.checked.prog 3 Tryz.f3 Rows.numberDaysSpec Rows.numberDaysRow = true := by kernel_rfl
theorem numberDays_fact25 : Go.Ev.jf25 Tryz.pinned.checked.prog 3 Tryz.f3 Rows.numberDaysSpec Rows.numberDaysRow = true := by kernel_rfl
theorem numberDays_fact26 : Go.Ev.jf26 Tryz.pinned.checked.prog 3 Tryz.f3 Rows.numberDaysSpec Rows.numberDaysRow = true := by kernel_rfl
theorem numberDays_fact27 : Go.Ev.jf27 Tryz.pinned.checked.prog 3 Tryz.f3 Rows.numberDaysSpec Rows.numberDaysRow = true := by kernel_rfl
theorem numberDays_fact28 : Go.Ev.jf28 Tryz.pinned.checked.prog 3 Tryz.f3 Rows.numberDaysSpec Rows.numberDaysRow = true := by kernel_rfl
theorem numberDays_fact29 : Go.Ev.jf29 Tryz.pinned.checked.prog 3 Tryz.f3 Rows.numberDaysSpec Rows.numberDaysRow = true := by kernel_rfl
theorem numberDays_fact30 : Go.Ev.jf30 Tryz.pinned.checked.prog 3 Tryz.f3 Rows.numberDaysSpec Rows.numberDaysRow = true := by kernel_rfl
theorem numberDays_fact31 : Go.Ev.jf31 Tryz.pinned.checked.prog 3 Tryz.f3 Rows.numberDaysSpec Rows.numberDaysRow = true := by kernel_rfl
theorem numberDays_facts : joinedFacts Tryz.pinned.checked.prog 3 Tryz.f3 Rows.numberDaysSpec Rows.numberDaysRow = true :=
  Go.Ev.joinedFacts_of (P := Tryz.pinned.checked.prog) (f := 3) (fn := Tryz.f3) (s := Rows.numberDaysSpec) (c := Rows.numberDaysRow) numberDays_fact0 numberDays_fact1 numberDays_fact2 numberDays_fact3 numberDays_fact4 numberDays_fact5 numberDays_fact6 numberDays_fact7 numberDays_fact8 numberDays_fact9 numberDays_fact10 numberDays_fact11 numberDays_fact12 numberDays_fact13 numberDays_fact14 numberDays_fact15 numberDays_fact16 numberDays_fact17 numberDays_fact18 numberDays_fact19 numberDays_fact20 numberDays_fact21 numberDays_fact22 numberDays_fact23 numberDays_fact24 numberDays_fact25 numberDays_fact26 numberDays_fact27 numberDays_fact28 numberDays_fact29 numberDays_fact30 numberDays_fact31
end Go.Proofs.YtdihaemeipdfgaaGreatDoor
