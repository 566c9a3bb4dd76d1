/- The closed facts of the row of ValueMakes, one by one. Conditions: none. -/
import Derived.Test.YtdihaemeipdfgaaGreatDoorCards
import Derived.Test.YtdihaemeipdfgaaGreatDoorEvFacts
import Derived.ProofKit
import Derived.Lay
import Derived.SevenTiedAt
namespace Go.Proofs.YtdihaemeipdfgaaGreatDoor
open Go.ChangeShapes Go.WideShapes Go.ChangeAt Go.RowKit Go.ChangeMaps

theorem valueMakes_fact0 : Go.Ev.jf0 Tryz.pinned.checked.prog 5 Tryz.f5 Rows.valueMakesSpec Rows.valueMakesRow = true := by kernel_rfl
theorem valueMakes_fact1 : Go.Ev.jf1 Tryz.pinned.checked.prog 5 Tryz.f5 Rows.valueMakesSpec Rows.valueMakesRow = true := by kernel_rfl
theorem valueMakes_fact2 : Go.Ev.jf2 Tryz.pinned.checked.prog 5 Tryz.f5 Rows.valueMakesSpec Rows.valueMakesRow = true := by kernel_rfl
theorem valueMakes_fact3 : Go.Ev.jf3 Tryz.pinned.checked.prog 5 Tryz.f5 Rows.valueMakesSpec Rows.valueMakesRow = true := by kernel_rfl
theorem valueMakes_fact4 : Go.Ev.jf4 Tryz.pinned.checked.prog 5 Tryz.f5 Rows.valueMakesSpec Rows.valueMakesRow = true := by kernel_rfl
theorem valueMakes_fact5 : Go.Ev.jf5 Tryz.pinned.checked.prog 5 Tryz.f5 Rows.valueMakesSpec Rows.valueMakesRow = true := by kernel_rfl
theorem valueMakes_fact6 : Go.Ev.jf6 Tryz.pinned.checked.prog 5 Tryz.f5 Rows.valueMakesSpec Rows.valueMakesRow = true := by kernel_rfl
theorem valueMakes_fact7 : Go.Ev.jf7 Tryz.pinned.checked.prog 5 Tryz.f5 Rows.valueMakesSpec Rows.valueMakesRow = true := by kernel_rfl
theorem valueMakes_fact8 : Go.Ev.jf8 Tryz.pinned.checked.prog 5 Tryz.f5 Rows.valueMakesSpec Rows.valueMakesRow = true := by kernel_rfl
theorem valueMakes_fact9 : Go.Ev.jf9 Tryz.pinned.checked.prog 5 Tryz.f5 Rows.valueMakesSpec Rows.valueMakesRow = true := by kernel_rfl
theorem valueMakes_fact10 : Go.Ev.jf10 Tryz.pinned.checked.prog 5 Tryz.f5 Rows.valueMakesSpec Rows.valueMakesRow = true := by kernel_rfl
theorem valueMakes_fact11 : Go.Ev.jf11 Tryz.pinned.checked.prog 5 Tryz.f5 Rows.valueMakesSpec Rows.valueMakesRow = true := by kernel_rfl
theorem valueMakes_fact12 : Go.Ev.jf12 Tryz.pinned.checked.prog 5 Tryz.f5 Rows.valueMakesSpec Rows.valueMakesRow = true := by kernel_rfl
theorem valueMakes_fact13 : Go.Ev.jf13 Tryz.pinned.checked.prog 5 Tryz.f5 Rows.valueMakesSpec Rows.valueMakesRow = true := by kernel_rfl
theorem valueMakes_fact14 : Go.Ev.jf14 Tryz.pinned.checked.prog 5 Tryz.f5 Rows.valueMakesSpec Rows.valueMakesRow = true := by kernel_rfl
theorem valueMakes_fact15 : Go.Ev.jf15 Tryz.pinned.checked.prog 5 Tryz.f5 Rows.valueMakesSpec Rows.valueMakesRow = true := by kernel_rfl
theorem valueMakes_fact16 : Go.Ev.jf16 Tryz.pinned.checked.prog 5 Tryz.f5 Rows.valueMakesSpec Rows.valueMakesRow = true := by kernel_rfl
theorem valueMakes_fact17 : Go.Ev.jf17 Tryz.pinned.checked.prog 5 Tryz.f5 Rows.valueMakesSpec Rows.valueMakesRow = true := by kernel_rfl
theorem valueMakes_fact18 : Go.Ev.jf18 Tryz.pinned.checked.prog 5 Tryz.f5 Rows.valueMakesSpec Rows.valueMakesRow = true := by kernel_rfl
theorem valueMakes_fact19 : Go.Ev.jf19 Tryz.pinned.checked.prog 5 Tryz.f5 Rows.valueMakesSpec Rows.valueMakesRow = true := by kernel_rfl
theorem valueMakes_fact20 : Go.Ev.jf20 Tryz.pinned.checked.prog 5 Tryz.f5 Rows.valueMakesSpec Rows.valueMakesRow = true := by kernel_rfl
theorem valueMakes_fact21 : Go.Ev.jf21 Tryz.pinned.checked.prog 5 Tryz.f5 Rows.valueMakesSpec Rows.valueMakesRow = true := by kernel_rfl
theorem valueMakes_fact22 : Go.Ev.jf22 Tryz.pinned.checked.prog 5 Tryz.f5 Rows.valueMakesSpec Rows.valueMakesRow = true := by kernel_rfl
theorem valueMakes_fact23 : Go.Ev.jf23 Tryz.pinned.checked.prog 5 Tryz.f5 Rows.valueMakesSpec Rows.valueMakesRow = true := by kernel_rfl
theorem valueMakes_fact24 : Go.Ev.jf24 Tryz.pinned.checked.prog 5 Tryz.f5 Rows.valueMakesSpec Rows.valueMakesRow = true := by kernel_rfl
theorem valueMakes_fact25 : Go.Ev.jf25 Tryz.pinned.checked.prog 5 Tryz.f5 Rows.valueMakesSpec Rows.valueMakesRow = true := by kernel_rfl
theorem valueMakes_fact26 : Go.Ev.jf26 Tryz.pinned.checked.prog 5 Tryz.f5 Rows.valueMakesSpec Rows.valueMakesRow = true := by kernel_rfl
theorem valueMakes_fact27 : Go.Ev.jf27 Tryz.pinned.checked.prog 5 Tryz.f5 Rows.valueMakesSpec Rows.valueMakesRow = true := by kernel_rfl
theorem valueMakes_fact28 : Go.Ev.jf28 Tryz.pinned.checked.prog 5 Tryz.f5 Rows.valueMakesSpec Rows.valueMakesRow = true := by kernel_rfl
theorem valueMakes_fact29 : Go.Ev.jf29 Tryz.pinned.checked.prog 5 Tryz.f5 Rows.valueMakesSpec Rows.valueMakesRow = true := by kernel_rfl
theorem valueMakes_fact30 : Go.Ev.jf30 Tryz.pinned.checked.prog 5 Tryz.f5 Rows.valueMakesSpec Rows.valueMakesRow = true := by kernel_rfl
theorem valueMakes_fact31 : Go.Ev.jf31 Tryz.pinned.checked.prog 5 Tryz.f5 Rows.valueMakesSpec Rows.valueMakesRow = true := by kernel_rfl
theorem valueMakes_facts : joinedFacts Tryz.pinned.checked.prog 5 Tryz.f5 Rows.valueMakesSpec Rows.valueMakesRow = true :=
  Go.Ev.joinedFacts_of (P := Tryz.pinned.checked.prog) (f := 5) (fn := Tryz.f5) (s := Rows.valueMakesSpec) (c := Rows.valueMakesRow) valueMakes_fact0 valueMakes_fact1 valueMakes_fact2 valueMakes_fact3 valueMakes_fact4 valueMakes_fact5 valueMakes_fact6 valueMakes_fact7 valueMakes_fact8 valueMakes_fact9 valueMakes_fact10 valueMakes_fact11 valueMakes_fact12 valueMakes_fact13 valueMakes_fact14 valueMakes_fact15 valueMakes_fact16 valueMakes_fact17 valueMakes_fact18 valueMakes_fact19 valueMakes_fact20 valueMakes_fact21 valueMakes_fact22 valueMakes_fact23 valueMakes_fact24 valueMakes_fact25 valueMakes_fact26 valueMakes_fact27 valueMakes_fact28 valueMakes_fact29 valueMakes_fact30 valueMakes_fact31
end Go.Proofs.YtdihaemeipdfgaaGreatDoor
