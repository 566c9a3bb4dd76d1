/- The closed facts of the row of FnlogicNames, one by one. Conditions: none. -/
import Derived.Test.YtlpbimookmhjbaaGreatDoorCards
import Derived.Test.YtlpbimookmhjbaaGreatDoorEvFacts
import Derived.ProofKit
import Derived.Lay
import Derived.SevenTiedAt
namespace Go.Proofs.YtlpbimookmhjbaaGreatDoor
open Go.ChangeShapes Go.WideShapes Go.ChangeAt Go.RowKit Go.ChangeMaps

theorem fnlogicNames_fact0 : Go.Ev.jf0 Tryz.pinned.checked.prog 3 Tryz.f3 Rows.fnlogicNamesSpec Rows.fnlogicNamesRow = true := by kernel_rfl
theorem fnlogicNames_fact1 : Go.Ev.jf1 Tryz.pinned.checked.prog 3 Tryz.f3 Rows.fnlogicNamesSpec Rows.fnlogicNamesRow = true := by kernel_rfl
theorem fnlogicNames_fact2 : Go.Ev.jf2 Tryz.pinned.checked.prog 3 Tryz.f3 Rows.fnlogicNamesSpec Rows.fnlogicNamesRow = true := by kernel_rfl
theorem fnlogicNames_fact3 : Go.Ev.jf3 Tryz.pinned.checked.prog 3 Tryz.f3 Rows.fnlogicNamesSpec Rows.fnlogicNamesRow = true := by kernel_rfl
theorem fnlogicNames_fact4 : Go.Ev.jf4 Tryz.pinned.checked.prog 3 Tryz.f3 Rows.fnlogicNamesSpec Rows.fnlogicNamesRow = true := by kernel_rfl
theorem fnlogicNames_fact5 : Go.Ev.jf5 Tryz.pinned.checked.prog 3 Tryz.f3 Rows.fnlogicNamesSpec Rows.fnlogicNamesRow = true := by kernel_rfl
theorem fnlogicNames_fact6 : Go.Ev.jf6 Tryz.pinned.checked.prog 3 Tryz.f3 Rows.fnlogicNamesSpec Rows.fnlogicNamesRow = true := by kernel_rfl
theorem fnlogicNames_fact7 : Go.Ev.jf7 Tryz.pinned.checked.prog 3 Tryz.f3 Rows.fnlogicNamesSpec Rows.fnlogicNamesRow = true := by kernel_rfl
theorem fnlogicNames_fact8 : Go.Ev.jf8 Tryz.pinned.checked.prog 3 Tryz.f3 Rows.fnlogicNamesSpec Rows.fnlogicNamesRow = true := by kernel_rfl
theorem fnlogicNames_fact9 : Go.Ev.jf9 Tryz.pinned.checked.prog 3 Tryz.f3 Rows.fnlogicNamesSpec Rows.fnlogicNamesRow = true := by kernel_rfl
theorem fnlogicNames_fact10 : Go.Ev.jf10 Tryz.pinned.checked.prog 3 Tryz.f3 Rows.fnlogicNamesSpec Rows.fnlogicNamesRow = true := by kernel_rfl
theorem fnlogicNames_fact11 : Go.Ev.jf11 Tryz.pinned.checked.prog 3 Tryz.f3 Rows.fnlogicNamesSpec Rows.fnlogicNamesRow = true := by kernel_rfl
theorem fnlogicNames_fact12 : Go.Ev.jf12 Tryz.pinned.checked.prog 3 Tryz.f3 Rows.fnlogicNamesSpec Rows.fnlogicNamesRow = true := by kernel_rfl
theorem fnlogicNames_fact13 : Go.Ev.jf13 Tryz.pinned.checked.prog 3 Tryz.f3 Rows.fnlogicNamesSpec Rows.fnlogicNamesRow = true := by kernel_rfl
theorem fnlogicNames_fact14 : Go.Ev.jf14 Tryz.pinned.checked.prog 3 Tryz.f3 Rows.fnlogicNamesSpec Rows.fnlogicNamesRow = true := by kernel_rfl
theorem fnlogicNames_fact15 : Go.Ev.jf15 Tryz.pinned.checked.prog 3 Tryz.f3 Rows.fnlogicNamesSpec Rows.fnlogicNamesRow = true := by kernel_rfl
theorem fnlogicNames_fact16 : Go.Ev.jf16 Tryz.pinned.checked.prog 3 Tryz.f3 Rows.fnlogicNamesSpec Rows.fnlogicNamesRow = true := by kernel_rfl
theorem fnlogicNames_fact17 : Go.Ev.jf17 Tryz.pinned.checked.prog 3 Tryz.f3 Rows.fnlogicNamesSpec Rows.fnlogicNamesRow = true := by kernel_rfl
theorem fnlogicNames_fact18 : Go.Ev.jf18 Tryz.pinned.checked.prog 3 Tryz.f3 Rows.fnlogicNamesSpec Rows.fnlogicNamesRow = true := by kernel_rfl
theorem fnlogicNames_fact19 : Go.Ev.jf19 Tryz.pinned.checked.prog 3 Tryz.f3 Rows.fnlogicNamesSpec Rows.fnlogicNamesRow = true := by kernel_rfl
theorem fnlogicNames_fact20 : Go.Ev.jf20 Tryz.pinned.checked.prog 3 Tryz.f3 Rows.fnlogicNamesSpec Rows.fnlogicNamesRow = true := by kernel_rfl
theorem fnlogicNames_fact21 : Go.Ev.jf21 Tryz.pinned.checked.prog 3 Tryz.f3 Rows.fnlogicNamesSpec Rows.fnlogicNamesRow = true := by kernel_rfl
theorem fnlogicNames_fact22 : Go.Ev.jf22 Tryz.pinned.checked.prog 3 Tryz.f3 Rows.fnlogicNamesSpec Rows.fnlogicNamesRow = true := by kernel_rfl
theorem fnlogicNames_fact23 : Go.Ev.jf23 Tryz.pinned.checked.prog 3 Tryz.f3 Rows.fnlogicNamesSpec Rows.fnlogicNamesRow = true := by kernel_rfl
theorem fnlogicNames_fact24 : Go.Ev.jf24 Tryz.pinned.checked.prog 3 Tryz.f3 Rows.fnlogicNamesSpec Rows.fnlogicNamesRow = true := by kernel_rfl
theorem fnlogicNames_fact25 : Go.Ev.jf25 Tryz.pinned.checked.prog 3 Tryz.f3 Rows.fnlogicNamesSpec Rows.fnlogicNamesRow = true := by kernel_rfl
theorem fnlogicNames_fact26 : Go.Ev.jf26 Tryz.pinned.checked.prog 3 Tryz.f3 Rows.fnlogicNamesSpec Rows.fnlogicNamesRow = true := by kernel_rfl
theorem fnlogicNames_fact27 : Go.Ev.jf27 Tryz.pinned.checked.prog 3 Tryz.f3 Rows.fnlogicNamesSpec Rows.fnlogicNamesRow = true := by kernel_rfl
theorem fnlogicNames_fact28 : Go.Ev.jf28 Tryz.pinned.checked.prog 3 Tryz.f3 Rows.fnlogicNamesSpec Rows.fnlogicNamesRow = true := by kernel_rfl
theorem fnlogicNames_fact29 : Go.Ev.jf29 Tryz.pinned.checked.prog 3 Tryz.f3 Rows.fnlogicNamesSpec Rows.fnlogicNamesRow = true := by kernel_rfl
theorem fnlogicNames_fact30 : Go.Ev.jf30 Tryz.pinned.checked.prog 3 Tryz.f3 Rows.fnlogicNamesSpec Rows.fnlogicNamesRow = true := by kernel_rfl
theorem fnlogicNames_fact31 : Go.Ev.jf31 Tryz.pinned.checked.prog 3 Tryz.f3 Rows.fnlogicNamesSpec Rows.fnlogicNamesRow = true := by kernel_rfl
theorem fnlogicNames_facts : joinedFacts Tryz.pinned.checked.prog 3 Tryz.f3 Rows.fnlogicNamesSpec Rows.fnlogicNamesRow = true :=
  Go.Ev.joinedFacts_of (P := Tryz.pinned.checked.prog) (f := 3) (fn := Tryz.f3) (s := Rows.fnlogicNamesSpec) (c := Rows.fnlogicNamesRow) fnlogicNames_fact0 fnlogicNames_fact1 fnlogicNames_fact2 fnlogicNames_fact3 fnlogicNames_fact4 fnlogicNames_fact5 fnlogicNames_fact6 fnlogicNames_fact7 fnlogicNames_fact8 fnlogicNames_fact9 fnlogicNames_fact10 fnlogicNames_fact11 fnlogicNames_fact12 fnlogicNames_fact13 fnlogicNames_fact14 fnlogicNames_fact15 fnlogicNames_fact16 fnlogicNames_fact17 fnlogicNames_fact18 fnlogicNames_fact19 fnlogicNames_fact20 fnlogicNames_fact21 fnlogicNames_fact22 fnlogicNames_fact23 fnlogicNames_fact24 fnlogicNames_fact25 fnlogicNames_fact26 fnlogicNames_fact27 fnlogicNames_fact28 fnlogicNames_fact29 fnlogicNames_fact30 fnlogicNames_fact31
end Go.Proofs.YtlpbimookmhjbaaGreatDoor
