/- The closed facts of the row of FnlogicBack, one by one. Conditions: none. -/
import Derived.Test.YtlpbimookmhjbaaGreatDoorCards
import Derived.Test.YtlpbimookmhjbaaGreatDoorEvFacts
import Derived.ProofKit
import Derived.Lay
import Derived.SevenTiedAt
namespace Go.Proofs.YtlpbimookmhjbaaGreatDoor
open Go.ChangeShapes Go.WideShapes Go.ChangeAt Go.RowKit Go.ChangeMaps
theorem fnlogicBack_fact0 : Go.Ev.jf0 Tryz.pinned.checked.prog 5 Tryz.f5 Rows.fnlogicBackSpec Rows.fnlogicBackRow = true := by kernel_rfl
theorem fnlogicBack_fact1 : Go.Ev.jf1 Tryz.pinned.checked.prog 5 Tryz.f5 Rows.fnlogicBackSpec Rows.fnlogicBackRow = true := by kernel_rfl
theorem fnlogicBack_fact2 : Go.Ev.jf2 Tryz.pinned.checked.prog 5 Tryz.f5 Rows.fnlogicBackSpec Rows.fnlogicBackRow = true := by kernel_rfl
theorem fnlogicBack_fact3 : Go.Ev.jf3 Tryz.pinned.checked.prog 5 Tryz.f5 Rows.fnlogicBackSpec Rows.fnlogicBackRow = true := by kernel_rfl
theorem fnlogicBack_fact4 : Go.Ev.jf4 Tryz.pinned.checked.prog 5 Tryz.f5 Rows.fnlogicBackSpec Rows.fnlogicBackRow = true := by kernel_rfl
theorem fnlogicBack_fact5 : Go.Ev.jf5 Tryz.pinned.checked.prog 5 Tryz.f5 Rows.fnlogicBackSpec Rows.fnlogicBackRow = true := by kernel_rfl
theorem fnlogicBack_fact6 : Go.Ev.jf6 Tryz.pinned.checked.prog 5 Tryz.f5 Rows.fnlogicBackSpec Rows.fnlogicBackRow = true := by kernel_rfl
theorem fnlogicBack_fact7 : Go.Ev.jf7 Tryz.pinned.checked.prog 5 Tryz.f5 Rows.fnlogicBackSpec Rows.fnlogicBackRow = true := by kernel_rfl
theorem fnlogicBack_fact8 : Go.Ev.jf8 Tryz.pinned.checked.prog 5 Tryz.f5 Rows.fnlogicBackSpec Rows.fnlogicBackRow = true := by kernel_rfl
theorem fnlogicBack_fact9 : Go.Ev.jf9 Tryz.pinned.checked.prog 5 Tryz.f5 Rows.fnlogicBackSpec Rows.fnlogicBackRow = true := by kernel_rfl
theorem fnlogicBack_fact10 : Go.Ev.jf10 Tryz.pinned.checked.prog 5 Tryz.f5 Rows.fnlogicBackSpec Rows.fnlogicBackRow = true := by kernel_rfl
theorem fnlogicBack_fact11 : Go.Ev.jf11 Tryz.pinned.checked.prog 5 Tryz.f5 Rows.fnlogicBackSpec Rows.fnlogicBackRow = true := by kernel_rfl
theorem fnlogicBack_fact12 : Go.Ev.jf12 Tryz.pinned.checked.prog 5 Tryz.f5 Rows.fnlogicBackSpec Rows.fnlogicBackRow = true := by kernel_rfl
theorem fnlogicBack_fact13 : Go.Ev.jf13 Tryz.pinned.checked.prog 5 Tryz.f5 Rows.fnlogicBackSpec Rows.fnlogicBackRow = true := by kernel_rfl
theorem fnlogicBack_fact14 : Go.Ev.jf14 Tryz.pinned.checked.prog 5 Tryz.f5 Rows.fnlogicBackSpec Rows.fnlogicBackRow = true := by kernel_rfl
theorem fnlogicBack_fact15 : Go.Ev.jf15 Tryz.pinned.checked.prog 5 Tryz.f5 Rows.fnlogicBackSpec Rows.fnlogicBackRow = true := by kernel_rfl
theorem fnlogicBack_fact16 : Go.Ev.jf16 Tryz.pinned.checked.prog 5 Tryz.f5 Rows.fnlogicBackSpec Rows.fnlogicBackRow = true := by kernel_rfl
theorem fnlogicBack_fact17 : Go.Ev.jf17 Tryz.pinned.checked.prog 5 Tryz.f5 Rows.fnlogicBackSpec Rows.fnlogicBackRow = true := by kernel_rfl
theorem fnlogicBack_fact18 : Go.Ev.jf18 Tryz.pinned.checked.prog 5 Tryz.f5 Rows.fnlogicBackSpec Rows.fnlogicBackRow = true := by kernel_rfl
theorem fnlogicBack_fact19 : Go.Ev.jf19 Tryz.pinned.checked.prog 5 Tryz.f5 Rows.fnlogicBackSpec Rows.fnlogicBackRow = true := by kernel_rfl
theorem fnlogicBack_fact20 : Go.Ev.jf20 Tryz.pinned.checked.prog 5 Tryz.f5 Rows.fnlogicBackSpec Rows.fnlogicBackRow = true := by kernel_rfl
theorem fnlogicBack_fact21 : Go.Ev.jf21 Tryz.pinned.checked.prog 5 Tryz.f5 Rows.fnlogicBackSpec Rows.fnlogicBackRow = true := by kernel_rfl
theorem fnlogicBack_fact22 : Go.Ev.jf22 Tryz.pinned.checked.prog 5 Tryz.f5 Rows.fnlogicBackSpec Rows.fnlogicBackRow = true := by kernel_rfl
theorem fnlogicBack_fact23 : Go.Ev.jf23 Tryz.pinned.checked.prog 5 Tryz.f5 Rows.fnlogicBackSpec Rows.fnlogicBackRow = true := by kernel_rfl
theorem fnlogicBack_fact24 : Go.Ev.jf24 Tryz.pinned.checked.prog 5 Tryz.f5 Rows.fnlogicBackSpec Rows.fnlogicBackRow = true := by kernel_rfl
theorem fnlogicBack_fact25 : Go.Ev.jf25 Tryz.pinned.checked.prog 5 Tryz.f5 Rows.fnlogicBackSpec Rows.fnlogicBackRow = true := by kernel_rfl
theorem fnlogicBack_fact26 : Go.Ev.jf26 Tryz.pinned.checked.prog 5 Tryz.f5 Rows.fnlogicBackSpec Rows.fnlogicBackRow = true := by kernel_rfl
theorem fnlogicBack_fact27 : Go.Ev.jf27 Tryz.pinned.checked.prog 5 Tryz.f5 Rows.fnlogicBackSpec Rows.fnlogicBackRow = true := by kernel_rfl
theorem fnlogicBack_fact28 : Go.Ev.jf28 Tryz.pinned.checked.prog 5 Tryz.f5 Rows.fnlogicBackSpec Rows.fnlogicBackRow = true := by kernel_rfl
theorem fnlogicBack_fact29 : Go.Ev.jf29 Tryz.pinned.checked.prog 5 Tryz.f5 Rows.fnlogicBackSpec Rows.fnlogicBackRow = true := by kernel_rfl
theorem fnlogicBack_fact30 : Go.Ev.jf30 Tryz.pinned.checked.prog 5 Tryz.f5 Rows.fnlogicBackSpec Rows.fnlogicBackRow = true := by kernel_rfl
theorem fnlogicBack_fact31 : Go.Ev.jf31 Tryz.pinned.checked.prog 5 Tryz.f5 Rows.fnlogicBackSpec Rows.fnlogicBackRow = true := by kernel_rfl
theorem fnlogicBack_facts : joinedFacts Tryz.pinned.checked.prog 5 Tryz.f5 Rows.fnlogicBackSpec Rows.fnlogicBackRow = true :=
  Go.Ev.joinedFacts_of (P := Tryz.pinned.checked.prog) (f := 5) (fn := Tryz.f5) (s := Rows.fnlogicBackSpec) (c := Rows.fnlogicBackRow) fnlogicBack_fact0 fnlogicBack_fact1 fnlogicBack_fact2 fnlogicBack_fact3 fnlogicBack_fact4 fnlogicBack_fact5 fnlogicBack_fact6 fnlogicBack_fact7 fnlogicBack_fact8 fnlogicBack_fact9 fnlogicBack_fact10 fnlogicBack_fact11 fnlogicBack_fact12 fnlogicBack_fact13 fnlogicBack_fact14 fnlogicBack_fact15 fnlogicBack_fact16 fnlogicBack_fact17 fnlogicBack_fact18 fnlogicBack_fact19 fnlogicBack_fact20 fnlogicBack_fact21 fnlogicBack_fact22 fnlogicBack_fact23 fnlogicBack_fact24 fnlogicBack_fact25 fnlogicBack_fact26 fnlogicBack_fact27 fnlogicBack_fact28 fnlogicBack_fact29 fnlogicBack_fact30 fnlogicBack_fact31
end Go.Proofs.YtlpbimookmhjbaaGreatDoor
