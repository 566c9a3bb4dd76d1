/- The closed facts of the row of FnmathDivides, one by one. Conditions: none. -/
import Derived.Test.YtgfoocnnidhepaaGreatDoorCards
import Derived.Test.YtgfoocnnidhepaaGreatDoorEvFacts
import Derived.ProofKit
import Derived.Lay
import Derived.SevenTiedAt
namespace Go.Proofs.YtgfoocnnidhepaaGreatDoor
open Go.ChangeShapes Go.WideShapes Go.ChangeAt Go.RowKit Go.ChangeMaps
theorem fnmathDivides_fact0 : Go.Ev.jf0 Tryz.pinned.checked.prog 3 Tryz.f3 Rows.fnmathDividesSpec Rows.fnmathDividesRow = true := by kernel_rfl
theorem fnmathDivides_fact1 : Go.Ev.jf1 Tryz.pinned.checked.prog 3 Tryz.f3 Rows.fnmathDividesSpec Rows.fnmathDividesRow = true := by kernel_rfl
theorem fnmathDivides_fact2 : Go.Ev.jf2 Tryz.pinned.checked.prog 3 Tryz.f3 Rows.fnmathDividesSpec Rows.fnmathDividesRow = true := by kernel_rfl
theorem fnmathDivides_fact3 : Go.Ev.jf3 Tryz.pinned.checked.prog 3 Tryz.f3 Rows.fnmathDividesSpec Rows.fnmathDividesRow = true := by kernel_rfl
theorem fnmathDivides_fact4 : Go.Ev.jf4 Tryz.pinned.checked.prog 3 Tryz.f3 Rows.fnmathDividesSpec Rows.fnmathDividesRow = true := by kernel_rfl
theorem fnmathDivides_fact5 : Go.Ev.jf5 Tryz.pinned.checked.prog 3 Tryz.f3 Rows.fnmathDividesSpec Rows.fnmathDividesRow = true := by kernel_rfl
theorem fnmathDivides_fact6 : Go.Ev.jf6 Tryz.pinned.checked.prog 3 Tryz.f3 Rows.fnmathDividesSpec Rows.fnmathDividesRow = true := by kernel_rfl
theorem fnmathDivides_fact7 : Go.Ev.jf7 Tryz.pinned.checked.prog 3 Tryz.f3 Rows.fnmathDividesSpec Rows.fnmathDividesRow = true := by kernel_rfl
theorem fnmathDivides_fact8 : Go.Ev.jf8 Tryz.pinned.checked.prog 3 Tryz.f3 Rows.fnmathDividesSpec Rows.fnmathDividesRow = true := by kernel_rfl
theorem fnmathDivides_fact9 : Go.Ev.jf9 Tryz.pinned.checked.prog 3 Tryz.f3 Rows.fnmathDividesSpec Rows.fnmathDividesRow = true := by kernel_rfl
theorem fnmathDivides_fact10 : Go.Ev.jf10 Tryz.pinned.checked.prog 3 Tryz.f3 Rows.fnmathDividesSpec Rows.fnmathDividesRow = true := by kernel_rfl
theorem fnmathDivides_fact11 : Go.Ev.jf11 Tryz.pinned.checked.prog 3 Tryz.f3 Rows.fnmathDividesSpec Rows.fnmathDividesRow = true := by kernel_rfl
theorem fnmathDivides_fact12 : Go.Ev.jf12 Tryz.pinned.checked.prog 3 Tryz.f3 Rows.fnmathDividesSpec Rows.fnmathDividesRow = true := by kernel_rfl
theorem fnmathDivides_fact13 : Go.Ev.jf13 Tryz.pinned.checked.prog 3 Tryz.f3 Rows.fnmathDividesSpec Rows.fnmathDividesRow = true := by kernel_rfl
theorem fnmathDivides_fact14 : Go.Ev.jf14 Tryz.pinned.checked.prog 3 Tryz.f3 Rows.fnmathDividesSpec Rows.fnmathDividesRow = true := by kernel_rfl
theorem fnmathDivides_fact15 : Go.Ev.jf15 Tryz.pinned.checked.prog 3 Tryz.f3 Rows.fnmathDividesSpec Rows.fnmathDividesRow = true := by kernel_rfl
theorem fnmathDivides_fact16 : Go.Ev.jf16 Tryz.pinned.checked.prog 3 Tryz.f3 Rows.fnmathDividesSpec Rows.fnmathDividesRow = true := by kernel_rfl
theorem fnmathDivides_fact17 : Go.Ev.jf17 Tryz.pinned.checked.prog 3 Tryz.f3 Rows.fnmathDividesSpec Rows.fnmathDividesRow = true := by kernel_rfl
theorem fnmathDivides_fact18 : Go.Ev.jf18 Tryz.pinned.checked.prog 3 Tryz.f3 Rows.fnmathDividesSpec Rows.fnmathDividesRow = true := by kernel_rfl
theorem fnmathDivides_fact19 : Go.Ev.jf19 Tryz.pinned.checked.prog 3 Tryz.f3 Rows.fnmathDividesSpec Rows.fnmathDividesRow = true := by kernel_rfl
theorem fnmathDivides_fact20 : Go.Ev.jf20 Tryz.pinned.checked.prog 3 Tryz.f3 Rows.fnmathDividesSpec Rows.fnmathDividesRow = true := by kernel_rfl
theorem fnmathDivides_fact21 : Go.Ev.jf21 Tryz.pinned.checked.prog 3 Tryz.f3 Rows.fnmathDividesSpec Rows.fnmathDividesRow = true := by kernel_rfl
theorem fnmathDivides_fact22 : Go.Ev.jf22 Tryz.pinned.checked.prog 3 Tryz.f3 Rows.fnmathDividesSpec Rows.fnmathDividesRow = true := by kernel_rfl
theorem fnmathDivides_fact23 : Go.Ev.jf23 Tryz.pinned.checked.prog 3 Tryz.f3 Rows.fnmathDividesSpec Rows.fnmathDividesRow = true := by kernel_rfl
theorem fnmathDivides_fact24 : Go.Ev.jf24 Tryz.pinned.checked.prog 3 Tryz.f3 Rows.fnmathDividesSpec Rows.fnmathDividesRow = true := by kernel_rfl
theorem fnmathDivides_fact25 : Go.Ev.jf25 Tryz.pinned.checked.prog 3 Tryz.f3 Rows.fnmathDividesSpec Rows.fnmathDividesRow = true := by kernel_rfl
theorem fnmathDivides_fact26 : Go.Ev.jf26 Tryz.pinned.checked.prog 3 Tryz.f3 Rows.fnmathDividesSpec Rows.fnmathDividesRow = true := by kernel_rfl
theorem fnmathDivides_fact27 : Go.Ev.jf27 Tryz.pinned.checked.prog 3 Tryz.f3 Rows.fnmathDividesSpec Rows.fnmathDividesRow = true := by kernel_rfl
theorem fnmathDivides_fact28 : Go.Ev.jf28 Tryz.pinned.checked.prog 3 Tryz.f3 Rows.fnmathDividesSpec Rows.fnmathDividesRow = true := by kernel_rfl
theorem fnmathDivides_fact29 : Go.Ev.jf29 Tryz.pinned.checked.prog 3 Tryz.f3 Rows.fnmathDividesSpec Rows.fnmathDividesRow = true := by kernel_rfl
theorem fnmathDivides_fact30 : Go.Ev.jf30 Tryz.pinned.checked.prog 3 Tryz.f3 Rows.fnmathDividesSpec Rows.fnmathDividesRow = true := by kernel_rfl
theorem fnmathDivides_fact31 : Go.Ev.jf31 Tryz.pinned.checked.prog 3 Tryz.f3 Rows.fnmathDividesSpec Rows.fnmathDividesRow = true := by kernel_rfl
theorem fnmathDivides_facts : joinedFacts Tryz.pinned.checked.prog 3 Tryz.f3 Rows.fnmathDividesSpec Rows.fnmathDividesRow = true :=
  Go.Ev.joinedFacts_of (P := Tryz.pinned.checked.prog) (f := 3) (fn := Tryz.f3) (s := Rows.fnmathDividesSpec) (c := Rows.fnmathDividesRow) fnmathDivides_fact0 fnmathDivides_fact1 fnmathDivides_fact2 fnmathDivides_fact3 fnmathDivides_fact4 fnmathDivides_fact5 fnmathDivides_fact6 fnmathDivides_fact7 fnmathDivides_fact8 fnmathDivides_fact9 fnmathDivides_fact10 fnmathDivides_fact11 fnmathDivides_fact12 fnmathDivides_fact13 fnmathDivides_fact14 fnmathDivides_fact15 fnmathDivides_fact16 fnmathDivides_fact17 fnmathDivides_fact18 fnmathDivides_fact19 fnmathDivides_fact20 fnmathDivides_fact21 fnmathDivides_fact22 fnmathDivides_fact23 fnmathDivides_fact24 fnmathDivides_fact25 fnmathDivides_fact26 fnmathDivides_fact27 fnmathDivides_fact28 fnmathDivides_fact29 fnmathDivides_fact30 fnmathDivides_fact31
end Go.Proofs.YtgfoocnnidhepaaGreatDoor
