/- The closed facts of the row of FnmathBases, one by one. Conditions: none. -/
import Derived.Test.YtgfoocnnidhepaaGreatDoorCards
import Derived.Test.YtgfoocnnidhepaaGreatDoorEvFacts
import Derived.ProofKit
import Derived.Lay
import Derived.SevenTiedAt
namespace Go.Proofs.YtgfoocnnidhepaaGreatDoor
open Go.ChangeShapes Go.WideShapes Go.ChangeAt Go.RowKit Go.ChangeMaps
theorem fnmathBases_fact0 : Go.Ev.jf0 Tryz.pinned.checked.prog 6 Tryz.f6 Rows.fnmathBasesSpec Rows.fnmathBasesRow = true := by kernel_rfl
theorem fnmathBases_fact1 : Go.Ev.jf1 Tryz.pinned.checked.prog 6 Tryz.f6 Rows.fnmathBasesSpec Rows.fnmathBasesRow = true := by kernel_rfl
theorem fnmathBases_fact2 : Go.Ev.jf2 Tryz.pinned.checked.prog 6 Tryz.f6 Rows.fnmathBasesSpec Rows.fnmathBasesRow = true := by kernel_rfl
theorem fnmathBases_fact3 : Go.Ev.jf3 Tryz.pinned.checked.prog 6 Tryz.f6 Rows.fnmathBasesSpec Rows.fnmathBasesRow = true := by kernel_rfl
theorem fnmathBases_fact4 : Go.Ev.jf4 Tryz.pinned.checked.prog 6 Tryz.f6 Rows.fnmathBasesSpec Rows.fnmathBasesRow = true := by kernel_rfl
theorem fnmathBases_fact5 : Go.Ev.jf5 Tryz.pinned.checked.prog 6 Tryz.f6 Rows.fnmathBasesSpec Rows.fnmathBasesRow = true := by kernel_rfl
theorem fnmathBases_fact6 : Go.Ev.jf6 Tryz.pinned.checked.prog 6 Tryz.f6 Rows.fnmathBasesSpec Rows.fnmathBasesRow = true := by kernel_rfl
theorem fnmathBases_fact7 : Go.Ev.jf7 Tryz.pinned.checked.prog 6 Tryz.f6 Rows.fnmathBasesSpec Rows.fnmathBasesRow = true := by kernel_rfl
theorem fnmathBases_fact8 : Go.Ev.jf8 Tryz.pinned.checked.prog 6 Tryz.f6 Rows.fnmathBasesSpec Rows.fnmathBasesRow = true := by kernel_rfl
theorem fnmathBases_fact9 : Go.Ev.jf9 Tryz.pinned.checked.prog 6 Tryz.f6 Rows.fnmathBasesSpec Rows.fnmathBasesRow = true := by kernel_rfl
theorem fnmathBases_fact10 : Go.Ev.jf10 Tryz.pinned.checked.prog 6 Tryz.f6 Rows.fnmathBasesSpec Rows.fnmathBasesRow = true := by kernel_rfl
theorem fnmathBases_fact11 : Go.Ev.jf11 Tryz.pinned.checked.prog 6 Tryz.f6 Rows.fnmathBasesSpec Rows.fnmathBasesRow = true := by kernel_rfl
theorem fnmathBases_fact12 : Go.Ev.jf12 Tryz.pinned.checked.prog 6 Tryz.f6 Rows.fnmathBasesSpec Rows.fnmathBasesRow = true := by kernel_rfl
theorem fnmathBases_fact13 : Go.Ev.jf13 Tryz.pinned.checked.prog 6 Tryz.f6 Rows.fnmathBasesSpec Rows.fnmathBasesRow = true := by kernel_rfl
theorem fnmathBases_fact14 : Go.Ev.jf14 Tryz.pinned.checked.prog 6 Tryz.f6 Rows.fnmathBasesSpec Rows.fnmathBasesRow = true := by kernel_rfl
theorem fnmathBases_fact15 : Go.Ev.jf15 Tryz.pinned.checked.prog 6 Tryz.f6 Rows.fnmathBasesSpec Rows.fnmathBasesRow = true := by kernel_rfl
theorem fnmathBases_fact16 : Go.Ev.jf16 Tryz.pinned.checked.prog 6 Tryz.f6 Rows.fnmathBasesSpec Rows.fnmathBasesRow = true := by kernel_rfl
theorem fnmathBases_fact17 : Go.Ev.jf17 Tryz.pinned.checked.prog 6 Tryz.f6 Rows.fnmathBasesSpec Rows.fnmathBasesRow = true := by kernel_rfl
theorem fnmathBases_fact18 : Go.Ev.jf18 Tryz.pinned.checked.prog 6 Tryz.f6 Rows.fnmathBasesSpec Rows.fnmathBasesRow = true := by kernel_rfl
theorem fnmathBases_fact19 : Go.Ev.jf19 Tryz.pinned.checked.prog 6 Tryz.f6 Rows.fnmathBasesSpec Rows.fnmathBasesRow = true := by kernel_rfl
theorem fnmathBases_fact20 : Go.Ev.jf20 Tryz.pinned.checked.prog 6 Tryz.f6 Rows.fnmathBasesSpec Rows.fnmathBasesRow = true := by kernel_rfl
theorem fnmathBases_fact21 : Go.Ev.jf21 Tryz.pinned.checked.prog 6 Tryz.f6 Rows.fnmathBasesSpec Rows.fnmathBasesRow = true := by kernel_rfl
theorem fnmathBases_fact22 : Go.Ev.jf22 Tryz.pinned.checked.prog 6 Tryz.f6 Rows.fnmathBasesSpec Rows.fnmathBasesRow = true := by kernel_rfl
theorem fnmathBases_fact23 : Go.Ev.jf23 Tryz.pinned.checked.prog 6 Tryz.f6 Rows.fnmathBasesSpec Rows.fnmathBasesRow = true := by kernel_rfl
theorem fnmathBases_fact24 : Go.Ev.jf24 Tryz.pinned.checked.prog 6 Tryz.f6 Rows.fnmathBasesSpec Rows.fnmathBasesRow = true := by kernel_rfl
theorem fnmathBases_fact25 : Go.Ev.jf25 Tryz.pinned.checked.prog 6 Tryz.f6 Rows.fnmathBasesSpec Rows.fnmathBasesRow = true := by kernel_rfl
theorem fnmathBases_fact26 : Go.Ev.jf26 Tryz.pinned.checked.prog 6 Tryz.f6 Rows.fnmathBasesSpec Rows.fnmathBasesRow = true := by kernel_rfl
theorem fnmathBases_fact27 : Go.Ev.jf27 Tryz.pinned.checked.prog 6 Tryz.f6 Rows.fnmathBasesSpec Rows.fnmathBasesRow = true := by kernel_rfl
theorem fnmathBases_fact28 : Go.Ev.jf28 Tryz.pinned.checked.prog 6 Tryz.f6 Rows.fnmathBasesSpec Rows.fnmathBasesRow = true := by kernel_rfl
theorem fnmathBases_fact29 : Go.Ev.jf29 Tryz.pinned.checked.prog 6 Tryz.f6 Rows.fnmathBasesSpec Rows.fnmathBasesRow = true := by kernel_rfl
theorem fnmathBases_fact30 : Go.Ev.jf30 Tryz.pinned.checked.prog 6 Tryz.f6 Rows.fnmathBasesSpec Rows.fnmathBasesRow = true := by kernel_rfl
theorem fnmathBases_fact31 : Go.Ev.jf31 Tryz.pinned.checked.prog 6 Tryz.f6 Rows.fnmathBasesSpec Rows.fnmathBasesRow = true := by kernel_rfl
theorem fnmathBases_facts : joinedFacts Tryz.pinned.checked.prog 6 Tryz.f6 Rows.fnmathBasesSpec Rows.fnmathBasesRow = true :=
  Go.Ev.joinedFacts_of (P := Tryz.pinned.checked.prog) (f := 6) (fn := Tryz.f6) (s := Rows.fnmathBasesSpec) (c := Rows.fnmathBasesRow) fnmathBases_fact0 fnmathBases_fact1 fnmathBases_fact2 fnmathBases_fact3 fnmathBases_fact4 fnmathBases_fact5 fnmathBases_fact6 fnmathBases_fact7 fnmathBases_fact8 fnmathBases_fact9 fnmathBases_fact10 fnmathBases_fact11 fnmathBases_fact12 fnmathBases_fact13 fnmathBases_fact14 fnmathBases_fact15 fnmathBases_fact16 fnmathBases_fact17 fnmathBases_fact18 fnmathBases_fact19 fnmathBases_fact20 fnmathBases_fact21 fnmathBases_fact22 fnmathBases_fact23 fnmathBases_fact24 fnmathBases_fact25 fnmathBases_fact26 fnmathBases_fact27 fnmathBases_fact28 fnmathBases_fact29 fnmathBases_fact30 fnmathBases_fact31
end Go.Proofs.YtgfoocnnidhepaaGreatDoor
