/- The closed facts of the row of FnstatNames, one by one. Conditions: none. -/
import Derived.Test.YthjdclmdjifcfaaGreatDoorCards
import Derived.Test.YthjdclmdjifcfaaGreatDoorEvFacts
import Derived.ProofKit
import Derived.Lay
import Derived.SevenTiedAt
namespace Go.Proofs.YthjdclmdjifcfaaGreatDoor
open Go.ChangeShapes Go.WideShapes Go.ChangeAt Go.RowKit Go.ChangeMaps

theorem fnstatNames_fact0 : Go.Ev.jf0 Tryz.pinned.checked.prog 3 Tryz.f3 Rows.fnstatNamesSpec Rows.fnstatNamesRow = true := by kernel_rfl
theorem fnstatNames_fact1 : Go.Ev.jf1 Tryz.pinned.checked.prog 3 Tryz.f3 Rows.fnstatNamesSpec Rows.fnstatNamesRow = true := by kernel_rfl
theorem fnstatNames_fact2 : Go.Ev.jf2 Tryz.pinned.checked.prog 3 Tryz.f3 Rows.fnstatNamesSpec Rows.fnstatNamesRow = true := by kernel_rfl
theorem fnstatNames_fact3 : Go.Ev.jf3 Tryz.pinned.checked.prog 3 Tryz.f3 Rows.fnstatNamesSpec Rows.fnstatNamesRow = true := by kernel_rfl
theorem fnstatNames_fact4 : Go.Ev.jf4 Tryz.pinned.checked.prog 3 Tryz.f3 Rows.fnstatNamesSpec Rows.fnstatNamesRow = true := by kernel_rfl
theorem fnstatNames_fact5 : Go.Ev.jf5 Tryz.pinned.checked.prog 3 Tryz.f3 Rows.fnstatNamesSpec Rows.fnstatNamesRow = true := by kernel_rfl
theorem fnstatNames_fact6 : Go.Ev.jf6 Tryz.pinned.checked.prog 3 Tryz.f3 Rows.fnstatNamesSpec Rows.fnstatNamesRow = true := by kernel_rfl
theorem fnstatNames_fact7 : Go.Ev.jf7 Tryz.pinned.checked.prog 3 Tryz.f3 Rows.fnstatNamesSpec Rows.fnstatNamesRow = true := by kernel_rfl
theorem fnstatNames_fact8 : Go.Ev.jf8 Tryz.pinned.checked.prog 3 Tryz.f3 Rows.fnstatNamesSpec Rows.fnstatNamesRow = true := by kernel_rfl
theorem fnstatNames_fact9 : Go.Ev.jf9 Tryz.pinned.checked.prog 3 Tryz.f3 Rows.fnstatNamesSpec Rows.fnstatNamesRow = true := by kernel_rfl
theorem fnstatNames_fact10 : Go.Ev.jf10 Tryz.pinned.checked.prog 3 Tryz.f3 Rows.fnstatNamesSpec Rows.fnstatNamesRow = true := by kernel_rfl
theorem fnstatNames_fact11 : Go.Ev.jf11 Tryz.pinned.checked.prog 3 Tryz.f3 Rows.fnstatNamesSpec Rows.fnstatNamesRow = true := by kernel_rfl
theorem fnstatNames_fact12 : Go.Ev.jf12 Tryz.pinned.checked.prog 3 Tryz.f3 Rows.fnstatNamesSpec Rows.fnstatNamesRow = true := by kernel_rfl
theorem fnstatNames_fact13 : Go.Ev.jf13 Tryz.pinned.checked.prog 3 Tryz.f3 Rows.fnstatNamesSpec Rows.fnstatNamesRow = true := by kernel_rfl
theorem fnstatNames_fact14 : Go.Ev.jf14 Tryz.pinned.checked.prog 3 Tryz.f3 Rows.fnstatNamesSpec Rows.fnstatNamesRow = true := by kernel_rfl
theorem fnstatNames_fact15 : Go.Ev.jf15 Tryz.pinned.checked.prog 3 Tryz.f3 Rows.fnstatNamesSpec Rows.fnstatNamesRow = true := by kernel_rfl
theorem fnstatNames_fact16 : Go.Ev.jf16 Tryz.pinned.checked.prog 3 Tryz.f3 Rows.fnstatNamesSpec Rows.fnstatNamesRow = true := by kernel_rfl
theorem fnstatNames_fact17 : Go.Ev.jf17 Tryz.pinned.checked.prog 3 Tryz.f3 Rows.fnstatNamesSpec Rows.fnstatNamesRow = true := by kernel_rfl
theorem fnstatNames_fact18 : Go.Ev.jf18 Tryz.pinned.checked.prog 3 Tryz.f3 Rows.fnstatNamesSpec Rows.fnstatNamesRow = true := by kernel_rfl
theorem fnstatNames_fact19 : Go.Ev.jf19 Tryz.pinned.checked.prog 3 Tryz.f3 Rows.fnstatNamesSpec Rows.fnstatNamesRow = true := by kernel_rfl
theorem fnstatNames_fact20 : Go.Ev.jf20 Tryz.pinned.checked.prog 3 Tryz.f3 Rows.fnstatNamesSpec Rows.fnstatNamesRow = true := by kernel_rfl
theorem fnstatNames_fact21 : Go.Ev.jf21 Tryz.pinned.checked.prog 3 Tryz.f3 Rows.fnstatNamesSpec Rows.fnstatNamesRow = true := by kernel_rfl
theorem fnstatNames_fact22 : Go.Ev.jf22 Tryz.pinned.checked.prog 3 Tryz.f3 Rows.fnstatNamesSpec Rows.fnstatNamesRow = true := by kernel_rfl
theorem fnstatNames_fact23 : Go.Ev.jf23 Tryz.pinned.checked.prog 3 Tryz.f3 Rows.fnstatNamesSpec Rows.fnstatNamesRow = true := by kernel_rfl
theorem fnstatNames_fact24 : Go.Ev.jf24 Tryz.pinned.checked.prog 3 Tryz.f3 Rows.fnstatNamesSpec Rows.fnstatNamesRow = true := by kernel_rfl
theorem fnstatNames_fact25 : Go.Ev.jf25 Tryz.pinned.checked.prog 3 Tryz.f3 Rows.fnstatNamesSpec Rows.fnstatNamesRow = true := by kernel_rfl
theorem fnstatNames_fact26 : Go.Ev.jf26 Tryz.pinned.checked.prog 3 Tryz.f3 Rows.fnstatNamesSpec Rows.fnstatNamesRow = true := by kernel_rfl
theorem fnstatNames_fact27 : Go.Ev.jf27 Tryz.pinned.checked.prog 3 Tryz.f3 Rows.fnstatNamesSpec Rows.fnstatNamesRow = true := by kernel_rfl
theorem fnstatNames_fact28 : Go.Ev.jf28 Tryz.pinned.checked.prog 3 Tryz.f3 Rows.fnstatNamesSpec Rows.fnstatNamesRow = true := by kernel_rfl
theorem fnstatNames_fact29 : Go.Ev.jf29 Tryz.pinned.checked.prog 3 Tryz.f3 Rows.fnstatNamesSpec Rows.fnstatNamesRow = true := by kernel_rfl
theorem fnstatNames_fact30 : Go.Ev.jf30 Tryz.pinned.checked.prog 3 Tryz.f3 Rows.fnstatNamesSpec Rows.fnstatNamesRow = true := by kernel_rfl
theorem fnstatNames_fact31 : Go.Ev.jf31 Tryz.pinned.checked.prog 3 Tryz.f3 Rows.fnstatNamesSpec Rows.fnstatNamesRow = true := by kernel_rfl
theorem fnstatNames_facts : joinedFacts Tryz.pinned.checked.prog 3 Tryz.f3 Rows.fnstatNamesSpec Rows.fnstatNamesRow = true :=
  Go.Ev.joinedFacts_of (P := Tryz.pinned.checked.prog) (f := 3) (fn := Tryz.f3) (s := Rows.fnstatNamesSpec) (c := Rows.fnstatNamesRow) fnstatNames_fact0 fnstatNames_fact1 fnstatNames_fact2 fnstatNames_fact3 fnstatNames_fact4 fnstatNames_fact5 fnstatNames_fact6 fnstatNames_fact7 fnstatNames_fact8 fnstatNames_fact9 fnstatNames_fact10 fnstatNames_fact11 fnstatNames_fact12 fnstatNames_fact13 fnstatNames_fact14 fnstatNames_fact15 fnstatNames_fact16 fnstatNames_fact17 fnstatNames_fact18 fnstatNames_fact19 fnstatNames_fact20 fnstatNames_fact21 fnstatNames_fact22 fnstatNames_fact23 fnstatNames_fact24 fnstatNames_fact25 fnstatNames_fact26 fnstatNames_fact27 fnstatNames_fact28 fnstatNames_fact29 fnstatNames_fact30 fnstatNames_fact31
end Go.Proofs.YthjdclmdjifcfaaGreatDoor
