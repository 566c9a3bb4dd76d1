/- The closed facts of the row of FnlookNames, one by one. Conditions: none. -/
import Derived.Test.YtfpkapfpcbgcgaaGreatDoorCards
import Derived.Test.YtfpkapfpcbgcgaaGreatDoorEvFacts
import Derived.ProofKit
import Derived.Lay
import Derived.SevenTiedAt
namespace Go.Proofs.YtfpkapfpcbgcgaaGreatDoor
open Go.ChangeShapes Go.WideShapes Go.ChangeAt Go.RowKit Go.ChangeMaps

theorem fnlookNames_fact0 : Go.Ev.jf0 Tryz.pinned.checked.prog 4 Tryz.f4 Rows.fnlookNamesSpec Rows.fnlookNamesRow = true := by kernel_rfl
theorem fnlookNames_fact1 : Go.Ev.jf1 Tryz.pinned.checked.prog 4 Tryz.f4 Rows.fnlookNamesSpec Rows.fnlookNamesRow = true := by kernel_rfl
theorem fnlookNames_fact2 : Go.Ev.jf2 Tryz.pinned.checked.prog 4 Tryz.f4 Rows.fnlookNamesSpec Rows.fnlookNamesRow = true := by kernel_rfl
theorem fnlookNames_fact3 : Go.Ev.jf3 Tryz.pinned.checked.prog 4 Tryz.f4 Rows.fnlookNamesSpec Rows.fnlookNamesRow = true := by kernel_rfl
theorem fnlookNames_fact4 : Go.Ev.jf4 Tryz.pinned.checked.prog 4 Tryz.f4 Rows.fnlookNamesSpec Rows.fnlookNamesRow = true := by kernel_rfl
theorem fnlookNames_fact5 : Go.Ev.jf5 Tryz.pinned.checked.prog 4 Tryz.f4 Rows.fnlookNamesSpec Rows.fnlookNamesRow = true := by kernel_rfl
theorem fnlookNames_fact6 : Go.Ev.jf6 Tryz.pinned.checked.prog 4 Tryz.f4 Rows.fnlookNamesSpec Rows.fnlookNamesRow = true := by kernel_rfl
theorem fnlookNames_fact7 : Go.Ev.jf7 Tryz.pinned.checked.prog 4 Tryz.f4 Rows.fnlookNamesSpec Rows.fnlookNamesRow = true := by kernel_rfl
theorem fnlookNames_fact8 : Go.Ev.jf8 Tryz.pinned.checked.prog 4 Tryz.f4 Rows.fnlookNamesSpec Rows.fnlookNamesRow = true := by kernel_rfl
theorem fnlookNames_fact9 : Go.Ev.jf9 Tryz.pinned.checked.prog 4 Tryz.f4 Rows.fnlookNamesSpec Rows.fnlookNamesRow = true := by kernel_rfl
theorem fnlookNames_fact10 : Go.Ev.jf10 Tryz.pinned.checked.prog 4 Tryz.f4 Rows.fnlookNamesSpec Rows.fnlookNamesRow = true := by kernel_rfl
theorem fnlookNames_fact11 : Go.Ev.jf11 Tryz.pinned.checked.prog 4 Tryz.f4 Rows.fnlookNamesSpec Rows.fnlookNamesRow = true := by kernel_rfl
theorem fnlookNames_fact12 : Go.Ev.jf12 Tryz.pinned.checked.prog 4 Tryz.f4 Rows.fnlookNamesSpec Rows.fnlookNamesRow = true := by kernel_rfl
theorem fnlookNames_fact13 : Go.Ev.jf13 Tryz.pinned.checked.prog 4 Tryz.f4 Rows.fnlookNamesSpec Rows.fnlookNamesRow = true := by kernel_rfl
theorem fnlookNames_fact14 : Go.Ev.jf14 Tryz.pinned.checked.prog 4 Tryz.f4 Rows.fnlookNamesSpec Rows.fnlookNamesRow = true := by kernel_rfl
theorem fnlookNames_fact15 : Go.Ev.jf15 Tryz.pinned.checked.prog 4 Tryz.f4 Rows.fnlookNamesSpec Rows.fnlookNamesRow = true := by kernel_rfl
theorem fnlookNames_fact16 : Go.Ev.jf16 Tryz.pinned.checked.prog 4 Tryz.f4 Rows.fnlookNamesSpec Rows.fnlookNamesRow = true := by kernel_rfl
theorem fnlookNames_fact17 : Go.Ev.jf17 Tryz.pinned.checked.prog 4 Tryz.f4 Rows.fnlookNamesSpec Rows.fnlookNamesRow = true := by kernel_rfl
theorem fnlookNames_fact18 : Go.Ev.jf18 Tryz.pinned.checked.prog 4 Tryz.f4 Rows.fnlookNamesSpec Rows.fnlookNamesRow = true := by kernel_rfl
theorem fnlookNames_fact19 : Go.Ev.jf19 Tryz.pinned.checked.prog 4 Tryz.f4 Rows.fnlookNamesSpec Rows.fnlookNamesRow = true := by kernel_rfl
theorem fnlookNames_fact20 : Go.Ev.jf20 Tryz.pinned.checked.prog 4 Tryz.f4 Rows.fnlookNamesSpec Rows.fnlookNamesRow = true := by kernel_rfl
theorem fnlookNames_fact21 : Go.Ev.jf21 Tryz.pinned.checked.prog 4 Tryz.f4 Rows.fnlookNamesSpec Rows.fnlookNamesRow = true := by kernel_rfl
theorem fnlookNames_fact22 : Go.Ev.jf22 Tryz.pinned.checked.prog 4 Tryz.f4 Rows.fnlookNamesSpec Rows.fnlookNamesRow = true := by kernel_rfl
theorem fnlookNames_fact23 : Go.Ev.jf23 Tryz.pinned.checked.prog 4 Tryz.f4 Rows.fnlookNamesSpec Rows.fnlookNamesRow = true := by kernel_rfl
theorem fnlookNames_fact24 : Go.Ev.jf24 Tryz.pinned.checked.prog 4 Tryz.f4 Rows.fnlookNamesSpec Rows.fnlookNamesRow = true := by kernel_rfl
theorem fnlookNames_fact25 : Go.Ev.jf25 Tryz.pinned.checked.prog 4 Tryz.f4 Rows.fnlookNamesSpec Rows.fnlookNamesRow = true := by kernel_rfl
theorem fnlookNames_fact26 : Go.Ev.jf26 Tryz.pinned.checked.prog 4 Tryz.f4 Rows.fnlookNamesSpec Rows.fnlookNamesRow = true := by kernel_rfl
theorem fnlookNames_fact27 : Go.Ev.jf27 Tryz.pinned.checked.prog 4 Tryz.f4 Rows.fnlookNamesSpec Rows.fnlookNamesRow = true := by kernel_rfl
theorem fnlookNames_fact28 : Go.Ev.jf28 Tryz.pinned.checked.prog 4 Tryz.f4 Rows.fnlookNamesSpec Rows.fnlookNamesRow = true := by kernel_rfl
theorem fnlookNames_fact29 : Go.Ev.jf29 Tryz.pinned.checked.prog 4 Tryz.f4 Rows.fnlookNamesSpec Rows.fnlookNamesRow = true := by kernel_rfl
theorem fnlookNames_fact30 : Go.Ev.jf30 Tryz.pinned.checked.prog 4 Tryz.f4 Rows.fnlookNamesSpec Rows.fnlookNamesRow = true := by kernel_rfl
theorem fnlookNames_fact31 : Go.Ev.jf31 Tryz.pinned.checked.prog 4 Tryz.f4 Rows.fnlookNamesSpec Rows.fnlookNamesRow = true := by kernel_rfl
theorem fnlookNames_facts : joinedFacts Tryz.pinned.checked.prog 4 Tryz.f4 Rows.fnlookNamesSpec Rows.fnlookNamesRow = true :=
  Go.Ev.joinedFacts_of (P := Tryz.pinned.checked.prog) (f := 4) (fn := Tryz.f4) (s := Rows.fnlookNamesSpec) (c := Rows.fnlookNamesRow) fnlookNames_fact0 fnlookNames_fact1 fnlookNames_fact2 fnlookNames_fact3 fnlookNames_fact4 fnlookNames_fact5 fnlookNames_fact6 fnlookNames_fact7 fnlookNames_fact8 fnlookNames_fact9 fnlookNames_fact10 fnlookNames_fact11 fnlookNames_fact12 fnlookNames_fact13 fnlookNames_fact14 fnlookNames_fact15 fnlookNames_fact16 fnlookNames_fact17 fnlookNames_fact18 fnlookNames_fact19 fnlookNames_fact20 fnlookNames_fact21 fnlookNames_fact22 fnlookNames_fact23 fnlookNames_fact24 fnlookNames_fact25 fnlookNames_fact26 fnlookNames_fact27 fnlookNames_fact28 fnlookNames_fact29 fnlookNames_fact30 fnlookNames_fact31
end Go.Proofs.YtfpkapfpcbgcgaaGreatDoor
