/- The closed facts of the row of FntextNames, one by one. Conditions: none. -/
import Derived.Test.YtfpkapfpcbgcgaaGreatDoorCards
import Derived.Test.YtfpkapfpcbgcgaaGreatDoorEvFacts
import Derived.ProofKit
import Derived.Lay
import Derived.SevenTiedAt
namespace Go.Proofs.YtfpkapfpcbgcgaaGreatDoor
open Go.ChangeShapes Go.WideShapes Go.ChangeAt Go.RowKit Go.ChangeMaps

theorem fntextNames_fact0 : Go.Ev.jf0 Tryz.pinned.checked.prog 3 Tryz.f3 Rows.fntextNamesSpec Rows.fntextNamesRow = true := by kernel_rfl
theorem fntextNames_fact1 : Go.Ev.jf1 Tryz.pinned.checked.prog 3 Tryz.f3 Rows.fntextNamesSpec Rows.fntextNamesRow = true := by kernel_rfl
theorem fntextNames_fact2 : Go.Ev.jf2 Tryz.pinned.checked.prog 3 Tryz.f3 Rows.fntextNamesSpec Rows.fntextNamesRow = true := by kernel_rfl
theorem fntextNames_fact3 : Go.Ev.jf3 Tryz.pinned.checked.prog 3 Tryz.f3 Rows.fntextNamesSpec Rows.fntextNamesRow = true := by kernel_rfl
theorem fntextNames_fact4 : Go.Ev.jf4 Tryz.pinned.checked.prog 3 Tryz.f3 Rows.fntextNamesSpec Rows.fntextNamesRow = true := by kernel_rfl
theorem fntextNames_fact5 : Go.Ev.jf5 Tryz.pinned.checked.prog 3 Tryz.f3 Rows.fntextNamesSpec Rows.fntextNamesRow = true := by kernel_rfl
theorem fntextNames_fact6 : Go.Ev.jf6 Tryz.pinned.checked.prog 3 Tryz.f3 Rows.fntextNamesSpec Rows.fntextNamesRow = true := by kernel_rfl
theorem fntextNames_fact7 : Go.Ev.jf7 Tryz.pinned.checked.prog 3 Tryz.f3 Rows.fntextNamesSpec Rows.fntextNamesRow = true := by kernel_rfl
theorem fntextNames_fact8 : Go.Ev.jf8 Tryz.pinned.checked.prog 3 Tryz.f3 Rows.fntextNamesSpec Rows.fntextNamesRow = true := by kernel_rfl
theorem fntextNames_fact9 : Go.Ev.jf9 Tryz.pinned.checked.prog 3 Tryz.f3 Rows.fntextNamesSpec Rows.fntextNamesRow = true := by kernel_rfl
theorem fntextNames_fact10 : Go.Ev.jf10 Tryz.pinned.checked.prog 3 Tryz.f3 Rows.fntextNamesSpec Rows.fntextNamesRow = true := by kernel_rfl
theorem fntextNames_fact11 : Go.Ev.jf11 Tryz.pinned.checked.prog 3 Tryz.f3 Rows.fntextNamesSpec Rows.fntextNamesRow = true := by kernel_rfl
theorem fntextNames_fact12 : Go.Ev.jf12 Tryz.pinned.checked.prog 3 Tryz.f3 Rows.fntextNamesSpec Rows.fntextNamesRow = true := by kernel_rfl
theorem fntextNames_fact13 : Go.Ev.jf13 Tryz.pinned.checked.prog 3 Tryz.f3 Rows.fntextNamesSpec Rows.fntextNamesRow = true := by kernel_rfl
theorem fntextNames_fact14 : Go.Ev.jf14 Tryz.pinned.checked.prog 3 Tryz.f3 Rows.fntextNamesSpec Rows.fntextNamesRow = true := by kernel_rfl
theorem fntextNames_fact15 : Go.Ev.jf15 Tryz.pinned.checked.prog 3 Tryz.f3 Rows.fntextNamesSpec Rows.fntextNamesRow = true := by kernel_rfl
theorem fntextNames_fact16 : Go.Ev.jf16 Tryz.pinned.checked.prog 3 Tryz.f3 Rows.fntextNamesSpec Rows.fntextNamesRow = true := by kernel_rfl
theorem fntextNames_fact17 : Go.Ev.jf17 Tryz.pinned.checked.prog 3 Tryz.f3 Rows.fntextNamesSpec Rows.fntextNamesRow = true := by kernel_rfl
theorem fntextNames_fact18 : Go.Ev.jf18 Tryz.pinned.checked.prog 3 Tryz.f3 Rows.fntextNamesSpec Rows.fntextNamesRow = true := by kernel_rfl
theorem fntextNames_fact19 : Go.Ev.jf19 Tryz.pinned.checked.prog 3 Tryz.f3 Rows.fntextNamesSpec Rows.fntextNamesRow = true := by kernel_rfl
theorem fntextNames_fact20 : Go.Ev.jf20 Tryz.pinned.checked.prog 3 Tryz.f3 Rows.fntextNamesSpec Rows.fntextNamesRow = true := by kernel_rfl
theorem fntextNames_fact21 : Go.Ev.jf21 Tryz.pinned.checked.prog 3 Tryz.f3 Rows.fntextNamesSpec Rows.fntextNamesRow = true := by kernel_rfl
theorem fntextNames_fact22 : Go.Ev.jf22 Tryz.pinned.checked.prog 3 Tryz.f3 Rows.fntextNamesSpec Rows.fntextNamesRow = true := by kernel_rfl
theorem fntextNames_fact23 : Go.Ev.jf23 Tryz.pinned.checked.prog 3 Tryz.f3 Rows.fntextNamesSpec Rows.fntextNamesRow = true := by kernel_rfl
theorem fntextNames_fact24 : Go.Ev.jf24 Tryz.pinned.checked.prog 3 Tryz.f3 Rows.fntextNamesSpec Rows.fntextNamesRow = true := by kernel_rfl
theorem fntextNames_fact25 : Go.Ev.jf25 Tryz.pinned.checked.prog 3 Tryz.f3 Rows.fntextNamesSpec Rows.fntextNamesRow = true := by kernel_rfl
theorem fntextNames_fact26 : Go.Ev.jf26 Tryz.pinned.checked.prog 3 Tryz.f3 Rows.fntextNamesSpec Rows.fntextNamesRow = true := by kernel_rfl
theorem fntextNames_fact27 : Go.Ev.jf27 Tryz.pinned.checked.prog 3 Tryz.f3 Rows.fntextNamesSpec Rows.fntextNamesRow = true := by kernel_rfl
theorem fntextNames_fact28 : Go.Ev.jf28 Tryz.pinned.checked.prog 3 Tryz.f3 Rows.fntextNamesSpec Rows.fntextNamesRow = true := by kernel_rfl
theorem fntextNames_fact29 : Go.Ev.jf29 Tryz.pinned.checked.prog 3 Tryz.f3 Rows.fntextNamesSpec Rows.fntextNamesRow = true := by kernel_rfl
theorem fntextNames_fact30 : Go.Ev.jf30 Tryz.pinned.checked.prog 3 Tryz.f3 Rows.fntextNamesSpec Rows.fntextNamesRow = true := by kernel_rfl
theorem fntextNames_fact31 : Go.Ev.jf31 Tryz.pinned.checked.prog 3 Tryz.f3 Rows.fntextNamesSpec Rows.fntextNamesRow = true := by kernel_rfl
theorem fntextNames_facts : joinedFacts Tryz.pinned.checked.prog 3 Tryz.f3 Rows.fntextNamesSpec Rows.fntextNamesRow = true :=
  Go.Ev.joinedFacts_of (P := Tryz.pinned.checked.prog) (f := 3) (fn := Tryz.f3) (s := Rows.fntextNamesSpec) (c := Rows.fntextNamesRow) fntextNames_fact0 fntextNames_fact1 fntextNames_fact2 fntextNames_fact3 fntextNames_fact4 fntextNames_fact5 fntextNames_fact6 fntextNames_fact7 fntextNames_fact8 fntextNames_fact9 fntextNames_fact10 fntextNames_fact11 fntextNames_fact12 fntextNames_fact13 fntextNames_fact14 fntextNames_fact15 fntextNames_fact16 fntextNames_fact17 fntextNames_fact18 fntextNames_fact19 fntextNames_fact20 fntextNames_fact21 fntextNames_fact22 fntextNames_fact23 fntextNames_fact24 fntextNames_fact25 fntextNames_fact26 fntextNames_fact27 fntextNames_fact28 fntextNames_fact29 fntextNames_fact30 fntextNames_fact31
end Go.Proofs.YtfpkapfpcbgcgaaGreatDoor
