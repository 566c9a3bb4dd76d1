/- The closed facts of the row of FnmathRounds, one by one. Conditions: none. -/
import Derived.Test.YtgfoocnnidhepaaGreatDoorCards
import Derived.Test.YtgfoocnnidhepaaGreatDoorEvFacts
import Derived.ProofKit
import Derived.Lay
import Derived.SevenTiedAt
namespace Go.Proofs.YtgfoocnnidhepaaGreatDoor
open Go.ChangeShapes Go.WideShapes Go.ChangeAt Go.RowKit Go.ChangeMaps
theorem fnmathRounds_fact0 : Go.Ev.jf0 Tryz.pinned.checked.prog 4 Tryz.f4 Rows.fnmathRoundsSpec Rows.fnmathRoundsRow = true := by kernel_rfl
theorem fnmathRounds_fact1 : Go.Ev.jf1 Tryz.pinned.checked.prog 4 Tryz.f4 Rows.fnmathRoundsSpec Rows.fnmathRoundsRow = true := by kernel_rfl
theorem fnmathRounds_fact2 : Go.Ev.jf2 Tryz.pinned.checked.prog 4 Tryz.f4 Rows.fnmathRoundsSpec Rows.fnmathRoundsRow = true := by kernel_rfl
theorem fnmathRounds_fact3 : Go.Ev.jf3 Tryz.pinned.checked.prog 4 Tryz.f4 Rows.fnmathRoundsSpec Rows.fnmathRoundsRow = true := by kernel_rfl
theorem fnmathRounds_fact4 : Go.Ev.jf4 Tryz.pinned.checked.prog 4 Tryz.f4 Rows.fnmathRoundsSpec Rows.fnmathRoundsRow = true := by kernel_rfl
theorem fnmathRounds_fact5 : Go.Ev.jf5 Tryz.pinned.checked.prog 4 Tryz.f4 Rows.fnmathRoundsSpec Rows.fnmathRoundsRow = true := by kernel_rfl
theorem fnmathRounds_fact6 : Go.Ev.jf6 Tryz.pinned.checked.prog 4 Tryz.f4 Rows.fnmathRoundsSpec Rows.fnmathRoundsRow = true := by kernel_rfl
theorem fnmathRounds_fact7 : Go.Ev.jf7 Tryz.pinned.checked.prog 4 Tryz.f4 Rows.fnmathRoundsSpec Rows.fnmathRoundsRow = true := by kernel_rfl
theorem fnmathRounds_fact8 : Go.Ev.jf8 Tryz.pinned.checked.prog 4 Tryz.f4 Rows.fnmathRoundsSpec Rows.fnmathRoundsRow = true := by kernel_rfl
theorem fnmathRounds_fact9 : Go.Ev.jf9 Tryz.pinned.checked.prog 4 Tryz.f4 Rows.fnmathRoundsSpec Rows.fnmathRoundsRow = true := by kernel_rfl
theorem fnmathRounds_fact10 : Go.Ev.jf10 Tryz.pinned.checked.prog 4 Tryz.f4 Rows.fnmathRoundsSpec Rows.fnmathRoundsRow = true := by kernel_rfl
theorem fnmathRounds_fact11 : Go.Ev.jf11 Tryz.pinned.checked.prog 4 Tryz.f4 Rows.fnmathRoundsSpec Rows.fnmathRoundsRow = true := by kernel_rfl
theorem fnmathRounds_fact12 : Go.Ev.jf12 Tryz.pinned.checked.prog 4 Tryz.f4 Rows.fnmathRoundsSpec Rows.fnmathRoundsRow = true := by kernel_rfl
theorem fnmathRounds_fact13 : Go.Ev.jf13 Tryz.pinned.checked.prog 4 Tryz.f4 Rows.fnmathRoundsSpec Rows.fnmathRoundsRow = true := by kernel_rfl
theorem fnmathRounds_fact14 : Go.Ev.jf14 Tryz.pinned.checked.prog 4 Tryz.f4 Rows.fnmathRoundsSpec Rows.fnmathRoundsRow = true := by kernel_rfl
theorem fnmathRounds_fact15 : Go.Ev.jf15 Tryz.pinned.checked.prog 4 Tryz.f4 Rows.fnmathRoundsSpec Rows.fnmathRoundsRow = true := by kernel_rfl
theorem fnmathRounds_fact16 : Go.Ev.jf16 Tryz.pinned.checked.prog 4 Tryz.f4 Rows.fnmathRoundsSpec Rows.fnmathRoundsRow = true := by kernel_rfl
theorem fnmathRounds_fact17 : Go.Ev.jf17 Tryz.pinned.checked.prog 4 Tryz.f4 Rows.fnmathRoundsSpec Rows.fnmathRoundsRow = true := by kernel_rfl
theorem fnmathRounds_fact18 : Go.Ev.jf18 Tryz.pinned.checked.prog 4 Tryz.f4 Rows.fnmathRoundsSpec Rows.fnmathRoundsRow = true := by kernel_rfl
theorem fnmathRounds_fact19 : Go.Ev.jf19 Tryz.pinned.checked.prog 4 Tryz.f4 Rows.fnmathRoundsSpec Rows.fnmathRoundsRow = true := by kernel_rfl
theorem fnmathRounds_fact20 : Go.Ev.jf20 Tryz.pinned.checked.prog 4 Tryz.f4 Rows.fnmathRoundsSpec Rows.fnmathRoundsRow = true := by kernel_rfl
theorem fnmathRounds_fact21 : Go.Ev.jf21 Tryz.pinned.checked.prog 4 Tryz.f4 Rows.fnmathRoundsSpec Rows.fnmathRoundsRow = true := by kernel_rfl
theorem fnmathRounds_fact22 : Go.Ev.jf22 Tryz.pinned.checked.prog 4 Tryz.f4 Rows.fnmathRoundsSpec Rows.fnmathRoundsRow = true := by kernel_rfl
theorem fnmathRounds_fact23 : Go.Ev.jf23 Tryz.pinned.checked.prog 4 Tryz.f4 Rows.fnmathRoundsSpec Rows.fnmathRoundsRow = true := by kernel_rfl
theorem fnmathRounds_fact24 : Go.Ev.jf24 Tryz.pinned.checked.prog 4 Tryz.f4 Rows.fnmathRoundsSpec Rows.fnmathRoundsRow = true := by kernel_rfl
theorem fnmathRounds_fact25 : Go.Ev.jf25 Tryz.pinned.checked.prog 4 Tryz.f4 Rows.fnmathRoundsSpec Rows.fnmathRoundsRow = true := by kernel_rfl
theorem fnmathRounds_fact26 : Go.Ev.jf26 Tryz.pinned.checked.prog 4 Tryz.f4 Rows.fnmathRoundsSpec Rows.fnmathRoundsRow = true := by kernel_rfl
theorem fnmathRounds_fact27 : Go.Ev.jf27 Tryz.pinned.checked.prog 4 Tryz.f4 Rows.fnmathRoundsSpec Rows.fnmathRoundsRow = true := by kernel_rfl
theorem fnmathRounds_fact28 : Go.Ev.jf28 Tryz.pinned.checked.prog 4 Tryz.f4 Rows.fnmathRoundsSpec Rows.fnmathRoundsRow = true := by kernel_rfl
theorem fnmathRounds_fact29 : Go.Ev.jf29 Tryz.pinned.checked.prog 4 Tryz.f4 Rows.fnmathRoundsSpec Rows.fnmathRoundsRow = true := by kernel_rfl
theorem fnmathRounds_fact30 : Go.Ev.jf30 Tryz.pinned.checked.prog 4 Tryz.f4 Rows.fnmathRoundsSpec Rows.fnmathRoundsRow = true := by kernel_rfl
theorem fnmathRounds_fact31 : Go.Ev.jf31 Tryz.pinned.checked.prog 4 Tryz.f4 Rows.fnmathRoundsSpec Rows.fnmathRoundsRow = true := by kernel_rfl
theorem fnmathRounds_facts : joinedFacts Tryz.pinned.checked.prog 4 Tryz.f4 Rows.fnmathRoundsSpec Rows.fnmathRoundsRow = true :=
  Go.Ev.joinedFacts_of (P := Tryz.pinned.checked.prog) (f := 4) (fn := Tryz.f4) (s := Rows.fnmathRoundsSpec) (c := Rows.fnmathRoundsRow) fnmathRounds_fact0 fnmathRounds_fact1 fnmathRounds_fact2 fnmathRounds_fact3 fnmathRounds_fact4 fnmathRounds_fact5 fnmathRounds_fact6 fnmathRounds_fact7 fnmathRounds_fact8 fnmathRounds_fact9 fnmathRounds_fact10 fnmathRounds_fact11 fnmathRounds_fact12 fnmathRounds_fact13 fnmathRounds_fact14 fnmathRounds_fact15 fnmathRounds_fact16 fnmathRounds_fact17 fnmathRounds_fact18 fnmathRounds_fact19 fnmathRounds_fact20 fnmathRounds_fact21 fnmathRounds_fact22 fnmathRounds_fact23 fnmathRounds_fact24 fnmathRounds_fact25 fnmathRounds_fact26 fnmathRounds_fact27 fnmathRounds_fact28 fnmathRounds_fact29 fnmathRounds_fact30 fnmathRounds_fact31
end Go.Proofs.YtgfoocnnidhepaaGreatDoor
