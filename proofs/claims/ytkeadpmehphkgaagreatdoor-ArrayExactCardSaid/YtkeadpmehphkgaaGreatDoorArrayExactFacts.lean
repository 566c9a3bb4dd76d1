/- The closed facts of the row of ArrayExact, one by one. Conditions: none. -/
import Derived.Test.YtkeadpmehphkgaaGreatDoorCards
import Derived.Test.YtkeadpmehphkgaaGreatDoorEvFacts
import Derived.ProofKit
import Derived.Lay
import Derived.SevenTiedAt
namespace Go.Proofs.YtkeadpmehphkgaaGreatDoor
open Go.ChangeShapes Go.WideShapes Go.ChangeAt Go.RowKit Go.ChangeMaps
theorem arrayExact_fact0 : Go.Ev.jf0 Tryz.pinned.checked.prog 3 Tryz.f3 Rows.arrayExactSpec Rows.arrayExactRow = true := by kernel_rfl
theorem arrayExact_fact1 : Go.Ev.jf1 Tryz.pinned.checked.prog 3 Tryz.f3 Rows.arrayExactSpec Rows.arrayExactRow = true := by kernel_rfl
theorem arrayExact_fact2 : Go.Ev.jf2 Tryz.pinned.checked.prog 3 Tryz.f3 Rows.arrayExactSpec Rows.arrayExactRow = true := by kernel_rfl
theorem arrayExact_fact3 : Go.Ev.jf3 Tryz.pinned.checked.prog 3 Tryz.f3 Rows.arrayExactSpec Rows.arrayExactRow = true := by kernel_rfl
theorem arrayExact_fact4 : Go.Ev.jf4 Tryz.pinned.checked.prog 3 Tryz.f3 Rows.arrayExactSpec Rows.arrayExactRow = true := by kernel_rfl
theorem arrayExact_fact5 : Go.Ev.jf5 Tryz.pinned.checked.prog 3 Tryz.f3 Rows.arrayExactSpec Rows.arrayExactRow = true := by kernel_rfl
theorem arrayExact_fact6 : Go.Ev.jf6 Tryz.pinned.checked.prog 3 Tryz.f3 Rows.arrayExactSpec Rows.arrayExactRow = true := by kernel_rfl
theorem arrayExact_fact7 : Go.Ev.jf7 Tryz.pinned.checked.prog 3 Tryz.f3 Rows.arrayExactSpec Rows.arrayExactRow = true := by kernel_rfl
theorem arrayExact_fact8 : Go.Ev.jf8 Tryz.pinned.checked.prog 3 Tryz.f3 Rows.arrayExactSpec Rows.arrayExactRow = true := by kernel_rfl
theorem arrayExact_fact9 : Go.Ev.jf9 Tryz.pinned.checked.prog 3 Tryz.f3 Rows.arrayExactSpec Rows.arrayExactRow = true := by kernel_rfl
theorem arrayExact_fact10 : Go.Ev.jf10 Tryz.pinned.checked.prog 3 Tryz.f3 Rows.arrayExactSpec Rows.arrayExactRow = true := by kernel_rfl
theorem arrayExact_fact11 : Go.Ev.jf11 Tryz.pinned.checked.prog 3 Tryz.f3 Rows.arrayExactSpec Rows.arrayExactRow = true := by kernel_rfl
theorem arrayExact_fact12 : Go.Ev.jf12 Tryz.pinned.checked.prog 3 Tryz.f3 Rows.arrayExactSpec Rows.arrayExactRow = true := by kernel_rfl
theorem arrayExact_fact13 : Go.Ev.jf13 Tryz.pinned.checked.prog 3 Tryz.f3 Rows.arrayExactSpec Rows.arrayExactRow = true := by kernel_rfl
theorem arrayExact_fact14 : Go.Ev.jf14 Tryz.pinned.checked.prog 3 Tryz.f3 Rows.arrayExactSpec Rows.arrayExactRow = true := by kernel_rfl
theorem arrayExact_fact15 : Go.Ev.jf15 Tryz.pinned.checked.prog 3 Tryz.f3 Rows.arrayExactSpec Rows.arrayExactRow = true := by kernel_rfl
theorem arrayExact_fact16 : Go.Ev.jf16 Tryz.pinned.checked.prog 3 Tryz.f3 Rows.arrayExactSpec Rows.arrayExactRow = true := by kernel_rfl
theorem arrayExact_fact17 : Go.Ev.jf17 Tryz.pinned.checked.prog 3 Tryz.f3 Rows.arrayExactSpec Rows.arrayExactRow = true := by kernel_rfl
theorem arrayExact_fact18 : Go.Ev.jf18 Tryz.pinned.checked.prog 3 Tryz.f3 Rows.arrayExactSpec Rows.arrayExactRow = true := by kernel_rfl
theorem arrayExact_fact19 : Go.Ev.jf19 Tryz.pinned.checked.prog 3 Tryz.f3 Rows.arrayExactSpec Rows.arrayExactRow = true := by kernel_rfl
theorem arrayExact_fact20 : Go.Ev.jf20 Tryz.pinned.checked.prog 3 Tryz.f3 Rows.arrayExactSpec Rows.arrayExactRow = true := by kernel_rfl
theorem arrayExact_fact21 : Go.Ev.jf21 Tryz.pinned.checked.prog 3 Tryz.f3 Rows.arrayExactSpec Rows.arrayExactRow = true := by kernel_rfl
theorem arrayExact_fact22 : Go.Ev.jf22 Tryz.pinned.checked.prog 3 Tryz.f3 Rows.arrayExactSpec Rows.arrayExactRow = true := by kernel_rfl
theorem arrayExact_fact23 : Go.Ev.jf23 Tryz.pinned.checked.prog 3 Tryz.f3 Rows.arrayExactSpec Rows.arrayExactRow = true := by kernel_rfl
theorem arrayExact_fact24 : Go.Ev.jf24 Tryz.pinned.checked.prog 3 Tryz.f3 Rows.arrayExactSpec Rows.arrayExactRow = true := by kernel_rfl
theorem arrayExact_fact25 : Go.Ev.jf25 Tryz.pinned.checked.prog 3 Tryz.f3 Rows.arrayExactSpec Rows.arrayExactRow = true := by kernel_rfl
theorem arrayExact_fact26 : Go.Ev.jf26 Tryz.pinned.checked.prog 3 Tryz.f3 Rows.arrayExactSpec Rows.arrayExactRow = true := by kernel_rfl
theorem arrayExact_fact27 : Go.Ev.jf27 Tryz.pinned.checked.prog 3 Tryz.f3 Rows.arrayExactSpec Rows.arrayExactRow = true := by kernel_rfl
theorem arrayExact_fact28 : Go.Ev.jf28 Tryz.pinned.checked.prog 3 Tryz.f3 Rows.arrayExactSpec Rows.arrayExactRow = true := by kernel_rfl
theorem arrayExact_fact29 : Go.Ev.jf29 Tryz.pinned.checked.prog 3 Tryz.f3 Rows.arrayExactSpec Rows.arrayExactRow = true := by kernel_rfl
theorem arrayExact_fact30 : Go.Ev.jf30 Tryz.pinned.checked.prog 3 Tryz.f3 Rows.arrayExactSpec Rows.arrayExactRow = true := by kernel_rfl
theorem arrayExact_fact31 : Go.Ev.jf31 Tryz.pinned.checked.prog 3 Tryz.f3 Rows.arrayExactSpec Rows.arrayExactRow = true := by kernel_rfl
theorem arrayExact_facts : joinedFacts Tryz.pinned.checked.prog 3 Tryz.f3 Rows.arrayExactSpec Rows.arrayExactRow = true :=
  Go.Ev.joinedFacts_of (P := Tryz.pinned.checked.prog) (f := 3) (fn := Tryz.f3) (s := Rows.arrayExactSpec) (c := Rows.arrayExactRow) arrayExact_fact0 arrayExact_fact1 arrayExact_fact2 arrayExact_fact3 arrayExact_fact4 arrayExact_fact5 arrayExact_fact6 arrayExact_fact7 arrayExact_fact8 arrayExact_fact9 arrayExact_fact10 arrayExact_fact11 arrayExact_fact12 arrayExact_fact13 arrayExact_fact14 arrayExact_fact15 arrayExact_fact16 arrayExact_fact17 arrayExact_fact18 arrayExact_fact19 arrayExact_fact20 arrayExact_fact21 arrayExact_fact22 arrayExact_fact23 arrayExact_fact24 arrayExact_fact25 arrayExact_fact26 arrayExact_fact27 arrayExact_fact28 arrayExact_fact29 arrayExact_fact30 arrayExact_fact31
end Go.Proofs.YtkeadpmehphkgaaGreatDoor
