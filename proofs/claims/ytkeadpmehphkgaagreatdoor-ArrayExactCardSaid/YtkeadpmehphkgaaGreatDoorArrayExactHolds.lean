/- gridironlaw16.ArrayExact answers 'true' for every argument, and leaves them as they were. Conditions: none. -/
import Derived.Test.YtkeadpmehphkgaaGreatDoorArrayExactWit
import Derived.Test.YtkeadpmehphkgaaGreatDoorArrayExactFacts
import Derived.Test.YtkeadpmehphkgaaGreatDoorArrayExactWrap
namespace Go.Proofs.YtkeadpmehphkgaaGreatDoor
open Go.ChangeShapes Go.WideShapes Go.ChangeAt Go.RowKit Go.ChangeMaps
theorem arrayExact_liftedRow (os : Os) (started : os.Started) (H : Type) (enc : TypeId × Value → H) :
    ReturnsInHanded Rows.arrayExactRow.assume Tryz.pinned.checked os 3 .any (Rows.arrayExactRow.pre enc Tryz.pinned.checked.prog Tryz.f3 (OpenSpec.ofChange Rows.arrayExactSpec)) (Rows.arrayExactSpec.post enc Tryz.pinned.checked.prog Tryz.f3 Rows.arrayExactRow.apart Rows.arrayExactRow.fresh Rows.arrayExactRow.handsOn Rows.arrayExactRow.again) :=
  arrayExact_lifted os started H enc
theorem arrayExact_holds : Rows.ArrayExactSaid :=
  OpenClaim.holds_of_wide 3 Tryz.f3 rfl rfl rfl rfl rfl rfl rfl ⟨rfl, rfl, rfl, rfl, rfl⟩ rfl rfl rfl rfl rfl arrayExact_named Tryz.func3 arrayExact_facts arrayExact_inst arrayExact_wrap
    (fun os started H enc _ => arrayExact_liftedRow os started H enc)
end Go.Proofs.YtkeadpmehphkgaaGreatDoor
