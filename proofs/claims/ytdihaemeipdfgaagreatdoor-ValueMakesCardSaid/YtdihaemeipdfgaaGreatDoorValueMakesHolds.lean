/- gridironlaw09.ValueMakes answers 'true' for every argument, and leaves them as they were. Conditions: none. -/
import Derived.Test.YtdihaemeipdfgaaGreatDoorValueMakesWit
import Derived.Test.YtdihaemeipdfgaaGreatDoorValueMakesFacts
import Derived.Test.YtdihaemeipdfgaaGreatDoorValueMakesWrap
namespace Go.Proofs.YtdihaemeipdfgaaGreatDoor
open Go.ChangeShapes Go.WideShapes Go.ChangeAt Go.RowKit Go.ChangeMaps

theorem valueMakes_liftedRow (os : Os) (started : os.Started) (H : Type) (enc : TypeId × Value → H) :
    ReturnsInHanded Rows.valueMakesRow.assume Tryz.pinned.checked os 5 .any (Rows.valueMakesRow.pre enc Tryz.pinned.checked.prog Tryz.f5 (OpenSpec.ofChange Rows.valueMakesSpec)) (Rows.valueMakesSpec.post enc Tryz.pinned.checked.prog Tryz.f5 Rows.valueMakesRow.apart Rows.valueMakesRow.fresh Rows.valueMakesRow.handsOn Rows.valueMakesRow.again) :=
  valueMakes_lifted os started H enc
theorem valueMakes_holds : Rows.ValueMakesSaid :=
  OpenClaim.holds_of_wide 5 Tryz.f5 rfl rfl rfl rfl rfl rfl rfl ⟨rfl, rfl, rfl, rfl, rfl⟩ rfl rfl rfl rfl rfl valueMakes_named Tryz.func5 valueMakes_facts valueMakes_inst valueMakes_wrap
    (fun os started H enc _ => valueMakes_liftedRow os started H enc)
end Go.Proofs.YtdihaemeipdfgaaGreatDoor
