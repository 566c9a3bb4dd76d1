/- gridironlaw08.NumberDays answers 'true' for every argument, and leaves them as they were. Conditions: none. -/
import Derived.Test.YtdihaemeipdfgaaGreatDoorNumberDaysWit
import Derived.Test.YtdihaemeipdfgaaGreatDoorNumberDaysFacts
import Derived.Test.YtdihaemeipdfgaaGreatDoorNumberDaysWrap
namespace Go.Proofs.YtdihaemeipdfgaaGreatDoor
open Go.ChangeShapes Go.WideShapes Go.ChangeAt Go.RowKit Go.ChangeMaps

theorem numberDays_liftedRow (os : Os) (started : os.Started) (H : Type) (enc : TypeId × Value → H) :
    ReturnsInHanded Rows.numberDaysRow.assume Tryz.pinned.checked os 3 .any (Rows.numberDaysRow.pre enc Tryz.pinned.checked.prog Tryz.f3 (OpenSpec.ofChange Rows.numberDaysSpec)) (Rows.numberDaysSpec.post enc Tryz.pinned.checked.prog Tryz.f3 Rows.numberDaysRow.apart Rows.numberDaysRow.fresh Rows.numberDaysRow.handsOn Rows.numberDaysRow.again) :=
  numberDays_lifted os started H enc
theorem numberDays_holds : Rows.NumberDaysSaid :=
  OpenClaim.holds_of_wide 3 Tryz.f3 rfl rfl rfl rfl rfl rfl rfl ⟨rfl, rfl, rfl, rfl, rfl⟩ rfl rfl rfl rfl rfl numberDays_named Tryz.func3 numberDays_facts numberDays_inst numberDays_wrap
    (fun os started H enc _ => numberDays_liftedRow os started H enc)
end Go.Proofs.YtdihaemeipdfgaaGreatDoor
