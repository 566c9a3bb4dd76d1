/- gridironlaw08.NumberDates answers 'true' for every argument, and leaves them as they were. Conditions: none. -/
import Derived.Test.YtdihaemeipdfgaaGreatDoorNumberDatesWit
import Derived.Test.YtdihaemeipdfgaaGreatDoorNumberDatesFacts
import Derived.Test.YtdihaemeipdfgaaGreatDoorNumberDatesWrap
namespace Go.Proofs.YtdihaemeipdfgaaGreatDoor
open Go.ChangeShapes Go.WideShapes Go.ChangeAt Go.RowKit Go.ChangeMaps

theorem numberDates_liftedRow (os : Os) (started : os.Started) (H : Type) (enc : TypeId × Value → H) :
    ReturnsInHanded Rows.numberDatesRow.assume Tryz.pinned.checked os 4 .any (Rows.numberDatesRow.pre enc Tryz.pinned.checked.prog Tryz.f4 (OpenSpec.ofChange Rows.numberDatesSpec)) (Rows.numberDatesSpec.post enc Tryz.pinned.checked.prog Tryz.f4 Rows.numberDatesRow.apart Rows.numberDatesRow.fresh Rows.numberDatesRow.handsOn Rows.numberDatesRow.again) :=
  numberDates_lifted os started H enc
theorem numberDates_holds : Rows.NumberDatesSaid :=
  OpenClaim.holds_of_wide 4 Tryz.f4 rfl rfl rfl rfl rfl rfl rfl ⟨rfl, rfl, rfl, rfl, rfl⟩ rfl rfl rfl rfl rfl numberDates_named Tryz.func4 numberDates_facts numberDates_inst numberDates_wrap
    (fun os started H enc _ => numberDates_liftedRow os started H enc)
end Go.Proofs.YtdihaemeipdfgaaGreatDoor
