/- gridironlaw17.FnmathDivides answers 'true' for every argument, and leaves them as they were. Conditions: none. -/
import Derived.Test.YtgfoocnnidhepaaGreatDoorFnmathDividesWit
import Derived.Test.YtgfoocnnidhepaaGreatDoorFnmathDividesFacts
import Derived.Test.YtgfoocnnidhepaaGreatDoorFnmathDividesWrap
namespace Go.Proofs.YtgfoocnnidhepaaGreatDoor
open Go.ChangeShapes Go.WideShapes Go.ChangeAt Go.RowKit Go.ChangeMaps
theorem fnmathDivides_liftedRow (os : Os) (started : os.Started) (H : Type) (enc : TypeId × Value → H) :
    ReturnsInHanded Rows.fnmathDividesRow.assume Tryz.pinned.checked os 3 .any (Rows.fnmathDividesRow.pre enc Tryz.pinned.checked.prog Tryz.f3 (OpenSpec.ofChange Rows.fnmathDividesSpec)) (Rows.fnmathDividesSpec.post enc Tryz.pinned.checked.prog Tryz.f3 Rows.fnmathDividesRow.apart Rows.fnmathDividesRow.fresh Rows.fnmathDividesRow.handsOn Rows.fnmathDividesRow.again) :=
  fnmathDivides_lifted os started H enc
theorem fnmathDivides_holds : Rows.FnmathDividesSaid :=
  OpenClaim.holds_of_wide 3 Tryz.f3 rfl rfl rfl rfl rfl rfl rfl ⟨rfl, rfl, rfl, rfl, rfl⟩ rfl rfl rfl rfl rfl fnmathDivides_named Tryz.func3 fnmathDivides_facts fnmathDivides_inst fnmathDivides_wrap
    (fun os started H enc _ => fnmathDivides_liftedRow os started H enc)
end Go.Proofs.YtgfoocnnidhepaaGreatDoor
