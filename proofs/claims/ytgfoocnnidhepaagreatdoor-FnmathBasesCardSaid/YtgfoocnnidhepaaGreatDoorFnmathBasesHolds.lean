/- gridironlaw17.FnmathBases answers 'true' for every argument, and leaves them as they were. Conditions: none. -/
import Derived.Test.YtgfoocnnidhepaaGreatDoorFnmathBasesWit
import Derived.Test.YtgfoocnnidhepaaGreatDoorFnmathBasesFacts
import Derived.Test.YtgfoocnnidhepaaGreatDoorFnmathBasesWrap
namespace Go.Proofs.YtgfoocnnidhepaaGreatDoor
open Go.ChangeShapes Go.WideShapes Go.ChangeAt Go.RowKit Go.ChangeMaps
theorem fnmathBases_liftedRow (os : Os) (started : os.Started) (H : Type) (enc : TypeId × Value → H) :
    ReturnsInHanded Rows.fnmathBasesRow.assume Tryz.pinned.checked os 6 .any (Rows.fnmathBasesRow.pre enc Tryz.pinned.checked.prog Tryz.f6 (OpenSpec.ofChange Rows.fnmathBasesSpec)) (Rows.fnmathBasesSpec.post enc Tryz.pinned.checked.prog Tryz.f6 Rows.fnmathBasesRow.apart Rows.fnmathBasesRow.fresh Rows.fnmathBasesRow.handsOn Rows.fnmathBasesRow.again) :=
  fnmathBases_lifted os started H enc
theorem fnmathBases_holds : Rows.FnmathBasesSaid :=
  OpenClaim.holds_of_wide 6 Tryz.f6 rfl rfl rfl rfl rfl rfl rfl ⟨rfl, rfl, rfl, rfl, rfl⟩ rfl rfl rfl rfl rfl fnmathBases_named Tryz.func6 fnmathBases_facts fnmathBases_inst fnmathBases_wrap
    (fun os started H enc _ => fnmathBases_liftedRow os started H enc)
end Go.Proofs.YtgfoocnnidhepaaGreatDoor
