/- gridironlaw20.FnlogicBack answers 'true' for every argument, and leaves them as they were. Conditions: none. -/
import Derived.Test.YtlpbimookmhjbaaGreatDoorFnlogicBackWit
import Derived.Test.YtlpbimookmhjbaaGreatDoorFnlogicBackFacts
import Derived.Test.YtlpbimookmhjbaaGreatDoorFnlogicBackWrap
namespace Go.Proofs.YtlpbimookmhjbaaGreatDoor
open Go.ChangeShapes Go.WideShapes Go.ChangeAt Go.RowKit Go.ChangeMaps
theorem fnlogicBack_liftedRow (os : Os) (started : os.Started) (H : Type) (enc : TypeId × Value → H) :
    ReturnsInHanded Rows.fnlogicBackRow.assume Tryz.pinned.checked os 5 .any (Rows.fnlogicBackRow.pre enc Tryz.pinned.checked.prog Tryz.f5 (OpenSpec.ofChange Rows.fnlogicBackSpec)) (Rows.fnlogicBackSpec.post enc Tryz.pinned.checked.prog Tryz.f5 Rows.fnlogicBackRow.apart Rows.fnlogicBackRow.fresh Rows.fnlogicBackRow.handsOn Rows.fnlogicBackRow.again) :=
  fnlogicBack_lifted os started H enc
theorem fnlogicBack_holds : Rows.FnlogicBackSaid :=
  OpenClaim.holds_of_wide 5 Tryz.f5 rfl rfl rfl rfl rfl rfl rfl ⟨rfl, rfl, rfl, rfl, rfl⟩ rfl rfl rfl rfl rfl fnlogicBack_named Tryz.func5 fnlogicBack_facts fnlogicBack_inst fnlogicBack_wrap
    (fun os started H enc _ => fnlogicBack_liftedRow os started H enc)
end Go.Proofs.YtlpbimookmhjbaaGreatDoor
