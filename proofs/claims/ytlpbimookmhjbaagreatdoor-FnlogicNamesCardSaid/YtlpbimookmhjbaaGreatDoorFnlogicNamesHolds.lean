/- gridironlaw20.FnlogicNames answers 'true' for every text, and leaves the text as it was; the listed variables start as the program's text lays them. Conditions: none. -/
import Derived.Test.YtlpbimookmhjbaaGreatDoorFnlogicNamesWit
import Derived.Test.YtlpbimookmhjbaaGreatDoorFnlogicNamesFacts
import Derived.Test.YtlpbimookmhjbaaGreatDoorFnlogicNamesWrap
namespace Go.Proofs.YtlpbimookmhjbaaGreatDoor
open Go.ChangeShapes Go.WideShapes Go.ChangeAt Go.RowKit Go.ChangeMaps

theorem fnlogicNames_liftedRow (os : Os) (started : os.Started) (H : Type) (enc : TypeId × Value → H) :
    ReturnsInHanded Rows.fnlogicNamesRow.assume Tryz.pinned.checked os 3 .any (Rows.fnlogicNamesRow.pre enc Tryz.pinned.checked.prog Tryz.f3 (OpenSpec.ofChange Rows.fnlogicNamesSpec)) (Rows.fnlogicNamesSpec.post enc Tryz.pinned.checked.prog Tryz.f3 Rows.fnlogicNamesRow.apart Rows.fnlogicNamesRow.fresh Rows.fnlogicNamesRow.handsOn Rows.fnlogicNamesRow.again) :=
  fnlogicNames_lifted os started H enc
theorem fnlogicNames_holds : Rows.FnlogicNamesSaid :=
  OpenClaim.holds_of_wide 3 Tryz.f3 rfl rfl rfl rfl rfl rfl rfl ⟨rfl, rfl, rfl, rfl, rfl⟩ rfl rfl rfl rfl rfl fnlogicNames_named Tryz.func3 fnlogicNames_facts fnlogicNames_inst fnlogicNames_wrap
    (fun os started H enc _ => fnlogicNames_liftedRow os started H enc)
end Go.Proofs.YtlpbimookmhjbaaGreatDoor
