/- gridironlaw18.FnstatNames answers 'true' for every text, and leaves the text as it was; the listed variables start as the program's text lays them. Conditions: none. -/
import Derived.Test.YthjdclmdjifcfaaGreatDoorFnstatNamesWit
import Derived.Test.YthjdclmdjifcfaaGreatDoorFnstatNamesFacts
import Derived.Test.YthjdclmdjifcfaaGreatDoorFnstatNamesWrap
namespace Go.Proofs.YthjdclmdjifcfaaGreatDoor
open Go.ChangeShapes Go.WideShapes Go.ChangeAt Go.RowKit Go.ChangeMaps

theorem fnstatNames_liftedRow (os : Os) (started : os.Started) (H : Type) (enc : TypeId × Value → H) :
    ReturnsInHanded Rows.fnstatNamesRow.assume Tryz.pinned.checked os 3 .any (Rows.fnstatNamesRow.pre enc Tryz.pinned.checked.prog Tryz.f3 (OpenSpec.ofChange Rows.fnstatNamesSpec)) (Rows.fnstatNamesSpec.post enc Tryz.pinned.checked.prog Tryz.f3 Rows.fnstatNamesRow.apart Rows.fnstatNamesRow.fresh Rows.fnstatNamesRow.handsOn Rows.fnstatNamesRow.again) :=
  fnstatNames_lifted os started H enc
theorem fnstatNames_holds : Rows.FnstatNamesSaid :=
  OpenClaim.holds_of_wide 3 Tryz.f3 rfl rfl rfl rfl rfl rfl rfl ⟨rfl, rfl, rfl, rfl, rfl⟩ rfl rfl rfl rfl rfl fnstatNames_named Tryz.func3 fnstatNames_facts fnstatNames_inst fnstatNames_wrap
    (fun os started H enc _ => fnstatNames_liftedRow os started H enc)
end Go.Proofs.YthjdclmdjifcfaaGreatDoor
