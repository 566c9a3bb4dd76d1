/- gridironlaw21.FnlookNames answers 'true' for every text, and leaves the text as it was; the listed variables start as the program's text lays them. Conditions: none. -/
import Derived.Test.YtfpkapfpcbgcgaaGreatDoorFnlookNamesWit
import Derived.Test.YtfpkapfpcbgcgaaGreatDoorFnlookNamesFacts
import Derived.Test.YtfpkapfpcbgcgaaGreatDoorFnlookNamesWrap
namespace Go.Proofs.YtfpkapfpcbgcgaaGreatDoor
open Go.ChangeShapes Go.WideShapes Go.ChangeAt Go.RowKit Go.ChangeMaps

theorem fnlookNames_liftedRow (os : Os) (started : os.Started) (H : Type) (enc : TypeId × Value → H) :
    ReturnsInHanded Rows.fnlookNamesRow.assume Tryz.pinned.checked os 4 .any (Rows.fnlookNamesRow.pre enc Tryz.pinned.checked.prog Tryz.f4 (OpenSpec.ofChange Rows.fnlookNamesSpec)) (Rows.fnlookNamesSpec.post enc Tryz.pinned.checked.prog Tryz.f4 Rows.fnlookNamesRow.apart Rows.fnlookNamesRow.fresh Rows.fnlookNamesRow.handsOn Rows.fnlookNamesRow.again) :=
  fnlookNames_lifted os started H enc
theorem fnlookNames_holds : Rows.FnlookNamesSaid :=
  OpenClaim.holds_of_wide 4 Tryz.f4 rfl rfl rfl rfl rfl rfl rfl ⟨rfl, rfl, rfl, rfl, rfl⟩ rfl rfl rfl rfl rfl fnlookNames_named Tryz.func4 fnlookNames_facts fnlookNames_inst fnlookNames_wrap
    (fun os started H enc _ => fnlookNames_liftedRow os started H enc)
end Go.Proofs.YtfpkapfpcbgcgaaGreatDoor
