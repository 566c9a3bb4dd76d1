/- gridironlaw19.FntextNames answers 'true' for every text, and leaves the text as it was; the listed variables start as the program's text lays them. Conditions: none. -/
import Derived.Test.YtfpkapfpcbgcgaaGreatDoorFntextNamesWit
import Derived.Test.YtfpkapfpcbgcgaaGreatDoorFntextNamesFacts
import Derived.Test.YtfpkapfpcbgcgaaGreatDoorFntextNamesWrap
namespace Go.Proofs.YtfpkapfpcbgcgaaGreatDoor
open Go.ChangeShapes Go.WideShapes Go.ChangeAt Go.RowKit Go.ChangeMaps

theorem fntextNames_liftedRow (os : Os) (started : os.Started) (H : Type) (enc : TypeId × Value → H) :
    ReturnsInHanded Rows.fntextNamesRow.assume Tryz.pinned.checked os 3 .any (Rows.fntextNamesRow.pre enc Tryz.pinned.checked.prog Tryz.f3 (OpenSpec.ofChange Rows.fntextNamesSpec)) (Rows.fntextNamesSpec.post enc Tryz.pinned.checked.prog Tryz.f3 Rows.fntextNamesRow.apart Rows.fntextNamesRow.fresh Rows.fntextNamesRow.handsOn Rows.fntextNamesRow.again) :=
  fntextNames_lifted os started H enc
theorem fntextNames_holds : Rows.FntextNamesSaid :=
  OpenClaim.holds_of_wide 3 Tryz.f3 rfl rfl rfl rfl rfl rfl rfl ⟨rfl, rfl, rfl, rfl, rfl⟩ rfl rfl rfl rfl rfl fntextNames_named Tryz.func3 fntextNames_facts fntextNames_inst fntextNames_wrap
    (fun os started H enc _ => fntextNames_liftedRow os started H enc)
end Go.Proofs.YtfpkapfpcbgcgaaGreatDoor
