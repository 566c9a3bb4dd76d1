/- gridironlaw19.FntextParts answers 'true' for every argument, and leaves them as they were. Conditions: none. -/
import Derived.Test.YtlinfpchnonbpaaGreatDoorFntextPartsWit
import Derived.Test.YtlinfpchnonbpaaGreatDoorFntextPartsFacts
import Derived.Test.YtlinfpchnonbpaaGreatDoorFntextPartsWrap
namespace Go.Proofs.YtlinfpchnonbpaaGreatDoor
open Go.ChangeShapes Go.WideShapes Go.ChangeAt Go.RowKit Go.ChangeMaps
theorem fntextParts_liftedRow (os : Os) (started : os.Started) (H : Type) (enc : TypeId × Value → H) :
    ReturnsInHanded Rows.fntextPartsRow.assume Tryz.pinned.checked os 4 .any (Rows.fntextPartsRow.pre enc Tryz.pinned.checked.prog Tryz.f4 (OpenSpec.ofChange Rows.fntextPartsSpec)) (Rows.fntextPartsSpec.post enc Tryz.pinned.checked.prog Tryz.f4 Rows.fntextPartsRow.apart Rows.fntextPartsRow.fresh Rows.fntextPartsRow.handsOn Rows.fntextPartsRow.again) :=
  fntextParts_lifted os started H enc
theorem fntextParts_holds : Rows.FntextPartsSaid :=
  OpenClaim.holds_of_wide 4 Tryz.f4 rfl rfl rfl rfl rfl rfl rfl ⟨rfl, rfl, rfl, rfl, rfl⟩ rfl rfl rfl rfl rfl fntextParts_named Tryz.func4 fntextParts_facts fntextParts_inst fntextParts_wrap
    (fun os started H enc _ => fntextParts_liftedRow os started H enc)
end Go.Proofs.YtlinfpchnonbpaaGreatDoor
