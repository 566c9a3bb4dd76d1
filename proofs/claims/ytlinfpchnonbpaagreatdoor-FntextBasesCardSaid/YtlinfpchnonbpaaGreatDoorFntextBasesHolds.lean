/- gridironlaw19.FntextBases answers 'true' for every argument, and leaves them as they were. Conditions: none. -/
import Derived.Test.YtlinfpchnonbpaaGreatDoorFntextBasesWit
import Derived.Test.YtlinfpchnonbpaaGreatDoorFntextBasesFacts
import Derived.Test.YtlinfpchnonbpaaGreatDoorFntextBasesWrap
namespace Go.Proofs.YtlinfpchnonbpaaGreatDoor
open Go.ChangeShapes Go.WideShapes Go.ChangeAt Go.RowKit Go.ChangeMaps
theorem fntextBases_liftedRow (os : Os) (started : os.Started) (H : Type) (enc : TypeId × Value → H) :
    ReturnsInHanded Rows.fntextBasesRow.assume Tryz.pinned.checked os 3 .any (Rows.fntextBasesRow.pre enc Tryz.pinned.checked.prog Tryz.f3 (OpenSpec.ofChange Rows.fntextBasesSpec)) (Rows.fntextBasesSpec.post enc Tryz.pinned.checked.prog Tryz.f3 Rows.fntextBasesRow.apart Rows.fntextBasesRow.fresh Rows.fntextBasesRow.handsOn Rows.fntextBasesRow.again) :=
  fntextBases_lifted os started H enc
theorem fntextBases_holds : Rows.FntextBasesSaid :=
  OpenClaim.holds_of_wide 3 Tryz.f3 rfl rfl rfl rfl rfl rfl rfl ⟨rfl, rfl, rfl, rfl, rfl⟩ rfl rfl rfl rfl rfl fntextBases_named Tryz.func3 fntextBases_facts fntextBases_inst fntextBases_wrap
    (fun os started H enc _ => fntextBases_liftedRow os started H enc)
end Go.Proofs.YtlinfpchnonbpaaGreatDoor
