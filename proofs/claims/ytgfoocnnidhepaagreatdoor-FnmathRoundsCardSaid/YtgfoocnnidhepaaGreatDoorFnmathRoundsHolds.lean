/- gridironlaw17.FnmathRounds answers 'true' for every argument, and leaves them as they were. Conditions: none. -/
import Derived.Test.YtgfoocnnidhepaaGreatDoorFnmathRoundsWit
import Derived.Test.YtgfoocnnidhepaaGreatDoorFnmathRoundsFacts
import Derived.Test.YtgfoocnnidhepaaGreatDoorFnmathRoundsWrap
namespace Go.Proofs.YtgfoocnnidhepaaGreatDoor
open Go.ChangeShapes Go.WideShapes Go.ChangeAt Go.RowKit Go.ChangeMaps
theorem fnmathRounds_liftedRow (os : Os) (started : os.Started) (H : Type) (enc : TypeId × Value → H) :
    ReturnsInHanded Rows.fnmathRoundsRow.assume Tryz.pinned.checked os 4 .any (Rows.fnmathRoundsRow.pre enc Tryz.pinned.checked.prog Tryz.f4 (OpenSpec.ofChange Rows.fnmathRoundsSpec)) (Rows.fnmathRoundsSpec.post enc Tryz.pinned.checked.prog Tryz.f4 Rows.fnmathRoundsRow.apart Rows.fnmathRoundsRow.fresh Rows.fnmathRoundsRow.handsOn Rows.fnmathRoundsRow.again) :=
  fnmathRounds_lifted os started H enc
theorem fnmathRounds_holds : Rows.FnmathRoundsSaid :=
  OpenClaim.holds_of_wide 4 Tryz.f4 rfl rfl rfl rfl rfl rfl rfl ⟨rfl, rfl, rfl, rfl, rfl⟩ rfl rfl rfl rfl rfl fnmathRounds_named Tryz.func4 fnmathRounds_facts fnmathRounds_inst fnmathRounds_wrap
    (fun os started H enc _ => fnmathRounds_liftedRow os started H enc)
end Go.Proofs.YtgfoocnnidhepaaGreatDoor
