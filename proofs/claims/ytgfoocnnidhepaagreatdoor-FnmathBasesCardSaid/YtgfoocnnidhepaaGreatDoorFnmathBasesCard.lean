/- The card of the row of gridironlaw17.FnmathBases, out of closed facts each shown by itself: the row holds, and its listed variables are tied to the program's text. Conditions: none. -/
import Derived.Test.YtgfoocnnidhepaaGreatDoorFnmathBasesHolds
import Derived.Test.YtgfoocnnidhepaaGreatDoorFnmathBasesGoes
import Derived.Test.YtgfoocnnidhepaaGreatDoorFnmathBasesLooks
namespace Go.Proofs.YtgfoocnnidhepaaGreatDoor
open Go.ChangeShapes Go.WideShapes Go.ChangeAt Go.RowKit Go.ChangeMaps
theorem fnmathBases_wft : Rows.fnmathBasesRow.wfByText (OpenSpec.ofChange Rows.fnmathBasesSpec) = true := by kernel_rfl
theorem fnmathBases_params : Tryz.f6.params = #[40, 5, 41] := by kernel_rfl
theorem fnmathBases_stand : ([40, 5, 41].all fun u => !Tryz.pinned.checked.prog.wantsStandIn u) = true := by kernel_rfl
theorem fnmathBases_card : Rows.FnmathBasesCardSaid :=
  Claim7.holds_tied_plain_at .later [] _ _ _ _ fnmathBases_holds (fun _ h => by cases h) fnmathBases_wft (fun _ h => by cases h) fnmathBases_row_tie rfl ⟨rfl, rfl⟩ (by kernel_rfl) rfl
    (fun f fn hf hfn => by
      obtain rfl : f = 6 := Option.some.inj (fnmathBases_named.symm.trans hf) |>.symm
      obtain rfl : fn = Tryz.f6 := (Option.some.inj (Tryz.func6.symm.trans hfn)).symm
      exact ⟨fnmathBases_looks, fun j t ht => by
        rw [fnmathBases_params] at ht
        have hm : t ∈ [40, 5, 41] := by simpa using Array.mem_of_getElem? ht
        simpa using List.all_eq_true.1 fnmathBases_stand t hm⟩)
    fnmathBases_goes
end Go.Proofs.YtgfoocnnidhepaaGreatDoor
