/- The card of the row of gridironlaw17.FnmathDivides, out of closed facts each shown by itself: the row holds, and its listed variables are tied to the program's text. Conditions: none. -/
import Derived.Test.YtgfoocnnidhepaaGreatDoorFnmathDividesHolds
import Derived.Test.YtgfoocnnidhepaaGreatDoorFnmathDividesGoes
import Derived.Test.YtgfoocnnidhepaaGreatDoorFnmathDividesLooks
namespace Go.Proofs.YtgfoocnnidhepaaGreatDoor
open Go.ChangeShapes Go.WideShapes Go.ChangeAt Go.RowKit Go.ChangeMaps
theorem fnmathDivides_wft : Rows.fnmathDividesRow.wfByText (OpenSpec.ofChange Rows.fnmathDividesSpec) = true := by kernel_rfl
theorem fnmathDivides_params : Tryz.f3.params = #[22, 22] := by kernel_rfl
theorem fnmathDivides_stand : ([22, 22].all fun u => !Tryz.pinned.checked.prog.wantsStandIn u) = true := by kernel_rfl
theorem fnmathDivides_card : Rows.FnmathDividesCardSaid :=
  Claim7.holds_tied_plain_at .later [] _ _ _ _ fnmathDivides_holds (fun _ h => by cases h) fnmathDivides_wft (fun _ h => by cases h) fnmathDivides_row_tie rfl ⟨rfl, rfl⟩ (by kernel_rfl) rfl
    (fun f fn hf hfn => by
      obtain rfl : f = 3 := Option.some.inj (fnmathDivides_named.symm.trans hf) |>.symm
      obtain rfl : fn = Tryz.f3 := (Option.some.inj (Tryz.func3.symm.trans hfn)).symm
      exact ⟨fnmathDivides_looks, fun j t ht => by
        rw [fnmathDivides_params] at ht
        have hm : t ∈ [22, 22] := by simpa using Array.mem_of_getElem? ht
        simpa using List.all_eq_true.1 fnmathDivides_stand t hm⟩)
    fnmathDivides_goes
end Go.Proofs.YtgfoocnnidhepaaGreatDoor
