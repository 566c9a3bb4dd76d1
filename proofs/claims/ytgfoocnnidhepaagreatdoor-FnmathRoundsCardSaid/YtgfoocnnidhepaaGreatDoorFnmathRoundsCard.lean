/- The card of the row of gridironlaw17.FnmathRounds, out of closed facts each shown by itself: the row holds, and its listed variables are tied to the program's text. Conditions: none. -/
import Derived.Test.YtgfoocnnidhepaaGreatDoorFnmathRoundsHolds
import Derived.Test.YtgfoocnnidhepaaGreatDoorFnmathRoundsGoes
import Derived.Test.YtgfoocnnidhepaaGreatDoorFnmathRoundsLooks
namespace Go.Proofs.YtgfoocnnidhepaaGreatDoor
open Go.ChangeShapes Go.WideShapes Go.ChangeAt Go.RowKit Go.ChangeMaps
theorem fnmathRounds_wft : Rows.fnmathRoundsRow.wfByText (OpenSpec.ofChange Rows.fnmathRoundsSpec) = true := by kernel_rfl
theorem fnmathRounds_params : Tryz.f4.params = #[21, 5] := by kernel_rfl
theorem fnmathRounds_stand : ([21, 5].all fun u => !Tryz.pinned.checked.prog.wantsStandIn u) = true := by kernel_rfl
theorem fnmathRounds_card : Rows.FnmathRoundsCardSaid :=
  Claim7.holds_tied_plain_at .later [] _ _ _ _ fnmathRounds_holds (fun _ h => by cases h) fnmathRounds_wft (fun _ h => by cases h) fnmathRounds_row_tie rfl ⟨rfl, rfl⟩ (by kernel_rfl) rfl
    (fun f fn hf hfn => by
      obtain rfl : f = 4 := Option.some.inj (fnmathRounds_named.symm.trans hf) |>.symm
      obtain rfl : fn = Tryz.f4 := (Option.some.inj (Tryz.func4.symm.trans hfn)).symm
      exact ⟨fnmathRounds_looks, fun j t ht => by
        rw [fnmathRounds_params] at ht
        have hm : t ∈ [21, 5] := by simpa using Array.mem_of_getElem? ht
        simpa using List.all_eq_true.1 fnmathRounds_stand t hm⟩)
    fnmathRounds_goes
end Go.Proofs.YtgfoocnnidhepaaGreatDoor
