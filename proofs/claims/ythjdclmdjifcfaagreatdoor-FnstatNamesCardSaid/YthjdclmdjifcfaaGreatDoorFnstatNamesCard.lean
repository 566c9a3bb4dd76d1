/- The card of the row of gridironlaw18.FnstatNames, out of closed facts each shown by itself: the row holds, and its listed variables are tied to the program's text. Conditions: none. -/
import Derived.Test.YthjdclmdjifcfaaGreatDoorFnstatNamesHolds
import Derived.Test.YthjdclmdjifcfaaGreatDoorFnstatNamesGoes
import Derived.Test.YthjdclmdjifcfaaGreatDoorFnstatNamesLooks
namespace Go.Proofs.YthjdclmdjifcfaaGreatDoor
open Go.ChangeShapes Go.WideShapes Go.ChangeAt Go.RowKit Go.ChangeMaps

theorem fnstatNames_wft : Rows.fnstatNamesRow.wfByText (OpenSpec.ofChange Rows.fnstatNamesSpec) = true := by kernel_rfl
theorem fnstatNames_params : Tryz.f3.params = #[9] := by kernel_rfl
theorem fnstatNames_stand : ([9].all fun u => !Tryz.pinned.checked.prog.wantsStandIn u) = true := by kernel_rfl
theorem fnstatNames_card : Rows.FnstatNamesCardSaid :=
  Claim7.holds_tied_plain_at .later [] _ _ _ _ fnstatNames_holds (fun _ h => by cases h) fnstatNames_wft (fun _ h => by cases h) fnstatNames_row_tie rfl ⟨rfl, rfl⟩ (by kernel_rfl) rfl
    (fun f fn hf hfn => by
      obtain rfl : f = 3 := Option.some.inj (fnstatNames_named.symm.trans hf) |>.symm
      obtain rfl : fn = Tryz.f3 := (Option.some.inj (Tryz.func3.symm.trans hfn)).symm
      exact ⟨fnstatNames_looks, fun j t ht => by
        rw [fnstatNames_params] at ht
        have hm : t ∈ [9] := by simpa using Array.mem_of_getElem? ht
        simpa using List.all_eq_true.1 fnstatNames_stand t hm⟩)
    fnstatNames_goes
end Go.Proofs.YthjdclmdjifcfaaGreatDoor
