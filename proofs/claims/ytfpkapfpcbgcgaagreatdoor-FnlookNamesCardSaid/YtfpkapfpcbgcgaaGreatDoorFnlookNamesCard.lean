/- The card of the row of gridironlaw21.FnlookNames, out of closed facts each shown by itself: the row holds, and its listed variables are tied to the program's text. Conditions: none. -/
import Derived.Test.YtfpkapfpcbgcgaaGreatDoorFnlookNamesHolds
import Derived.Test.YtfpkapfpcbgcgaaGreatDoorFnlookNamesGoes
import Derived.Test.YtfpkapfpcbgcgaaGreatDoorFnlookNamesLooks
namespace Go.Proofs.YtfpkapfpcbgcgaaGreatDoor
open Go.ChangeShapes Go.WideShapes Go.ChangeAt Go.RowKit Go.ChangeMaps

theorem fnlookNames_wft : Rows.fnlookNamesRow.wfByText (OpenSpec.ofChange Rows.fnlookNamesSpec) = true := by kernel_rfl
theorem fnlookNames_params : Tryz.f4.params = #[9] := by kernel_rfl
theorem fnlookNames_stand : ([9].all fun u => !Tryz.pinned.checked.prog.wantsStandIn u) = true := by kernel_rfl
theorem fnlookNames_card : Rows.FnlookNamesCardSaid :=
  Claim7.holds_tied_plain_at .later [] _ _ _ _ fnlookNames_holds (fun _ h => by cases h) fnlookNames_wft (fun _ h => by cases h) fnlookNames_row_tie rfl ⟨rfl, rfl⟩ (by kernel_rfl) rfl
    (fun f fn hf hfn => by
      obtain rfl : f = 4 := Option.some.inj (fnlookNames_named.symm.trans hf) |>.symm
      obtain rfl : fn = Tryz.f4 := (Option.some.inj (Tryz.func4.symm.trans hfn)).symm
      exact ⟨fnlookNames_looks, fun j t ht => by
        rw [fnlookNames_params] at ht
        have hm : t ∈ [9] := by simpa using Array.mem_of_getElem? ht
        simpa using List.all_eq_true.1 fnlookNames_stand t hm⟩)
    fnlookNames_goes
end Go.Proofs.YtfpkapfpcbgcgaaGreatDoor
