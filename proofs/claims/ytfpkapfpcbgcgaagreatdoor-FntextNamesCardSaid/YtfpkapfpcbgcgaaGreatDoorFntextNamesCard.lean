/- The card of the row of gridironlaw19.FntextNames, out of closed facts each shown by itself: the row holds, and its listed variables are tied to the program's text. Conditions: none. -/
import Derived.Test.YtfpkapfpcbgcgaaGreatDoorFntextNamesHolds
import Derived.Test.YtfpkapfpcbgcgaaGreatDoorFntextNamesGoes
import Derived.Test.YtfpkapfpcbgcgaaGreatDoorFntextNamesLooks
namespace Go.Proofs.YtfpkapfpcbgcgaaGreatDoor
open Go.ChangeShapes Go.WideShapes Go.ChangeAt Go.RowKit Go.ChangeMaps

theorem fntextNames_wft : Rows.fntextNamesRow.wfByText (OpenSpec.ofChange Rows.fntextNamesSpec) = true := by kernel_rfl
theorem fntextNames_params : Tryz.f3.params = #[9] := by kernel_rfl
theorem fntextNames_stand : ([9].all fun u => !Tryz.pinned.checked.prog.wantsStandIn u) = true := by kernel_rfl
theorem fntextNames_card : Rows.FntextNamesCardSaid :=
  Claim7.holds_tied_plain_at .later [] _ _ _ _ fntextNames_holds (fun _ h => by cases h) fntextNames_wft (fun _ h => by cases h) fntextNames_row_tie rfl ⟨rfl, rfl⟩ (by kernel_rfl) rfl
    (fun f fn hf hfn => by
      obtain rfl : f = 3 := Option.some.inj (fntextNames_named.symm.trans hf) |>.symm
      obtain rfl : fn = Tryz.f3 := (Option.some.inj (Tryz.func3.symm.trans hfn)).symm
      exact ⟨fntextNames_looks, fun j t ht => by
        rw [fntextNames_params] at ht
        have hm : t ∈ [9] := by simpa using Array.mem_of_getElem? ht
        simpa using List.all_eq_true.1 fntextNames_stand t hm⟩)
    fntextNames_goes
end Go.Proofs.YtfpkapfpcbgcgaaGreatDoor
