/- The card of the row of gridironlaw08.NumberDates, out of closed facts each shown by itself: the row holds, and its listed variables are tied to the program's text. Conditions: none. -/
import Derived.Test.YtdihaemeipdfgaaGreatDoorNumberDatesHolds
import Derived.Test.YtdihaemeipdfgaaGreatDoorNumberDatesGoes
import Derived.Test.YtdihaemeipdfgaaGreatDoorNumberDatesLooks
namespace Go.Proofs.YtdihaemeipdfgaaGreatDoor
open Go.ChangeShapes Go.WideShapes Go.ChangeAt Go.RowKit Go.ChangeMaps

theorem numberDates_wft : Rows.numberDatesRow.wfByText (OpenSpec.ofChange Rows.numberDatesSpec) = true := by kernel_rfl
theorem numberDates_params : Tryz.f4.params = #[35] := by kernel_rfl
theorem numberDates_stand : ([35].all fun u => !Tryz.pinned.checked.prog.wantsStandIn u) = true := by kernel_rfl
theorem numberDates_card : Rows.NumberDatesCardSaid :=
  Claim7.holds_tied_plain_at .later [] _ _ _ _ numberDates_holds (fun _ h => by cases h) numberDates_wft (fun _ h => by cases h) numberDates_row_tie rfl ⟨rfl, rfl⟩ (by kernel_rfl) rfl
    (fun f fn hf hfn => by
      obtain rfl : f = 4 := Option.some.inj (numberDates_named.symm.trans hf) |>.symm
      obtain rfl : fn = Tryz.f4 := (Option.some.inj (Tryz.func4.symm.trans hfn)).symm
      exact ⟨numberDates_looks, fun j t ht => by
        rw [numberDates_params] at ht
        have hm : t ∈ [35] := by simpa using Array.mem_of_getElem? ht
        simpa using List.all_eq_true.1 numberDates_stand t hm⟩)
    numberDates_goes
end Go.Proofs.YtdihaemeipdfgaaGreatDoor
