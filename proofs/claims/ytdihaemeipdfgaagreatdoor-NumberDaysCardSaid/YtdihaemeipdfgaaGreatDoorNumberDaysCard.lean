/- The card of the row of gridironlaw08.NumberDays, out of closed facts each shown by itself: the row holds, and its listed variables are tied to the program's text. Conditions: none. -/
import Derived.Test.YtdihaemeipdfgaaGreatDoorNumberDaysHolds
import Derived.Test.YtdihaemeipdfgaaGreatDoorNumberDaysGoes
import Derived.Test.YtdihaemeipdfgaaGreatDoorNumberDaysLooks
namespace Go.Proofs.YtdihaemeipdfgaaGreatDoor
open Go.ChangeShapes Go.WideShapes Go.ChangeAt Go.RowKit Go.ChangeMaps

theorem numberDays_wft : Rows.numberDaysRow.wfByText (OpenSpec.ofChange Rows.numberDaysSpec) = true := by kernel_rfl
theorem numberDays_params : Tryz.f3.params = #[22] := by kernel_rfl
theorem numberDays_stand : ([22].all fun u => !Tryz.pinned.checked.prog.wantsStandIn u) = true := by kernel_rfl
theorem numberDays_card : Rows.NumberDaysCardSaid :=
  Claim7.holds_tied_plain_at .later [] _ _ _ _ numberDays_holds (fun _ h => by cases h) numberDays_wft (fun _ h => by cases h) numberDays_row_tie rfl ⟨rfl, rfl⟩ (by kernel_rfl) rfl
    (fun f fn hf hfn => by
      obtain rfl : f = 3 := Option.some.inj (numberDays_named.symm.trans hf) |>.symm
      obtain rfl : fn = Tryz.f3 := (Option.some.inj (Tryz.func3.symm.trans hfn)).symm
      exact ⟨numberDays_looks, fun j t ht => by
        rw [numberDays_params] at ht
        have hm : t ∈ [22] := by simpa using Array.mem_of_getElem? ht
        simpa using List.all_eq_true.1 numberDays_stand t hm⟩)
    numberDays_goes
end Go.Proofs.YtdihaemeipdfgaaGreatDoor
