/- The card of the row of gridironlaw09.ValueMakes, out of closed facts each shown by itself: the row holds, and its listed variables are tied to the program's text. Conditions: none. -/
import Derived.Test.YtdihaemeipdfgaaGreatDoorValueMakesHolds
import Derived.Test.YtdihaemeipdfgaaGreatDoorValueMakesGoes
import Derived.Test.YtdihaemeipdfgaaGreatDoorValueMakesLooks
namespace Go.Proofs.YtdihaemeipdfgaaGreatDoor
open Go.ChangeShapes Go.WideShapes Go.ChangeAt Go.RowKit Go.ChangeMaps

theorem valueMakes_wft : Rows.valueMakesRow.wfByText (OpenSpec.ofChange Rows.valueMakesSpec) = true := by kernel_rfl
theorem valueMakes_params : Tryz.f5.params = #[33, 9, 4, 3] := by kernel_rfl
theorem valueMakes_stand : ([33, 9, 4, 3].all fun u => !Tryz.pinned.checked.prog.wantsStandIn u) = true := by kernel_rfl
theorem valueMakes_card : Rows.ValueMakesCardSaid :=
  Claim7.holds_tied_plain_at .later [] _ _ _ _ valueMakes_holds (fun _ h => by cases h) valueMakes_wft (fun _ h => by cases h) valueMakes_row_tie rfl ⟨rfl, rfl⟩ (by kernel_rfl) rfl
    (fun f fn hf hfn => by
      obtain rfl : f = 5 := Option.some.inj (valueMakes_named.symm.trans hf) |>.symm
      obtain rfl : fn = Tryz.f5 := (Option.some.inj (Tryz.func5.symm.trans hfn)).symm
      exact ⟨valueMakes_looks, fun j t ht => by
        rw [valueMakes_params] at ht
        have hm : t ∈ [33, 9, 4, 3] := by simpa using Array.mem_of_getElem? ht
        simpa using List.all_eq_true.1 valueMakes_stand t hm⟩)
    valueMakes_goes
end Go.Proofs.YtdihaemeipdfgaaGreatDoor
