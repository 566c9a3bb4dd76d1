/- The card of the row of gridironlaw16.ArrayExact, out of closed facts each shown by itself: the row holds, and its listed variables are tied to the program's text. Conditions: none. -/
import Derived.Test.YtkeadpmehphkgaaGreatDoorArrayExactHolds
import Derived.Test.YtkeadpmehphkgaaGreatDoorArrayExactGoes
import Derived.Test.YtkeadpmehphkgaaGreatDoorArrayExactLooks
namespace Go.Proofs.YtkeadpmehphkgaaGreatDoor
open Go.ChangeShapes Go.WideShapes Go.ChangeAt Go.RowKit Go.ChangeMaps
theorem arrayExact_wft : Rows.arrayExactRow.wfByText (OpenSpec.ofChange Rows.arrayExactSpec) = true := by kernel_rfl
theorem arrayExact_params : Tryz.f3.params = #[22, 22, 3] := by kernel_rfl
theorem arrayExact_stand : ([22, 22, 3].all fun u => !Tryz.pinned.checked.prog.wantsStandIn u) = true := by kernel_rfl
theorem arrayExact_card : Rows.ArrayExactCardSaid :=
  Claim7.holds_tied_plain_at .later [] _ _ _ _ arrayExact_holds (fun _ h => by cases h) arrayExact_wft (fun _ h => by cases h) arrayExact_row_tie rfl ⟨rfl, rfl⟩ (by kernel_rfl) rfl
    (fun f fn hf hfn => by
      obtain rfl : f = 3 := Option.some.inj (arrayExact_named.symm.trans hf) |>.symm
      obtain rfl : fn = Tryz.f3 := (Option.some.inj (Tryz.func3.symm.trans hfn)).symm
      exact ⟨arrayExact_looks, fun j t ht => by
        rw [arrayExact_params] at ht
        have hm : t ∈ [22, 22, 3] := by simpa using Array.mem_of_getElem? ht
        simpa using List.all_eq_true.1 arrayExact_stand t hm⟩)
    arrayExact_goes
end Go.Proofs.YtkeadpmehphkgaaGreatDoor
