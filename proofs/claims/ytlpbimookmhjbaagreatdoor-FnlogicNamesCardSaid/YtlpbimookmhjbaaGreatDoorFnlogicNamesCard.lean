/- The card of the row of gridironlaw20.FnlogicNames, out of closed facts each shown by itself: the row holds, and its listed variables are tied to the program's text. Conditions: none. -/
import Derived.Test.YtlpbimookmhjbaaGreatDoorFnlogicNamesHolds
import Derived.Test.YtlpbimookmhjbaaGreatDoorFnlogicNamesGoes
import Derived.Test.YtlpbimookmhjbaaGreatDoorFnlogicNamesLooks
namespace Go.Proofs.YtlpbimookmhjbaaGreatDoor
open Go.ChangeShapes Go.WideShapes Go.ChangeAt Go.RowKit Go.ChangeMaps

theorem fnlogicNames_wft : Rows.fnlogicNamesRow.wfByText (OpenSpec.ofChange Rows.fnlogicNamesSpec) = true := by kernel_rfl
theorem fnlogicNames_params : Tryz.f3.params = #[9] := by kernel_rfl
theorem fnlogicNames_stand : ([9].all fun u => !Tryz.pinned.checked.prog.wantsStandIn u) = true := by kernel_rfl
theorem fnlogicNames_card : Rows.FnlogicNamesCardSaid :=
  Claim7.holds_tied_plain_at .later [] _ _ _ _ fnlogicNames_holds (fun _ h => by cases h) fnlogicNames_wft (fun _ h => by cases h) fnlogicNames_row_tie rfl ⟨rfl, rfl⟩ (by kernel_rfl) rfl
    (fun f fn hf hfn => by
      obtain rfl : f = 3 := Option.some.inj (fnlogicNames_named.symm.trans hf) |>.symm
      obtain rfl : fn = Tryz.f3 := (Option.some.inj (Tryz.func3.symm.trans hfn)).symm
      exact ⟨fnlogicNames_looks, fun j t ht => by
        rw [fnlogicNames_params] at ht
        have hm : t ∈ [9] := by simpa using Array.mem_of_getElem? ht
        simpa using List.all_eq_true.1 fnlogicNames_stand t hm⟩)
    fnlogicNames_goes
end Go.Proofs.YtlpbimookmhjbaaGreatDoor
