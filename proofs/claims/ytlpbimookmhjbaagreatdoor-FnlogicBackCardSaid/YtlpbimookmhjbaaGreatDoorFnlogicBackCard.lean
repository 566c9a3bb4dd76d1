/- The card of the row of gridironlaw20.FnlogicBack, out of closed facts each shown by itself: the row holds, and its listed variables are tied to the program's text. Conditions: none. -/
import Derived.Test.YtlpbimookmhjbaaGreatDoorFnlogicBackHolds
import Derived.Test.YtlpbimookmhjbaaGreatDoorFnlogicBackGoes
import Derived.Test.YtlpbimookmhjbaaGreatDoorFnlogicBackLooks
namespace Go.Proofs.YtlpbimookmhjbaaGreatDoor
open Go.ChangeShapes Go.WideShapes Go.ChangeAt Go.RowKit Go.ChangeMaps
theorem fnlogicBack_wft : Rows.fnlogicBackRow.wfByText (OpenSpec.ofChange Rows.fnlogicBackSpec) = true := by kernel_rfl
theorem fnlogicBack_params : Tryz.f5.params = #[3] := by kernel_rfl
theorem fnlogicBack_stand : ([3].all fun u => !Tryz.pinned.checked.prog.wantsStandIn u) = true := by kernel_rfl
theorem fnlogicBack_card : Rows.FnlogicBackCardSaid :=
  Claim7.holds_tied_plain_at .later [] _ _ _ _ fnlogicBack_holds (fun _ h => by cases h) fnlogicBack_wft (fun _ h => by cases h) fnlogicBack_row_tie rfl ⟨rfl, rfl⟩ (by kernel_rfl) rfl
    (fun f fn hf hfn => by
      obtain rfl : f = 5 := Option.some.inj (fnlogicBack_named.symm.trans hf) |>.symm
      obtain rfl : fn = Tryz.f5 := (Option.some.inj (Tryz.func5.symm.trans hfn)).symm
      exact ⟨fnlogicBack_looks, fun j t ht => by
        rw [fnlogicBack_params] at ht
        have hm : t ∈ [3] := by simpa using Array.mem_of_getElem? ht
        simpa using List.all_eq_true.1 fnlogicBack_stand t hm⟩)
    fnlogicBack_goes
end Go.Proofs.YtlpbimookmhjbaaGreatDoor
