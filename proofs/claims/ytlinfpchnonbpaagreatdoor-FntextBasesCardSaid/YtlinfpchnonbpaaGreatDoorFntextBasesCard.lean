/- The card of the row of gridironlaw19.FntextBases, out of closed facts each shown by itself: the row holds, and its listed variables are tied to the program's text. Conditions: none. -/
import Derived.Test.YtlinfpchnonbpaaGreatDoorFntextBasesHolds
import Derived.Test.YtlinfpchnonbpaaGreatDoorFntextBasesGoes
import Derived.Test.YtlinfpchnonbpaaGreatDoorFntextBasesLooks
namespace Go.Proofs.YtlinfpchnonbpaaGreatDoor
open Go.ChangeShapes Go.WideShapes Go.ChangeAt Go.RowKit Go.ChangeMaps
theorem fntextBases_wft : Rows.fntextBasesRow.wfByText (OpenSpec.ofChange Rows.fntextBasesSpec) = true := by kernel_rfl
theorem fntextBases_params : Tryz.f3.params = #[2] := by kernel_rfl
theorem fntextBases_stand : ([2].all fun u => !Tryz.pinned.checked.prog.wantsStandIn u) = true := by kernel_rfl
theorem fntextBases_card : Rows.FntextBasesCardSaid :=
  Claim7.holds_tied_plain_at .later [] _ _ _ _ fntextBases_holds (fun _ h => by cases h) fntextBases_wft (fun _ h => by cases h) fntextBases_row_tie rfl ⟨rfl, rfl⟩ (by kernel_rfl) rfl
    (fun f fn hf hfn => by
      obtain rfl : f = 3 := Option.some.inj (fntextBases_named.symm.trans hf) |>.symm
      obtain rfl : fn = Tryz.f3 := (Option.some.inj (Tryz.func3.symm.trans hfn)).symm
      exact ⟨fntextBases_looks, fun j t ht => by
        rw [fntextBases_params] at ht
        have hm : t ∈ [2] := by simpa using Array.mem_of_getElem? ht
        simpa using List.all_eq_true.1 fntextBases_stand t hm⟩)
    fntextBases_goes
end Go.Proofs.YtlinfpchnonbpaaGreatDoor
