/- The card of the row of gridironlaw19.FntextParts, out of closed facts each shown by itself: the row holds, and its listed variables are tied to the program's text. Conditions: none. -/
import Derived.Test.YtlinfpchnonbpaaGreatDoorFntextPartsHolds
import Derived.Test.YtlinfpchnonbpaaGreatDoorFntextPartsGoes
import Derived.Test.YtlinfpchnonbpaaGreatDoorFntextPartsLooks
namespace Go.Proofs.YtlinfpchnonbpaaGreatDoor
open Go.ChangeShapes Go.WideShapes Go.ChangeAt Go.RowKit Go.ChangeMaps
theorem fntextParts_wft : Rows.fntextPartsRow.wfByText (OpenSpec.ofChange Rows.fntextPartsSpec) = true := by kernel_rfl
theorem fntextParts_params : Tryz.f4.params = #[9, 5] := by kernel_rfl
theorem fntextParts_stand : ([9, 5].all fun u => !Tryz.pinned.checked.prog.wantsStandIn u) = true := by kernel_rfl
theorem fntextParts_card : Rows.FntextPartsCardSaid :=
  Claim7.holds_tied_plain_at .later [] _ _ _ _ fntextParts_holds (fun _ h => by cases h) fntextParts_wft (fun _ h => by cases h) fntextParts_row_tie rfl ⟨rfl, rfl⟩ (by kernel_rfl) rfl
    (fun f fn hf hfn => by
      obtain rfl : f = 4 := Option.some.inj (fntextParts_named.symm.trans hf) |>.symm
      obtain rfl : fn = Tryz.f4 := (Option.some.inj (Tryz.func4.symm.trans hfn)).symm
      exact ⟨fntextParts_looks, fun j t ht => by
        rw [fntextParts_params] at ht
        have hm : t ∈ [9, 5] := by simpa using Array.mem_of_getElem? ht
        simpa using List.all_eq_true.1 fntextParts_stand t hm⟩)
    fntextParts_goes
end Go.Proofs.YtlinfpchnonbpaaGreatDoor
