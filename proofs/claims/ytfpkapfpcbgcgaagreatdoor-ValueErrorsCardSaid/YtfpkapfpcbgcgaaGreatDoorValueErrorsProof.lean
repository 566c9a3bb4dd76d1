/- gridironlaw09.ValueErrors answers 'true' for every int and every text, and leaves both as they were; the listed variables start as the program's text lays them. Conditions: none. -/
import Derived.Test.YtfpkapfpcbgcgaaGreatDoorTie
import Derived.Test.YtfpkapfpcbgcgaaGreatDoorCards
import Derived.Test.YtfpkapfpcbgcgaaGreatDoorValueErrorsWalk
import Derived.ProofKit
import Derived.OpenShut
import Derived.ShutString
import Derived.LaidMore
import Derived.Lay
import Derived.SevenTiedAt
import Derived.Stop.Joined
namespace Go.Proofs.YtfpkapfpcbgcgaaGreatDoor
open Go.ChangeShapes Go.WideShapes Go.ChangeAt Go.RowKit Go.ChangeMaps

theorem valueErrors_own : ownKnob Tryz.prog.godebug = none := by kernel_rfl
theorem valueErrors_und1 : Tryz.prog.underlying 9 = some .string := by kernel_rfl
theorem valueErrors_undI : Tryz.prog.underlying 3 = some (.int .i64) := by kernel_rfl
theorem valueErrors_undB : Tryz.prog.underlying 4 = some .bool := by kernel_rfl

set_option maxRecDepth 100000 in
theorem valueErrors_lifted (os : Os) (started : os.Started) (H : Type) (enc : TypeId × Value → H) :
    ReturnsInHanded {} Tryz.checked os 5 .any (fun w args => (Rows.valueErrorsSpec.pre enc Tryz.prog Tryz.f5 Rows.valueErrorsRow.domain false w args ∧ laidMetH Tryz.prog Rows.valueErrorsRow.laid w) ∧ sizedMet enc Tryz.prog Tryz.f5 (OpenSpec.ofChange Rows.valueErrorsSpec) false w args)
      (Rows.valueErrorsSpec.post enc Tryz.prog Tryz.f5 false true false false) := by
  refine returnsInHanded_of_change_and (C := Tryz.checked) (X := fun w _ => laidMetH Tryz.prog Rows.valueErrorsRow.laid w) (fun _ _ _ hh h => h.of_heap hh) valueErrors_own started (by kernel_rfl) Tryz.func5
    (ChangeSpec.witness_shaped (enc := enc) (C := Tryz.checked) (os := os) (X := fun w _ => laidMetH Tryz.prog Rows.valueErrorsRow.laid w) false (World.laidAll Tryz.prog os Rows.valueErrorsRow.laid) #[.int .i64 0, .string ⟨#[]⟩] 8 (World.laidAll_os _ _ _)
      (World.shaped_of_ZipB (by kernel_rfl) (by kernel_rfl)) (by kernel_rfl) (by kernel_rfl) (by kernel_rfl)
      (by rw [MakeChecks.laidMetH_plain _ _ _ (by kernel_rfl)]; exact laidMet_laidAll _ (by kernel_rfl) (by kernel_rfl))) ?_
  intro W base args ds gs before hval0 hW _ _ hL _
  have hval : ∀ (j : Nat) t v, Tryz.f5.params[j]? = some t → args[j]? = some v → Value.okWide Tryz.prog W .any base t v := hval0
  have hW' := hW
  obtain ⟨p, q, hA0, hV, rfl, _, _⟩ := hW
  have hA : DataW.TrodAll enc Tryz.prog W 0 (fun _ => true) true Tryz.f5.params.toList args.toList ds p := hA0
  rw [show Tryz.f5.params = #[3, 9] by kernel_rfl] at hA hval
  obtain ⟨v0, v1, d0, d1, p0, p1, rfl, rfl, rfl, h0, h1⟩ := trodAll_two hA
  obtain ⟨rfl, rfl⟩ := trodVars_none hV
  obtain ⟨x, rfl, rfl, rfl, wx⟩ := open_int valueErrors_undI (hval 0 3 v0 rfl rfl) h0
  obtain ⟨s, rfl, rfl, rfl, hs⟩ := open_string valueErrors_und1 (hval 1 9 v1 rfl rfl) h1
  have hL' : laidMetH Tryz.prog Rows.valueErrorsRow.laid W := hL
  rw [MakeChecks.laidMetH_plain _ _ _ (by kernel_rfl)] at hL'
  have hI : Go.Ev.Holds ve W := Go.Ev.gItems_ok hL' ve_eq
  simp only [List.append_nil] at hW'
  refine (valueErrors_true x s W hI).mono fun e W' ⟨he, hb⟩ => ?_
  subst he
  exact ⟨_, rfl, _, _, _, [], _, [], hW', trodAll_mk1 (shut_bool valueErrors_undB _), trodAll_cons_mk (shut_int valueErrors_undI wx) (trodAll_cons_mk (shut_string valueErrors_und1 hs) trodAll_mk0), rfl, hb.frame _, fun h => by cases h⟩

theorem valueErrors_wrap : Tryz.f5.isWrapper Tryz.pinned.checked.prog Rows.valueErrorsRow.wrapper Rows.valueErrorsRow.mainSum := by unfold Func.isWrapper; first | (rw [if_pos (by decide +kernel)]; kernel_rfl) | (rw [if_neg (by decide +kernel)]; exact ⟨rfl, rfl⟩)
theorem valueErrors_named : Tryz.pinned.checked.prog.funcNamed Rows.valueErrorsRow.func = some 5 := by kernel_rfl
theorem valueErrors_inst : Tryz.f5.isInstance Tryz.pinned.checked.prog Rows.valueErrorsRow.origin Rows.valueErrorsRow.targs := of_decide_eq_true (by kernel_rfl)
theorem valueErrors_facts : joinedFacts Tryz.pinned.checked.prog 5 Tryz.f5 Rows.valueErrorsSpec Rows.valueErrorsRow = true := by kernel_rfl
theorem valueErrors_liftedRow (os : Os) (started : os.Started) (H : Type) (enc : TypeId × Value → H) :
    ReturnsInHanded Rows.valueErrorsRow.assume Tryz.pinned.checked os 5 .any (Rows.valueErrorsRow.pre enc Tryz.pinned.checked.prog Tryz.f5 (OpenSpec.ofChange Rows.valueErrorsSpec)) (Rows.valueErrorsSpec.post enc Tryz.pinned.checked.prog Tryz.f5 Rows.valueErrorsRow.apart Rows.valueErrorsRow.fresh Rows.valueErrorsRow.handsOn Rows.valueErrorsRow.again) :=
  valueErrors_lifted os started H enc
theorem valueErrors_holds : Rows.ValueErrorsSaid :=
  OpenClaim.holds_of_wide 5 Tryz.f5 rfl rfl rfl rfl rfl rfl rfl ⟨rfl, rfl, rfl, rfl, rfl⟩ rfl rfl rfl rfl rfl valueErrors_named Tryz.func5 valueErrors_facts valueErrors_inst valueErrors_wrap
    (fun os started H enc _ => valueErrors_liftedRow os started H enc)
theorem valueErrors_card : Rows.ValueErrorsCardSaid :=
  Claim7.holds_tied_plain_at .later [] _ _ _ _ valueErrors_holds (fun _ h => by cases h) (by kernel_rfl) (fun _ h => by cases h) valueErrors_row_tie rfl ⟨rfl, rfl⟩ (by kernel_rfl) rfl
    (fun f fn hf hfn => by
      obtain rfl : f = 5 := Option.some.inj ((show Tryz.prog.funcNamed "gridiron/gridironlaw09.ValueErrors" = some 5 by kernel_rfl).symm.trans hf) |>.symm
      obtain rfl : fn = Tryz.f5 := (Option.some.inj (Tryz.func5.symm.trans hfn)).symm
      exact ⟨by kernel_rfl, fun j t ht => by
        rw [show Tryz.f5.params = #[3, 9] by kernel_rfl] at ht
        have hm : t ∈ [3, 9] := by simpa using Array.mem_of_getElem? ht
        have hall : ([3, 9].all fun u => !Tryz.prog.wantsStandIn u) = true := by kernel_rfl
        exact (show Tryz.prog.wantsStandIn t = false by simpa using List.all_eq_true.1 hall t hm)⟩)
    (by kernel_rfl)
end Go.Proofs.YtfpkapfpcbgcgaaGreatDoor
