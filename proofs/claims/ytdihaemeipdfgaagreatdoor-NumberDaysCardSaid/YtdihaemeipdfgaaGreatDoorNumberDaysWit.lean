/- gridironlaw08.NumberDays answers 'true' for every argument, and leaves them as they were. Conditions: none. -/
import Derived.Test.YtdihaemeipdfgaaGreatDoorTie
import Derived.Test.YtdihaemeipdfgaaGreatDoorCards
import Derived.Test.YtdihaemeipdfgaaGreatDoorNumberDaysWalk
import Derived.ProofKit
import Derived.OpenShut
import Derived.ShutString
import Derived.Laws.Cover2
import Derived.LaidMore
import Derived.Lay
import Derived.SevenTiedAt
import Derived.Stop.Joined
namespace Go.Proofs.YtdihaemeipdfgaaGreatDoor
open Go.ChangeShapes Go.WideShapes Go.ChangeAt Go.RowKit Go.ChangeMaps Go.Proofs.Num

theorem numberDays_own : ownKnob Tryz.prog.godebug = none := by kernel_rfl
theorem numberDays_und0 : Tryz.prog.underlying 22 = some (.int .u32) := by kernel_rfl
theorem numberDays_undB : Tryz.prog.underlying 4 = some .bool := by kernel_rfl

set_option maxRecDepth 100000 in
theorem numberDays_lifted (os : Os) (started : os.Started) (H : Type) (enc : TypeId × Value → H) :
    ReturnsInHanded {} Tryz.checked os 3 .any (fun w args => (Rows.numberDaysSpec.pre enc Tryz.prog Tryz.f3 Rows.numberDaysRow.domain false w args ∧ laidMetH Tryz.prog Rows.numberDaysRow.laid w) ∧ sizedMet enc Tryz.prog Tryz.f3 (OpenSpec.ofChange Rows.numberDaysSpec) false w args)
      (Rows.numberDaysSpec.post enc Tryz.prog Tryz.f3 false true false false) := by
  refine returnsInHanded_of_change_and (C := Tryz.checked) (X := fun w _ => laidMetH Tryz.prog Rows.numberDaysRow.laid w) (fun _ _ _ hh h => h.of_heap hh) numberDays_own started (by kernel_rfl) Tryz.func3
    (ChangeSpec.witness_shaped (enc := enc) (C := Tryz.checked) (os := os) (X := fun w _ => laidMetH Tryz.prog Rows.numberDaysRow.laid w) false (World.laidAll Tryz.prog os Rows.numberDaysRow.laid) #[.int .u32 0] 8 (World.laidAll_os _ _ _)
      (World.shaped_of_ZipB (by kernel_rfl) (by kernel_rfl)) (by kernel_rfl) (by kernel_rfl) (by kernel_rfl)
      (by rw [MakeChecks.laidMetH_plain _ _ _ (by kernel_rfl)]; exact laidMet_laidAll _ (by kernel_rfl) (by kernel_rfl))) ?_
  intro W base args ds gs before hval0 hW _ _ hL _
  have hval : ∀ (j : Nat) t v, Tryz.f3.params[j]? = some t → args[j]? = some v → Value.okWide Tryz.prog W .any base t v := hval0
  have hW' := hW
  obtain ⟨p, q, hA0, hV, rfl, _, _⟩ := hW
  have hA : DataW.TrodAll enc Tryz.prog W 0 (fun _ => true) true Tryz.f3.params.toList args.toList ds p := hA0
  rw [show Tryz.f3.params = #[22] by kernel_rfl] at hA hval
  obtain ⟨v0, d0, rfl, rfl, h0⟩ := trodAll_one hA
  obtain ⟨rfl, rfl⟩ := trodVars_none hV
  obtain ⟨x0, rfl, rfl, rfl, w0⟩ := open_int numberDays_und0 (hval 0 22 v0 rfl rfl) h0
  have hL' : laidMetH Tryz.prog Rows.numberDaysRow.laid W := hL
  rw [MakeChecks.laidMetH_plain _ _ _ (by kernel_rfl)] at hL'
  have hI : Go.Ev.Holds nl W := Go.Ev.gItems_ok hL' nl_eq
  simp only [List.append_nil] at hW'
  refine (numberDays_true x0 w0 W hI).mono fun e W' ⟨he, hb⟩ => ?_
  subst he
  exact ⟨_, rfl, _, _, _, [], _, [], hW', trodAll_mk1 (shut_bool numberDays_undB _), trodAll_cons_mk (shut_int numberDays_und0 w0) trodAll_mk0, rfl, hb.frame _, fun h => by cases h⟩
end Go.Proofs.YtdihaemeipdfgaaGreatDoor
