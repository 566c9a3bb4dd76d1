/- gridironlaw20.FnlogicNames answers 'true' for every text, and leaves the text as it was; the listed variables start as the program's text lays them. Conditions: none. -/
import Derived.Test.YtlpbimookmhjbaaGreatDoorTie
import Derived.Test.YtlpbimookmhjbaaGreatDoorCards
import Derived.Test.YtlpbimookmhjbaaGreatDoorFnlogicNamesWalk
import Derived.ProofKit
import Derived.OpenShut
import Derived.ShutString
import Derived.LaidMore
import Derived.Lay
import Derived.SevenTiedAt
import Derived.Stop.Joined
namespace Go.Proofs.YtlpbimookmhjbaaGreatDoor
open Go.ChangeShapes Go.WideShapes Go.ChangeAt Go.RowKit Go.ChangeMaps

theorem fnlogicNames_own : ownKnob Tryz.prog.godebug = none := by kernel_rfl
theorem fnlogicNames_und1 : Tryz.prog.underlying 9 = some .string := by kernel_rfl
theorem fnlogicNames_undB : Tryz.prog.underlying 4 = some .bool := by kernel_rfl

set_option maxRecDepth 100000 in
theorem fnlogicNames_lifted (os : Os) (started : os.Started) (H : Type) (enc : TypeId × Value → H) :
    ReturnsInHanded {} Tryz.checked os 3 .any (fun w args => (Rows.fnlogicNamesSpec.pre enc Tryz.prog Tryz.f3 Rows.fnlogicNamesRow.domain false w args ∧ laidMetH Tryz.prog Rows.fnlogicNamesRow.laid w) ∧ sizedMet enc Tryz.prog Tryz.f3 (OpenSpec.ofChange Rows.fnlogicNamesSpec) false w args)
      (Rows.fnlogicNamesSpec.post enc Tryz.prog Tryz.f3 false true false false) := by
  refine returnsInHanded_of_change_and (C := Tryz.checked) (X := fun w _ => laidMetH Tryz.prog Rows.fnlogicNamesRow.laid w) (fun _ _ _ hh h => h.of_heap hh) fnlogicNames_own started (by kernel_rfl) Tryz.func3
    (ChangeSpec.witness_shaped (enc := enc) (C := Tryz.checked) (os := os) (X := fun w _ => laidMetH Tryz.prog Rows.fnlogicNamesRow.laid w) false (World.laidAll Tryz.prog os Rows.fnlogicNamesRow.laid) #[.string ⟨#[]⟩] 8 (World.laidAll_os _ _ _)
      (World.shaped_of_ZipB (by kernel_rfl) (by kernel_rfl)) (by kernel_rfl) (by kernel_rfl) (by kernel_rfl)
      (by rw [MakeChecks.laidMetH_plain _ _ _ (by kernel_rfl)]; exact laidMet_laidAll _ (by kernel_rfl) (by kernel_rfl))) ?_
  intro W base args ds gs before hval0 hW _ _ _ _
  have hval : ∀ (j : Nat) t v, Tryz.f3.params[j]? = some t → args[j]? = some v → Value.okWide Tryz.prog W .any base t v := hval0
  have hW' := hW
  obtain ⟨p, q, hA0, hV, rfl, _, _⟩ := hW
  have hA : DataW.TrodAll enc Tryz.prog W 0 (fun _ => true) true Tryz.f3.params.toList args.toList ds p := hA0
  rw [show Tryz.f3.params = #[9] by kernel_rfl] at hA hval
  obtain ⟨v0, d0, rfl, rfl, h0⟩ := trodAll_one hA
  obtain ⟨rfl, rfl⟩ := trodVars_none hV
  obtain ⟨s, rfl, rfl, rfl, hs⟩ := open_string fnlogicNames_und1 (hval 0 9 v0 rfl rfl) h0
  simp only [List.append_nil] at hW'
  refine (fnlogicNames_true s W).mono fun e W' ⟨he, hb⟩ => ?_
  subst he
  exact ⟨_, rfl, _, _, _, [], _, [], hW', trodAll_mk1 (shut_bool fnlogicNames_undB _), trodAll_mk1 (shut_string fnlogicNames_und1 hs), rfl, hb.frame _, fun h => by cases h⟩

end Go.Proofs.YtlpbimookmhjbaaGreatDoor
