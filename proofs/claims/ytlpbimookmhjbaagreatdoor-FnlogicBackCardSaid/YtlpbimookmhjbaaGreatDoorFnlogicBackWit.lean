/- gridironlaw20.FnlogicBack answers 'true' for every argument, and leaves them as they were. Conditions: none. -/
import Derived.Test.YtlpbimookmhjbaaGreatDoorEvFacts
import Derived.Test.YtlpbimookmhjbaaGreatDoorTie
import Derived.Test.YtlpbimookmhjbaaGreatDoorCards
import Derived.Test.YtlpbimookmhjbaaGreatDoorFnlogicBackWalk
import Derived.ProofKit
import Derived.OpenShut
import Derived.Carry
import Derived.ShutString
import Derived.Laws.Cover2
import Derived.LaidMore
import Derived.Lay
import Derived.SevenTiedAt
import Derived.Stop.Joined
namespace Go.Proofs.YtlpbimookmhjbaaGreatDoor
open Go.ChangeShapes Go.WideShapes Go.ChangeAt Go.RowKit Go.ChangeMaps
theorem fnlogicBack_own : ownKnob Tryz.prog.godebug = none := by kernel_rfl
theorem fnlogicBack_und0 : Tryz.prog.underlying 3 = some (.int .i64) := by kernel_rfl
theorem fnlogicBack_undB : Tryz.prog.underlying 4 = some .bool := by kernel_rfl
set_option maxRecDepth 100000 in
theorem fnlogicBack_lifted (os : Os) (started : os.Started) (H : Type) (enc : TypeId × Value → H) :
    ReturnsInHanded {} Tryz.checked os 5 .any (fun w args => (Rows.fnlogicBackSpec.pre enc Tryz.prog Tryz.f5 Rows.fnlogicBackRow.domain false w args ∧ laidMetH Tryz.prog Rows.fnlogicBackRow.laid w) ∧ sizedMet enc Tryz.prog Tryz.f5 (OpenSpec.ofChange Rows.fnlogicBackSpec) false w args)
      (Rows.fnlogicBackSpec.post enc Tryz.prog Tryz.f5 false true false false) := by
  refine returnsInHanded_of_change_and (C := Tryz.checked) (X := fun w _ => laidMetH Tryz.prog Rows.fnlogicBackRow.laid w) (fun _ _ _ hh h => h.of_heap hh) fnlogicBack_own started (by kernel_rfl) Tryz.func5
    (ChangeSpec.witness_shaped (enc := enc) (C := Tryz.checked) (os := os) (X := fun w _ => laidMetH Tryz.prog Rows.fnlogicBackRow.laid w) false (World.laidAll Tryz.prog os Rows.fnlogicBackRow.laid) #[.int .i64 0] 8 (World.laidAll_os _ _ _)
      (World.shaped_of_ZipB (by kernel_rfl) (by kernel_rfl)) (by kernel_rfl) (by kernel_rfl) (by kernel_rfl)
      (by rw [MakeChecks.laidMetH_plain _ _ _ (by kernel_rfl)]; exact laidMet_laidAll _ (by kernel_rfl) (by kernel_rfl))) ?_
  intro W base args ds gs before hval0 hW _ _ _ _
  have hval : ∀ (j : Nat) t v, Tryz.f5.params[j]? = some t → args[j]? = some v → Value.okWide Tryz.prog W .any base t v := hval0
  have hW' := hW
  obtain ⟨p, q, hA0, hV, rfl, _, _⟩ := hW
  have hA : DataW.TrodAll enc Tryz.prog W 0 (fun _ => true) true Tryz.f5.params.toList args.toList ds p := hA0
  rw [show Tryz.f5.params = #[3] by kernel_rfl] at hA hval
  obtain ⟨v0, d0, rfl, rfl, h0⟩ := trodAll_one hA
  obtain ⟨rfl, rfl⟩ := trodVars_none hV
  obtain ⟨x0, rfl, rfl, rfl, w0⟩ := open_int fnlogicBack_und0 (hval 0 3 v0 rfl rfl) h0
  simp only [List.append_nil] at hW'
  refine (fnlogicBack_true x0 w0 W).mono fun e W' ⟨he, hb⟩ => ?_
  subst he
  exact ⟨_, rfl, _, _, _, [], _, [], hW', trodAll_mk1 (shut_bool fnlogicBack_undB _), trodAll_cons_mk (shut_int fnlogicBack_und0 w0) trodAll_mk0, rfl, hb.frame _, fun h => by cases h⟩
end Go.Proofs.YtlpbimookmhjbaaGreatDoor
