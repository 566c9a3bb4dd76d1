/- gridironlaw17.FnmathDivides answers 'true' for every argument, and leaves them as they were. Conditions: none. -/
import Derived.Test.YtgfoocnnidhepaaGreatDoorEvFacts
import Derived.Test.YtgfoocnnidhepaaGreatDoorTie
import Derived.Test.YtgfoocnnidhepaaGreatDoorCards
import Derived.Test.YtgfoocnnidhepaaGreatDoorFnmathDividesWalk
import Derived.ProofKit
import Derived.OpenShut
import Derived.Carry
import Derived.ShutString
import Derived.Laws.Cover2
import Derived.LaidMore
import Derived.Lay
import Derived.SevenTiedAt
import Derived.Stop.Joined
namespace Go.Proofs.YtgfoocnnidhepaaGreatDoor
open Go.ChangeShapes Go.WideShapes Go.ChangeAt Go.RowKit Go.ChangeMaps
theorem fnmathDivides_own : ownKnob Tryz.prog.godebug = none := by kernel_rfl
theorem fnmathDivides_und0 : Tryz.prog.underlying 22 = some (.int .u32) := by kernel_rfl
theorem fnmathDivides_und1 : Tryz.prog.underlying 22 = some (.int .u32) := by kernel_rfl
theorem fnmathDivides_undB : Tryz.prog.underlying 4 = some .bool := by kernel_rfl
set_option maxRecDepth 100000 in
theorem fnmathDivides_lifted (os : Os) (started : os.Started) (H : Type) (enc : TypeId × Value → H) :
    ReturnsInHanded {} Tryz.checked os 3 .any (fun w args => (Rows.fnmathDividesSpec.pre enc Tryz.prog Tryz.f3 Rows.fnmathDividesRow.domain false w args ∧ laidMetH Tryz.prog Rows.fnmathDividesRow.laid w) ∧ sizedMet enc Tryz.prog Tryz.f3 (OpenSpec.ofChange Rows.fnmathDividesSpec) false w args)
      (Rows.fnmathDividesSpec.post enc Tryz.prog Tryz.f3 false true false false) := by
  refine returnsInHanded_of_change_and (C := Tryz.checked) (X := fun w _ => laidMetH Tryz.prog Rows.fnmathDividesRow.laid w) (fun _ _ _ hh h => h.of_heap hh) fnmathDivides_own started (by kernel_rfl) Tryz.func3
    (ChangeSpec.witness_shaped (enc := enc) (C := Tryz.checked) (os := os) (X := fun w _ => laidMetH Tryz.prog Rows.fnmathDividesRow.laid w) false (World.laidAll Tryz.prog os Rows.fnmathDividesRow.laid) #[.int .u32 0, .int .u32 0] 8 (World.laidAll_os _ _ _)
      (World.shaped_of_ZipB (by kernel_rfl) (by kernel_rfl)) (by kernel_rfl) (by kernel_rfl) (by kernel_rfl)
      (by rw [MakeChecks.laidMetH_plain _ _ _ (by kernel_rfl)]; exact laidMet_laidAll _ (by kernel_rfl) (by kernel_rfl))) ?_
  intro W base args ds gs before hval0 hW _ _ _ _
  have hval : ∀ (j : Nat) t v, Tryz.f3.params[j]? = some t → args[j]? = some v → Value.okWide Tryz.prog W .any base t v := hval0
  have hW' := hW
  obtain ⟨p, q, hA0, hV, rfl, _, _⟩ := hW
  have hA : DataW.TrodAll enc Tryz.prog W 0 (fun _ => true) true Tryz.f3.params.toList args.toList ds p := hA0
  rw [show Tryz.f3.params = #[22, 22] by kernel_rfl] at hA hval
  obtain ⟨v0, v1, d0, d1, p0, p1, rfl, rfl, rfl, h0, h1⟩ := trodAll_two hA
  obtain ⟨rfl, rfl⟩ := trodVars_none hV
  obtain ⟨x0, rfl, rfl, rfl, w0⟩ := open_int fnmathDivides_und0 (hval 0 22 v0 rfl rfl) h0
  obtain ⟨x1, rfl, rfl, rfl, w1⟩ := open_int fnmathDivides_und1 (hval 1 22 v1 rfl rfl) h1
  simp only [List.append_nil] at hW'
  refine (fnmathDivides_true x0 w0 x1 w1 W).mono fun e W' ⟨he, hb⟩ => ?_
  subst he
  exact ⟨_, rfl, _, _, _, [], _, [], hW', trodAll_mk1 (shut_bool fnmathDivides_undB _), trodAll_cons_mk (shut_int fnmathDivides_und0 w0) (trodAll_cons_mk (shut_int fnmathDivides_und1 w1) trodAll_mk0), rfl, hb.frame _, fun h => by cases h⟩
end Go.Proofs.YtgfoocnnidhepaaGreatDoor
