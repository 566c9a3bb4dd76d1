/- gridironlaw09.ValueMakes answers 'true' for every argument, and leaves them as they were. Conditions: none. -/
import Derived.Test.YtdihaemeipdfgaaGreatDoorEvFrame
import Derived.Test.YtdihaemeipdfgaaGreatDoorTie
import Derived.Test.YtdihaemeipdfgaaGreatDoorCards
import Derived.Test.YtdihaemeipdfgaaGreatDoorValueMakesWalk
import Derived.ProofKit
import Derived.OpenShut
import Derived.Carry
import Derived.ShutString
import Derived.Laws.Cover2
import Derived.LaidMore
import Derived.Lay
import Derived.SevenTiedAt
import Derived.Stop.Joined
namespace Go.Proofs.YtdihaemeipdfgaaGreatDoor
open Go.ChangeShapes Go.WideShapes Go.ChangeAt Go.RowKit Go.ChangeMaps Go.Proofs.Num

theorem valueMakes_own : ownKnob Tryz.prog.godebug = none := by kernel_rfl
theorem valueMakes_und0 : Tryz.prog.underlying 33 = some (.int .u64) := by kernel_rfl
theorem valueMakes_und1 : Tryz.prog.underlying 9 = some (.string) := by kernel_rfl
theorem valueMakes_und2 : Tryz.prog.underlying 4 = some (.bool) := by kernel_rfl
theorem valueMakes_und3 : Tryz.prog.underlying 3 = some (.int .i64) := by kernel_rfl
theorem valueMakes_undB : Tryz.prog.underlying 4 = some .bool := by kernel_rfl

set_option maxRecDepth 100000 in
theorem valueMakes_lifted (os : Os) (started : os.Started) (H : Type) (enc : TypeId × Value → H) :
    ReturnsInHanded {} Tryz.checked os 5 .any (fun w args => (Rows.valueMakesSpec.pre enc Tryz.prog Tryz.f5 Rows.valueMakesRow.domain false w args ∧ laidMetH Tryz.prog Rows.valueMakesRow.laid w) ∧ sizedMet enc Tryz.prog Tryz.f5 (OpenSpec.ofChange Rows.valueMakesSpec) false w args)
      (Rows.valueMakesSpec.post enc Tryz.prog Tryz.f5 false true false false) := by
  refine returnsInHanded_of_change_and (C := Tryz.checked) (X := fun w _ => laidMetH Tryz.prog Rows.valueMakesRow.laid w) (fun _ _ _ hh h => h.of_heap hh) valueMakes_own started (by kernel_rfl) Tryz.func5
    (ChangeSpec.witness_shaped (enc := enc) (C := Tryz.checked) (os := os) (X := fun w _ => laidMetH Tryz.prog Rows.valueMakesRow.laid w) false (World.laidAll Tryz.prog os Rows.valueMakesRow.laid) #[.int .u64 0, .string ⟨#[]⟩, .bool false, .int .i64 0] 8 (World.laidAll_os _ _ _)
      (World.shaped_of_ZipB (by kernel_rfl) (by kernel_rfl)) (by kernel_rfl) (by kernel_rfl) (by kernel_rfl)
      (by rw [MakeChecks.laidMetH_plain _ _ _ (by kernel_rfl)]; exact laidMet_laidAll _ (by kernel_rfl) (by kernel_rfl))) ?_
  intro W base args ds gs before hval0 hW _ _ hL _
  have hval : ∀ (j : Nat) t v, Tryz.f5.params[j]? = some t → args[j]? = some v → Value.okWide Tryz.prog W .any base t v := hval0
  have hW' := hW
  obtain ⟨p, q, hA0, hV, rfl, _, _⟩ := hW
  have hA : DataW.TrodAll enc Tryz.prog W 0 (fun _ => true) true Tryz.f5.params.toList args.toList ds p := hA0
  rw [show Tryz.f5.params = #[33, 9, 4, 3] by kernel_rfl] at hA hval
  obtain ⟨v0, v1, v2, v3, d0, d1, d2, d3, p0, p1, p2, p3, rfl, rfl, rfl, h0, h1, h2, h3⟩ := trodAll_four hA
  obtain ⟨rfl, rfl⟩ := trodVars_none hV
  obtain ⟨x0, rfl, rfl, rfl, w0⟩ := open_int valueMakes_und0 (hval 0 33 v0 rfl rfl) h0
  obtain ⟨x1, rfl, rfl, rfl, w1⟩ := open_string valueMakes_und1 (hval 1 9 v1 rfl rfl) h1
  obtain ⟨x2, rfl, rfl, rfl⟩ := Go.Ev.open_boolE valueMakes_und2 (hval 2 4 v2 rfl rfl) h2
  obtain ⟨x3, rfl, rfl, rfl, w3⟩ := open_int valueMakes_und3 (hval 3 3 v3 rfl rfl) h3
  have hL' : laidMetH Tryz.prog Rows.valueMakesRow.laid W := hL
  rw [MakeChecks.laidMetH_plain _ _ _ (by kernel_rfl)] at hL'
  have hI : Go.Ev.Holds vm W := Go.Ev.gItems_ok hL' vm_eq
  simp only [List.append_nil] at hW'
  refine (valueMakes_true x0 w0 x1 x2 x3 w3 W hI).mono fun e W' ⟨he, hb⟩ => ?_
  subst he
  exact ⟨_, rfl, _, _, _, [], _, [], hW', trodAll_mk1 (shut_bool valueMakes_undB _), trodAll_cons_mk (shut_int valueMakes_und0 w0) (trodAll_cons_mk (shut_string valueMakes_und1 w1) (trodAll_cons_mk (shut_bool valueMakes_und2 x2) (trodAll_cons_mk (shut_int valueMakes_und3 w3) trodAll_mk0))), rfl, hb.frame _, fun h => by cases h⟩
end Go.Proofs.YtdihaemeipdfgaaGreatDoor
