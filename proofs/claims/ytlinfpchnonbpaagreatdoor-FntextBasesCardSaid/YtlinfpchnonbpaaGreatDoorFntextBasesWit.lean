/- gridironlaw19.FntextBases answers 'true' for every argument, and leaves them as they were. Conditions: none. -/
import Derived.Test.YtlinfpchnonbpaaGreatDoorEvFacts
import Derived.Test.YtlinfpchnonbpaaGreatDoorTie
import Derived.Test.YtlinfpchnonbpaaGreatDoorCards
import Derived.Test.YtlinfpchnonbpaaGreatDoorFntextBasesWalk
import Derived.Lib.LaidU8T
import Derived.ProofKit
import Derived.OpenShut
import Derived.Carry
import Derived.ShutString
import Derived.Laws.Cover2
import Derived.LaidMore
import Derived.Lay
import Derived.SevenTiedAt
import Derived.Stop.Joined
namespace Go.Proofs.YtlinfpchnonbpaaGreatDoor
open Go.ChangeShapes Go.WideShapes Go.ChangeAt Go.RowKit Go.ChangeMaps
theorem fntextBases_own : ownKnob Tryz.prog.godebug = none := by kernel_rfl
theorem fntextBases_und0 : Tryz.prog.underlying 2 = some (.int .i64) := by kernel_rfl
theorem fntextBases_undB : Tryz.prog.underlying 4 = some .bool := by kernel_rfl
set_option maxRecDepth 100000 in
theorem fntextBases_lifted (os : Os) (started : os.Started) (H : Type) (enc : TypeId × Value → H) :
    ReturnsInHanded {} Tryz.checked os 3 .any (fun w args => (Rows.fntextBasesSpec.pre enc Tryz.prog Tryz.f3 Rows.fntextBasesRow.domain false w args ∧ laidMetH Tryz.prog Rows.fntextBasesRow.laid w) ∧ sizedMet enc Tryz.prog Tryz.f3 (OpenSpec.ofChange Rows.fntextBasesSpec) false w args)
      (Rows.fntextBasesSpec.post enc Tryz.prog Tryz.f3 false true false false) := by
  refine returnsInHanded_of_change_and (C := Tryz.checked) (X := fun w _ => laidMetH Tryz.prog Rows.fntextBasesRow.laid w) (fun _ _ _ hh h => h.of_heap hh) fntextBases_own started (by kernel_rfl) Tryz.func3
    (ChangeSpec.witness_shaped (enc := enc) (C := Tryz.checked) (os := os) (X := fun w _ => laidMetH Tryz.prog Rows.fntextBasesRow.laid w) false (World.laidAll Tryz.prog os Rows.fntextBasesRow.laid) #[.int .i64 0] 8 (World.laidAll_os _ _ _)
      (World.shaped_of_ZipB (by kernel_rfl) (by kernel_rfl)) (by kernel_rfl) (by kernel_rfl) (by kernel_rfl)
      (by rw [MakeChecks.laidMetH_plain _ _ _ (by kernel_rfl)]; exact laidMet_laidAll _ (by kernel_rfl) (by kernel_rfl))) ?_
  intro W base args ds gs before hval0 hW _ _ hL _
  have hval : ∀ (j : Nat) t v, Tryz.f3.params[j]? = some t → args[j]? = some v → Value.okWide Tryz.prog W .any base t v := hval0
  have hW' := hW
  obtain ⟨p, q, hA0, hV, rfl, _, _⟩ := hW
  have hA : DataW.TrodAll enc Tryz.prog W 0 (fun _ => true) true Tryz.f3.params.toList args.toList ds p := hA0
  rw [show Tryz.f3.params = #[2] by kernel_rfl] at hA hval
  obtain ⟨v0, d0, rfl, rfl, h0⟩ := trodAll_one hA
  obtain ⟨rfl, rfl⟩ := trodVars_none hV
  obtain ⟨x0, rfl, rfl, rfl, w0⟩ := open_int fntextBases_und0 (hval 0 2 v0 rfl rfl) h0
  have hL' : laidMetH Tryz.prog Rows.fntextBasesRow.laid W := hL
  rw [MakeChecks.laidMetH_plain _ _ _ (by kernel_rfl)] at hL'
  have hI : Go.Proofs.Bs.Tabs W := utf8Tabs_of_readsT (U8Types.of196 Tryz.laysValid) ⟨by kernel_rfl, by kernel_rfl, by kernel_rfl, by kernel_rfl, by kernel_rfl, by kernel_rfl, by kernel_rfl⟩
    (Lib.laidMet.reads hL' (List.mem_of_getElem? (i := 15) (by kernel_rfl))) (Lib.laidMet.reads hL' (List.mem_of_getElem? (i := 9) (by kernel_rfl)))
  simp only [List.append_nil] at hW'
  refine (fntextBases_true x0 w0 W hI).mono fun e W' ⟨he, hb⟩ => ?_
  subst he
  exact ⟨_, rfl, _, _, _, [], _, [], hW', trodAll_mk1 (shut_bool fntextBases_undB _), trodAll_cons_mk (shut_int fntextBases_und0 w0) trodAll_mk0, rfl, hb.frame _, fun h => by cases h⟩
end Go.Proofs.YtlinfpchnonbpaaGreatDoor
