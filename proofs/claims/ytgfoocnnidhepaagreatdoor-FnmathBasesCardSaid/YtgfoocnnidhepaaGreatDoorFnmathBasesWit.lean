/- gridironlaw17.FnmathBases answers 'true' for every argument, and leaves them as they were. Conditions: none. -/
import Derived.Test.YtgfoocnnidhepaaGreatDoorEvFacts
import Derived.Test.YtgfoocnnidhepaaGreatDoorTie
import Derived.Test.YtgfoocnnidhepaaGreatDoorCards
import Derived.Test.YtgfoocnnidhepaaGreatDoorFnmathBasesWalk
import Derived.Lib.LaidU8T
import Derived.ProofKit
import Derived.OpenShut
import Derived.Carry
import Derived.ShutString
import Derived.Laws.Cover2
import Derived.LaidMore
import Derived.Lay
import Derived.SevenTiedAt
import Derived.Stop.Joined
namespace Go.Proofs.YtgfoocnnidhepaaGreatDoor
open Go.ChangeShapes Go.WideShapes Go.ChangeAt Go.RowKit Go.ChangeMaps
theorem fnmathBases_own : ownKnob Tryz.prog.godebug = none := by kernel_rfl
theorem fnmathBases_und0 : Tryz.prog.underlying 40 = some (.int .u64) := by kernel_rfl
theorem fnmathBases_und1 : Tryz.prog.underlying 5 = some (.int .u8) := by kernel_rfl
theorem fnmathBases_und2 : Tryz.prog.underlying 41 = some (.int .u16) := by kernel_rfl
theorem fnmathBases_undB : Tryz.prog.underlying 4 = some .bool := by kernel_rfl
set_option maxRecDepth 100000 in
theorem fnmathBases_lifted (os : Os) (started : os.Started) (H : Type) (enc : TypeId × Value → H) :
    ReturnsInHanded {} Tryz.checked os 6 .any (fun w args => (Rows.fnmathBasesSpec.pre enc Tryz.prog Tryz.f6 Rows.fnmathBasesRow.domain false w args ∧ laidMetH Tryz.prog Rows.fnmathBasesRow.laid w) ∧ sizedMet enc Tryz.prog Tryz.f6 (OpenSpec.ofChange Rows.fnmathBasesSpec) false w args)
      (Rows.fnmathBasesSpec.post enc Tryz.prog Tryz.f6 false true false false) := by
  refine returnsInHanded_of_change_and (C := Tryz.checked) (X := fun w _ => laidMetH Tryz.prog Rows.fnmathBasesRow.laid w) (fun _ _ _ hh h => h.of_heap hh) fnmathBases_own started (by kernel_rfl) Tryz.func6
    (ChangeSpec.witness_shaped (enc := enc) (C := Tryz.checked) (os := os) (X := fun w _ => laidMetH Tryz.prog Rows.fnmathBasesRow.laid w) false (World.laidAll Tryz.prog os Rows.fnmathBasesRow.laid) #[.int .u64 0, .int .u8 0, .int .u16 0] 8 (World.laidAll_os _ _ _)
      (World.shaped_of_ZipB (by kernel_rfl) (by kernel_rfl)) (by kernel_rfl) (by kernel_rfl) (by kernel_rfl)
      (by rw [MakeChecks.laidMetH_plain _ _ _ (by kernel_rfl)]; exact laidMet_laidAll _ (by kernel_rfl) (by kernel_rfl))) ?_
  intro W base args ds gs before hval0 hW _ _ hL _
  have hval : ∀ (j : Nat) t v, Tryz.f6.params[j]? = some t → args[j]? = some v → Value.okWide Tryz.prog W .any base t v := hval0
  have hW' := hW
  obtain ⟨p, q, hA0, hV, rfl, _, _⟩ := hW
  have hA : DataW.TrodAll enc Tryz.prog W 0 (fun _ => true) true Tryz.f6.params.toList args.toList ds p := hA0
  rw [show Tryz.f6.params = #[40, 5, 41] by kernel_rfl] at hA hval
  obtain ⟨v0, v1, v2, d0, d1, d2, p0, p1, p2, rfl, rfl, rfl, h0, h1, h2⟩ := trodAll_three hA
  obtain ⟨rfl, rfl⟩ := trodVars_none hV
  obtain ⟨x0, rfl, rfl, rfl, w0⟩ := open_int fnmathBases_und0 (hval 0 40 v0 rfl rfl) h0
  obtain ⟨x1, rfl, rfl, rfl, w1⟩ := open_int fnmathBases_und1 (hval 1 5 v1 rfl rfl) h1
  obtain ⟨x2, rfl, rfl, rfl, w2⟩ := open_int fnmathBases_und2 (hval 2 41 v2 rfl rfl) h2
  have hL' : laidMetH Tryz.prog Rows.fnmathBasesRow.laid W := hL
  rw [MakeChecks.laidMetH_plain _ _ _ (by kernel_rfl)] at hL'
  have hI : Go.Proofs.Bs.Tabs W := utf8Tabs_of_readsT (U8Types.of196 Tryz.laysValid) ⟨by kernel_rfl, by kernel_rfl, by kernel_rfl, by kernel_rfl, by kernel_rfl, by kernel_rfl, by kernel_rfl⟩
    (Lib.laidMet.reads hL' (List.mem_of_getElem? (i := 15) (by kernel_rfl))) (Lib.laidMet.reads hL' (List.mem_of_getElem? (i := 9) (by kernel_rfl)))
  simp only [List.append_nil] at hW'
  refine (fnmathBases_true x0 w0 x1 w1 x2 w2 W hI).mono fun e W' ⟨he, hb⟩ => ?_
  subst he
  exact ⟨_, rfl, _, _, _, [], _, [], hW', trodAll_mk1 (shut_bool fnmathBases_undB _), trodAll_cons_mk (shut_int fnmathBases_und0 w0) (trodAll_cons_mk (shut_int fnmathBases_und1 w1) (trodAll_cons_mk (shut_int fnmathBases_und2 w2) trodAll_mk0)), rfl, hb.frame _, fun h => by cases h⟩
end Go.Proofs.YtgfoocnnidhepaaGreatDoor
