/- gridironlaw19.FntextParts answers 'true' for every argument, and leaves them as they were. Conditions: none. -/
import Derived.Test.YtlinfpchnonbpaaGreatDoorEvFacts
import Derived.Test.YtlinfpchnonbpaaGreatDoorTie
import Derived.Test.YtlinfpchnonbpaaGreatDoorCards
import Derived.Test.YtlinfpchnonbpaaGreatDoorFntextPartsWalk
import Derived.Lib.LaidU8T
import Derived.ProofKit
import Derived.OpenShut
import Derived.Carry
import Derived.ShutString
import Derived.Laws.Cover2
import Derived.LaidMore
import Derived.Lay
import Derived.SevenTiedAt
import Derived.Stop.Joined
namespace Go.Proofs.YtlinfpchnonbpaaGreatDoor
open Go.ChangeShapes Go.WideShapes Go.ChangeAt Go.RowKit Go.ChangeMaps
theorem fntextParts_own : ownKnob Tryz.prog.godebug = none := by kernel_rfl
theorem fntextParts_und0 : Tryz.prog.underlying 9 = some (.string) := by kernel_rfl
theorem fntextParts_und1 : Tryz.prog.underlying 5 = some (.int .u8) := by kernel_rfl
theorem fntextParts_undB : Tryz.prog.underlying 4 = some .bool := by kernel_rfl
set_option maxRecDepth 100000 in
theorem fntextParts_lifted (os : Os) (started : os.Started) (H : Type) (enc : TypeId × Value → H) :
    ReturnsInHanded {} Tryz.checked os 4 .any (fun w args => (Rows.fntextPartsSpec.pre enc Tryz.prog Tryz.f4 Rows.fntextPartsRow.domain false w args ∧ laidMetH Tryz.prog Rows.fntextPartsRow.laid w) ∧ sizedMet enc Tryz.prog Tryz.f4 (OpenSpec.ofChange Rows.fntextPartsSpec) false w args)
      (Rows.fntextPartsSpec.post enc Tryz.prog Tryz.f4 false true false false) := by
  refine returnsInHanded_of_change_and (C := Tryz.checked) (X := fun w _ => laidMetH Tryz.prog Rows.fntextPartsRow.laid w) (fun _ _ _ hh h => h.of_heap hh) fntextParts_own started (by kernel_rfl) Tryz.func4
    (ChangeSpec.witness_shaped (enc := enc) (C := Tryz.checked) (os := os) (X := fun w _ => laidMetH Tryz.prog Rows.fntextPartsRow.laid w) false (World.laidAll Tryz.prog os Rows.fntextPartsRow.laid) #[.string ⟨#[]⟩, .int .u8 0] 8 (World.laidAll_os _ _ _)
      (World.shaped_of_ZipB (by kernel_rfl) (by kernel_rfl)) (by kernel_rfl) (by kernel_rfl) (by kernel_rfl)
      (by rw [MakeChecks.laidMetH_plain _ _ _ (by kernel_rfl)]; exact laidMet_laidAll _ (by kernel_rfl) (by kernel_rfl))) ?_
  intro W base args ds gs before hval0 hW _ _ hL _
  have hval : ∀ (j : Nat) t v, Tryz.f4.params[j]? = some t → args[j]? = some v → Value.okWide Tryz.prog W .any base t v := hval0
  have hW' := hW
  obtain ⟨p, q, hA0, hV, rfl, _, _⟩ := hW
  have hA : DataW.TrodAll enc Tryz.prog W 0 (fun _ => true) true Tryz.f4.params.toList args.toList ds p := hA0
  rw [show Tryz.f4.params = #[9, 5] by kernel_rfl] at hA hval
  obtain ⟨v0, v1, d0, d1, p0, p1, rfl, rfl, rfl, h0, h1⟩ := trodAll_two hA
  obtain ⟨rfl, rfl⟩ := trodVars_none hV
  obtain ⟨x0, rfl, rfl, rfl, w0⟩ := open_string fntextParts_und0 (hval 0 9 v0 rfl rfl) h0
  obtain ⟨x1, rfl, rfl, rfl, w1⟩ := open_int fntextParts_und1 (hval 1 5 v1 rfl rfl) h1
  have hL' : laidMetH Tryz.prog Rows.fntextPartsRow.laid W := hL
  rw [MakeChecks.laidMetH_plain _ _ _ (by kernel_rfl)] at hL'
  have hI : Go.Proofs.Bs.Tabs W := utf8Tabs_of_readsT (U8Types.of196 Tryz.laysValid) ⟨by kernel_rfl, by kernel_rfl, by kernel_rfl, by kernel_rfl, by kernel_rfl, by kernel_rfl, by kernel_rfl⟩
    (Lib.laidMet.reads hL' (List.mem_of_getElem? (i := 15) (by kernel_rfl))) (Lib.laidMet.reads hL' (List.mem_of_getElem? (i := 9) (by kernel_rfl)))
  simp only [List.append_nil] at hW'
  refine (fntextParts_true x0 w0 x1 w1 W hI).mono fun e W' ⟨he, hb⟩ => ?_
  subst he
  exact ⟨_, rfl, _, _, _, [], _, [], hW', trodAll_mk1 (shut_bool fntextParts_undB _), trodAll_cons_mk (shut_string fntextParts_und0 w0) (trodAll_cons_mk (shut_int fntextParts_und1 w1) trodAll_mk0), rfl, hb.frame _, fun h => by cases h⟩
end Go.Proofs.YtlinfpchnonbpaaGreatDoor
