/- gridironlaw08.NumberDates answers 'true' for every argument, and leaves them as they were. Conditions: none. -/
import Derived.Test.YtdihaemeipdfgaaGreatDoorEvFrame
import Derived.Test.YtdihaemeipdfgaaGreatDoorTie
import Derived.Test.YtdihaemeipdfgaaGreatDoorCards
import Derived.Test.YtdihaemeipdfgaaGreatDoorNumberDatesWalk
import Derived.Test.YtdihaemeipdfgaaGreatDoorEvStruct
import Derived.ProofKit
import Derived.OpenShut
import Derived.Carry
import Derived.ShutString
import Derived.Laws.Cover2
import Derived.LaidMore
import Derived.Lay
import Derived.SevenTiedAt
import Derived.Stop.Joined
namespace Go.Proofs.YtdihaemeipdfgaaGreatDoor
open Go.ChangeShapes Go.WideShapes Go.ChangeAt Go.RowKit Go.ChangeMaps Go.Proofs.Num Go.Joins Go.Deep

theorem numberDates_own : ownKnob Tryz.prog.godebug = none := by kernel_rfl
theorem numberDates_laid : Go.Ev.gItems Tryz.prog Rows.numberDatesRow.laid nlNames = Go.Ev.gItems Tryz.prog Rows.numberDaysRow.laid nlNames := by kernel_rfl
theorem numberDates_fields : Go.Ev.fields4 Tryz.prog 35 33 3 3 3 = true := by kernel_rfl
theorem numberDates_cells : Tryz.prog.cellsOf 35 = 4 := by kernel_rfl
theorem numberDates_undU : Tryz.prog.underlying 33 = some (.int .u64) := by kernel_rfl
theorem numberDates_undI : Tryz.prog.underlying 3 = some (.int .i64) := by kernel_rfl
/-- A whole number's reading. -/
theorem int_read {H : Type} {enc : TypeId × Value → H} {P : Program} {w : World} {base : Nat} {sp : Nat → Bool} {held : Bool} {n : Nat} {t : TypeId} {k : IntKind} {v : Value} {y : DataW H × List MemPlace} (ht : P.underlying t = some (.int k)) (h : DataW.trod enc P w base sp held n t [v] = some y) :
    ∃ x, v = .int k x ∧ y = (.lit (.int k x), []) ∧ (Lit.int k x).wf = true := by
  obtain ⟨x, h1, h2, h3⟩ := DataW.trod_int ht h
  simp only [List.cons.injEq, and_true] at h1
  exact ⟨x, h1, h2, h3⟩
theorem int_shut {H : Type} {enc : TypeId × Value → H} {P : Program} {w : World} {base : Nat} {sp : Nat → Bool} {held : Bool} {t u : TypeId} {k : IntKind} {x : Int} (hu : u = t) (ht : P.underlying t = some (.int k)) (hx : (Lit.int k x).wf = true) :
    ∃ n, DataW.trod enc P w base sp held n u [.int k x] = some (.lit (.int k x), []) := by
  subst hu
  exact field_of_Trod (shut_int ht hx) rfl
theorem numberDates_undB : Tryz.prog.underlying 4 = some .bool := by kernel_rfl

set_option maxRecDepth 100000 in
theorem numberDates_lifted (os : Os) (started : os.Started) (H : Type) (enc : TypeId × Value → H) :
    ReturnsInHanded {} Tryz.checked os 4 .any (fun w args => (Rows.numberDatesSpec.pre enc Tryz.prog Tryz.f4 Rows.numberDatesRow.domain false w args ∧ laidMetH Tryz.prog Rows.numberDatesRow.laid w) ∧ sizedMet enc Tryz.prog Tryz.f4 (OpenSpec.ofChange Rows.numberDatesSpec) false w args)
      (Rows.numberDatesSpec.post enc Tryz.prog Tryz.f4 false true false false) := by
  refine returnsInHanded_of_change_and (C := Tryz.checked) (X := fun w _ => laidMetH Tryz.prog Rows.numberDatesRow.laid w) (fun _ _ _ hh h => h.of_heap hh) numberDates_own started (by kernel_rfl) Tryz.func4
    (ChangeSpec.witness_shaped (enc := enc) (C := Tryz.checked) (os := os) (X := fun w _ => laidMetH Tryz.prog Rows.numberDatesRow.laid w) false (World.laidAll Tryz.prog os Rows.numberDatesRow.laid) #[.agg #[.int .u64 0, .int .i64 0, .int .i64 0, .int .i64 0]] 8 (World.laidAll_os _ _ _)
      (World.shaped_of_ZipB (by kernel_rfl) (by kernel_rfl)) (by kernel_rfl) (by kernel_rfl) (by kernel_rfl)
      (by rw [MakeChecks.laidMetH_plain _ _ _ (by kernel_rfl)]; exact laidMet_laidAll _ (by kernel_rfl) (by kernel_rfl))) ?_
  intro W base args ds gs before hval0 hW _ _ hL _
  have hval : ∀ (j : Nat) t v, Tryz.f4.params[j]? = some t → args[j]? = some v → Value.okWide Tryz.prog W .any base t v := hval0
  have hW' := hW
  obtain ⟨p, q, hA0, hV, rfl, _, _⟩ := hW
  have hA : DataW.TrodAll enc Tryz.prog W 0 (fun _ => true) true Tryz.f4.params.toList args.toList ds p := hA0
  rw [show Tryz.f4.params = #[35] by kernel_rfl] at hA hval
  obtain ⟨v0, d0, rfl, rfl, h0⟩ := trodAll_one hA
  obtain ⟨rfl, rfl⟩ := trodVars_none hV
  obtain ⟨f0, f1, f2, f3, hs, hone, t0, t1, t2, t3⟩ := Go.Ev.struct4_of numberDates_fields
  obtain ⟨c0, c1, c2, c3, y0, y1, y2, y3, n, rfl, rfl, rfl, r0, r1, r2, r3⟩ := open_agg4 hs hone numberDates_cells (hval 0 35 v0 rfl rfl) h0
  obtain ⟨x0, rfl, rfl, w0⟩ := int_read numberDates_undU (by rw [t0] at r0; exact r0)
  obtain ⟨x1, rfl, rfl, w1⟩ := int_read numberDates_undI (by rw [t1] at r1; exact r1)
  obtain ⟨x2, rfl, rfl, w2⟩ := int_read numberDates_undI (by rw [t2] at r2; exact r2)
  obtain ⟨x3, rfl, rfl, w3⟩ := int_read numberDates_undI (by rw [t3] at r3; exact r3)
  have hL' : laidMetH Tryz.prog Rows.numberDatesRow.laid W := hL
  rw [MakeChecks.laidMetH_plain _ _ _ (by kernel_rfl)] at hL'
  have hI : Go.Ev.Holds nl W := Go.Ev.gItems_ok hL' (numberDates_laid.trans nl_eq)
  simp only [List.append_nil] at hW'
  refine (numberDates_true x0 x1 x2 x3 W hI).mono fun e W' ⟨he, hb⟩ => ?_
  subst he
  exact ⟨_, rfl, _, _, _, [], _, [], hW', trodAll_mk1 (shut_bool numberDates_undB _), trodAll_cons_mk (shut_agg4 hs hone numberDates_cells (int_shut t0 numberDates_undU w0) (int_shut t1 numberDates_undI w1) (int_shut t2 numberDates_undI w2) (int_shut t3 numberDates_undI w3)) trodAll_mk0, rfl, hb.frame _, fun h => by cases h⟩
end Go.Proofs.YtdihaemeipdfgaaGreatDoor
