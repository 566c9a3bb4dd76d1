/- DATE of a year, a month and a day. -/
import Derived.Test.YtlpbimookmhjbaaGreatDoorBackB
namespace Go.Proofs.Back
open Go.Ev Go.Dates Go.RowKit Go.Proofs.YtlpbimookmhjbaaGreatDoor
set_option maxRecDepth 1000000
def callDateR_L0 : Prop := ∀ σ : Nat → Value,
 σ 0 = (vS #[68,65,84,69]) →
 σ 2 = vF →
 σ 3 = vF →
 σ 4 = vO →
 σ 5 = vO →
 σ 7 = vZ →
 σ 8 = vZ →
 σ 9 = vO →
 σ 10 = .int .i64 (iv (σ 10)) →
 1 ≤ iv (σ 10) →
 iv (σ 10) ≤ 9999 →
 σ 11 = .float .f64 (fv (σ 11)) →
 σ 12 = vE →
 σ 13 = vF →
 σ 14 = vZ →
 σ 15 = vF →
 σ 16 = vF →
 σ 17 = vO →
 σ 18 = vO →
 σ 20 = vZ →
 σ 21 = vZ →
 σ 22 = vO →
 σ 23 = .int .i64 (iv (σ 23)) →
 1 ≤ iv (σ 23) →
 iv (σ 23) ≤ 12 →
 σ 24 = .float .f64 (fv (σ 24)) →
 σ 25 = vE →
 σ 26 = vF →
 σ 27 = vZ →
 σ 28 = vF →
 σ 29 = vF →
 σ 30 = vO →
 σ 31 = vO →
 σ 33 = vZ →
 σ 34 = vZ →
 σ 35 = vO →
 σ 36 = .int .i64 (iv (σ 36)) →
 1 ≤ iv (σ 36) →
 iv (σ 36) ≤ 31 →
 σ 37 = .float .f64 (fv (σ 37)) →
 σ 38 = vE →
 σ 39 = vF →
 σ 40 = vZ →
 σ 41 = .int .u64 (iv (σ 41)) →
 σ 42 = .int .u64 (iv (σ 42)) →
 σ 43 = .int .u64 (iv (σ 43)) →
 σ 44 = .int .u64 (iv (σ 44)) →
 σ 45 = .int .u64 (iv (σ 45)) →
 σ 46 = .int .u64 (iv (σ 46)) →
 σ 47 = .int .i64 (iv (σ 47)) →
 (-693593) ≤ iv (σ 47) →
 iv (σ 47) ≤ 2958465 →
 σ 48 = .float .f64 (fv (σ 48)) →
 fv (σ 37) = FloatKind.f64.nearest (iv (σ 36)) →
 fv (σ 24) = FloatKind.f64.nearest (iv (σ 23)) →
 fv (σ 11) = FloatKind.f64.nearest (iv (σ 10)) →
 callDateRPre [(vS #[68,65,84,69]), vU, vF, vF, vO, vO, vU, vZ, vZ, vO, σ 10, σ 11, vE, vF, vZ, vF, vF, vO, vO, vU, vZ, vZ, vO, σ 23, σ 24, vE, vF, vZ, vF, vF, vO, vO, vU, vZ, vZ, vO, σ 36, σ 37, vE, vF, vZ] →
 extRel .fbits [σ 11] (σ 41) →
 ibin .andNot IntKind.u64 (iv (σ 41)) (9223372036854775808) = some (.int IntKind.u64 (iv (σ 42))) →
 extRel .fbits [σ 24] (σ 43) →
 ibin .andNot IntKind.u64 (iv (σ 43)) (9223372036854775808) = some (.int IntKind.u64 (iv (σ 44))) →
 extRel .fbits [σ 37] (σ 45) →
 ibin .andNot IntKind.u64 (iv (σ 45)) (9223372036854775808) = some (.int IntKind.u64 (iv (σ 46))) →
 fv (σ 48) = FloatKind.f64.nearest (iv (σ 47)) →
 dateOfR [σ 10, σ 11, σ 23, σ 24, σ 36, σ 37, σ 47, σ 48, σ 49] →
 bv (σ 49) = false →
 bv (σ 49) = !true →
    False
def callDateR_L1 : Prop := ∀ σ : Nat → Value,
 σ 0 = (vS #[68,65,84,69]) →
 σ 2 = vF →
 σ 3 = vF →
 σ 4 = vO →
 σ 5 = vO →
 σ 7 = vZ →
 σ 8 = vZ →
 σ 9 = vO →
 σ 10 = .int .i64 (iv (σ 10)) →
 1 ≤ iv (σ 10) →
 iv (σ 10) ≤ 9999 →
 σ 11 = .float .f64 (fv (σ 11)) →
 σ 12 = vE →
 σ 13 = vF →
 σ 14 = vZ →
 σ 15 = vF →
 σ 16 = vF →
 σ 17 = vO →
 σ 18 = vO →
 σ 20 = vZ →
 σ 21 = vZ →
 σ 22 = vO →
 σ 23 = .int .i64 (iv (σ 23)) →
 1 ≤ iv (σ 23) →
 iv (σ 23) ≤ 12 →
 σ 24 = .float .f64 (fv (σ 24)) →
 σ 25 = vE →
 σ 26 = vF →
 σ 27 = vZ →
 σ 28 = vF →
 σ 29 = vF →
 σ 30 = vO →
 σ 31 = vO →
 σ 33 = vZ →
 σ 34 = vZ →
 σ 35 = vO →
 σ 36 = .int .i64 (iv (σ 36)) →
 1 ≤ iv (σ 36) →
 iv (σ 36) ≤ 31 →
 σ 37 = .float .f64 (fv (σ 37)) →
 σ 38 = vE →
 σ 39 = vF →
 σ 40 = vZ →
 σ 41 = .int .u64 (iv (σ 41)) →
 σ 42 = .int .u64 (iv (σ 42)) →
 σ 43 = .int .u64 (iv (σ 43)) →
 σ 44 = .int .u64 (iv (σ 44)) →
 σ 45 = .int .u64 (iv (σ 45)) →
 σ 46 = .int .u64 (iv (σ 46)) →
 σ 47 = .int .i64 (iv (σ 47)) →
 (-693593) ≤ iv (σ 47) →
 iv (σ 47) ≤ 2958465 →
 σ 48 = .float .f64 (fv (σ 48)) →
 fv (σ 37) = FloatKind.f64.nearest (iv (σ 36)) →
 fv (σ 24) = FloatKind.f64.nearest (iv (σ 23)) →
 fv (σ 11) = FloatKind.f64.nearest (iv (σ 10)) →
 callDateRPre [(vS #[68,65,84,69]), vU, vF, vF, vO, vO, vU, vZ, vZ, vO, σ 10, σ 11, vE, vF, vZ, vF, vF, vO, vO, vU, vZ, vZ, vO, σ 23, σ 24, vE, vF, vZ, vF, vF, vO, vO, vU, vZ, vZ, vO, σ 36, σ 37, vE, vF, vZ] →
 extRel .fbits [σ 11] (σ 41) →
 ibin .andNot IntKind.u64 (iv (σ 41)) (9223372036854775808) = some (.int IntKind.u64 (iv (σ 42))) →
 extRel .fbits [σ 24] (σ 43) →
 ibin .andNot IntKind.u64 (iv (σ 43)) (9223372036854775808) = some (.int IntKind.u64 (iv (σ 44))) →
 extRel .fbits [σ 37] (σ 45) →
 ibin .andNot IntKind.u64 (iv (σ 45)) (9223372036854775808) = some (.int IntKind.u64 (iv (σ 46))) →
 fv (σ 48) = FloatKind.f64.nearest (iv (σ 47)) →
 dateOfR [σ 10, σ 11, σ 23, σ 24, σ 36, σ 37, σ 47, σ 48, σ 49] →
 bv (σ 49) = true →
 bv (σ 49) = !false →
    callDateR [(vS #[68,65,84,69]), vU, vF, vF, vO, vO, vU, vZ, vZ, vO, σ 10, σ 11, vE, vF, vZ, vF, vF, vO, vO, vU, vZ, vZ, vO, σ 23, σ 24, vE, vF, vZ, vF, vF, vO, vO, vU, vZ, vZ, vO, σ 36, σ 37, vE, vF, vZ, vO, σ 47, σ 48, vE, vF, vZ, vT]
def callDateR_L2 : Prop := ∀ σ : Nat → Value,
 σ 0 = (vS #[68,65,84,69]) →
 σ 2 = vF →
 σ 3 = vF →
 σ 4 = vO →
 σ 5 = vO →
 σ 7 = vZ →
 σ 8 = vZ →
 σ 9 = vO →
 σ 10 = .int .i64 (iv (σ 10)) →
 1 ≤ iv (σ 10) →
 iv (σ 10) ≤ 9999 →
 σ 11 = .float .f64 (fv (σ 11)) →
 σ 12 = vE →
 σ 13 = vF →
 σ 14 = vZ →
 σ 15 = vF →
 σ 16 = vF →
 σ 17 = vO →
 σ 18 = vO →
 σ 20 = vZ →
 σ 21 = vZ →
 σ 22 = vO →
 σ 23 = .int .i64 (iv (σ 23)) →
 1 ≤ iv (σ 23) →
 iv (σ 23) ≤ 12 →
 σ 24 = .float .f64 (fv (σ 24)) →
 σ 25 = vE →
 σ 26 = vF →
 σ 27 = vZ →
 σ 28 = vF →
 σ 29 = vF →
 σ 30 = vO →
 σ 31 = vO →
 σ 33 = vZ →
 σ 34 = vZ →
 σ 35 = vO →
 σ 36 = .int .i64 (iv (σ 36)) →
 1 ≤ iv (σ 36) →
 iv (σ 36) ≤ 31 →
 σ 37 = .float .f64 (fv (σ 37)) →
 σ 38 = vE →
 σ 39 = vF →
 σ 40 = vZ →
 σ 41 = .int .u64 (iv (σ 41)) →
 σ 42 = .int .u64 (iv (σ 42)) →
 σ 43 = .int .u64 (iv (σ 43)) →
 σ 44 = .int .u64 (iv (σ 44)) →
 σ 45 = .int .u64 (iv (σ 45)) →
 σ 46 = .int .u64 (iv (σ 46)) →
 fv (σ 37) = FloatKind.f64.nearest (iv (σ 36)) →
 fv (σ 24) = FloatKind.f64.nearest (iv (σ 23)) →
 fv (σ 11) = FloatKind.f64.nearest (iv (σ 10)) →
 callDateRPre [(vS #[68,65,84,69]), vU, vF, vF, vO, vO, vU, vZ, vZ, vO, σ 10, σ 11, vE, vF, vZ, vF, vF, vO, vO, vU, vZ, vZ, vO, σ 23, σ 24, vE, vF, vZ, vF, vF, vO, vO, vU, vZ, vZ, vO, σ 36, σ 37, vE, vF, vZ] →
 extRel .fbits [σ 11] (σ 41) →
 ibin .andNot IntKind.u64 (iv (σ 41)) (9223372036854775808) = some (.int IntKind.u64 (iv (σ 42))) →
 extRel .fbits [σ 24] (σ 43) →
 ibin .andNot IntKind.u64 (iv (σ 43)) (9223372036854775808) = some (.int IntKind.u64 (iv (σ 44))) →
 extRel .fbits [σ 37] (σ 45) →
 ibin .andNot IntKind.u64 (iv (σ 45)) (9223372036854775808) = some (.int IntKind.u64 (iv (σ 46))) →
 ¬ dateOfRPre [σ 10, σ 11, σ 23, σ 24, σ 36, σ 37] →
    False
theorem callDateR_tie : mkC.goals (cfgB mkC.base [dateOfC]) [] 2000 = (callDateR_L0 ∧ callDateR_L1 ∧ callDateR_L2 ∧ True) := by kernel_rfl
theorem mk_L0_ok : callDateR_L0 := by
  intro σ; intros
  have h := ‹dateOfR _›
  exact not_both (dateOf_is h).1 ‹bv (σ 49) = false›
theorem mk_L1_ok : callDateR_L1 := by
  intro σ; intros
  have h0 := ‹dateOfR _›
  have h := (dateOf_is h0).2
  obtain ⟨e1, e2⟩ := of_same (m := iv (σ 23)) ‹_› ‹_› (iv (σ 10))
  rw [e1, e2] at h
  exact h
theorem mk_L2_ok : callDateR_L2 := by
  intro σ; intros
  have p0 := ‹callDateRPre _›
  have p : 1 ≤ iv (σ 36) ∧ iv (σ 36) ≤ monI (iv (σ 10)) (iv (σ 23)) := p0
  obtain ⟨e1, e2⟩ := of_same (m := iv (σ 23)) ‹_› ‹_› (iv (σ 10))
  refine ‹¬ dateOfRPre _› ?_
  simp only [dateOfRPre]
  rw [e1, e2]
  exact ⟨‹_›, ‹_›, p⟩
theorem mk_ok : mkC.ok Tryz.prog All :=
  by_tie callDateR_tie (by kernel_rfl) (all_cons dateOf_ok all_nil) ⟨mk_L0_ok, mk_L1_ok, mk_L2_ok, trivial⟩
end Go.Proofs.Back
