/- YEAR, MONTH and DAY of a day. -/
import Derived.Test.YtlpbimookmhjbaaGreatDoorBackB
namespace Go.Proofs.Back
open Go.Ev Go.Dates Go.RowKit Go.Proofs.YtlpbimookmhjbaaGreatDoor
set_option maxRecDepth 1000000
def callYearR_L0 : Prop := ∀ σ : Nat → Value,
 σ 0 = (vS #[89,69,65,82]) →
 σ 2 = vF →
 σ 3 = vF →
 σ 4 = vO →
 σ 5 = vO →
 σ 7 = vZ →
 σ 8 = vZ →
 σ 9 = vO →
 σ 10 = .int .i64 (iv (σ 10)) →
 (-693593) ≤ iv (σ 10) →
 iv (σ 10) ≤ 2958465 →
 σ 11 = .float .f64 (fv (σ 11)) →
 σ 12 = vE →
 σ 13 = vF →
 σ 14 = vZ →
 σ 15 = .int .i64 (iv (σ 15)) →
 1 ≤ iv (σ 15) →
 iv (σ 15) ≤ 9999 →
 σ 16 = .int .i64 (iv (σ 16)) →
 1 ≤ iv (σ 16) →
 iv (σ 16) ≤ 12 →
 σ 17 = .int .i64 (iv (σ 17)) →
 1 ≤ iv (σ 17) →
 iv (σ 17) ≤ 31 →
 σ 18 = vZ →
 σ 19 = .float .f64 (fv (σ 19)) →
 fv (σ 11) = FloatKind.f64.nearest (iv (σ 10)) →
 toWR [σ 10, σ 11, σ 15, σ 16, σ 17, vZ] →
 fv (σ 19) = FloatKind.f64.nearest (iv (σ 15)) →
    callYearR [(vS #[89,69,65,82]), vU, vF, vF, vO, vO, vU, vZ, vZ, vO, σ 10, σ 11, vE, vF, vZ, vO, σ 15, σ 19, vE, vF, vZ, vT]
theorem callYearR_tie : yearC.goals (cfgB yearC.base [toC]) [] 2000 = (callYearR_L0 ∧ True) := by kernel_rfl
theorem year_ok : yearC.ok Tryz.prog All := by
  refine by_tie callYearR_tie (by kernel_rfl) (all_cons to_ok all_nil) ⟨?_, trivial⟩
  intro σ; intros; have t := ‹toWR _›; exact ⟨_, _, t⟩
def callMonthR_L0 : Prop := ∀ σ : Nat → Value,
 σ 0 = (vS #[77,79,78,84,72]) →
 σ 2 = vF →
 σ 3 = vF →
 σ 4 = vO →
 σ 5 = vO →
 σ 7 = vZ →
 σ 8 = vZ →
 σ 9 = vO →
 σ 10 = .int .i64 (iv (σ 10)) →
 (-693593) ≤ iv (σ 10) →
 iv (σ 10) ≤ 2958465 →
 σ 11 = .float .f64 (fv (σ 11)) →
 σ 12 = vE →
 σ 13 = vF →
 σ 14 = vZ →
 σ 15 = .int .i64 (iv (σ 15)) →
 1 ≤ iv (σ 15) →
 iv (σ 15) ≤ 9999 →
 σ 16 = .int .i64 (iv (σ 16)) →
 1 ≤ iv (σ 16) →
 iv (σ 16) ≤ 12 →
 σ 17 = .int .i64 (iv (σ 17)) →
 1 ≤ iv (σ 17) →
 iv (σ 17) ≤ 31 →
 σ 18 = vZ →
 σ 19 = .float .f64 (fv (σ 19)) →
 fv (σ 11) = FloatKind.f64.nearest (iv (σ 10)) →
 toWR [σ 10, σ 11, σ 15, σ 16, σ 17, vZ] →
 fv (σ 19) = FloatKind.f64.nearest (iv (σ 16)) →
    callMonthR [(vS #[77,79,78,84,72]), vU, vF, vF, vO, vO, vU, vZ, vZ, vO, σ 10, σ 11, vE, vF, vZ, vO, σ 16, σ 19, vE, vF, vZ, vT]
theorem callMonthR_tie : monC.goals (cfgB monC.base [toC]) [] 2000 = (callMonthR_L0 ∧ True) := by kernel_rfl
theorem mon_ok : monC.ok Tryz.prog All := by
  refine by_tie callMonthR_tie (by kernel_rfl) (all_cons to_ok all_nil) ⟨?_, trivial⟩
  intro σ; intros; have t := ‹toWR _›; exact ⟨_, _, t⟩
def callDayR_L0 : Prop := ∀ σ : Nat → Value,
 σ 0 = (vS #[68,65,89]) →
 σ 2 = vF →
 σ 3 = vF →
 σ 4 = vO →
 σ 5 = vO →
 σ 7 = vZ →
 σ 8 = vZ →
 σ 9 = vO →
 σ 10 = .int .i64 (iv (σ 10)) →
 (-693593) ≤ iv (σ 10) →
 iv (σ 10) ≤ 2958465 →
 σ 11 = .float .f64 (fv (σ 11)) →
 σ 12 = vE →
 σ 13 = vF →
 σ 14 = vZ →
 σ 15 = .int .i64 (iv (σ 15)) →
 1 ≤ iv (σ 15) →
 iv (σ 15) ≤ 9999 →
 σ 16 = .int .i64 (iv (σ 16)) →
 1 ≤ iv (σ 16) →
 iv (σ 16) ≤ 12 →
 σ 17 = .int .i64 (iv (σ 17)) →
 1 ≤ iv (σ 17) →
 iv (σ 17) ≤ 31 →
 σ 18 = vZ →
 σ 19 = .float .f64 (fv (σ 19)) →
 fv (σ 11) = FloatKind.f64.nearest (iv (σ 10)) →
 toWR [σ 10, σ 11, σ 15, σ 16, σ 17, vZ] →
 fv (σ 19) = FloatKind.f64.nearest (iv (σ 17)) →
    callDayR [(vS #[68,65,89]), vU, vF, vF, vO, vO, vU, vZ, vZ, vO, σ 10, σ 11, vE, vF, vZ, vO, σ 17, σ 19, vE, vF, vZ, vT]
theorem callDayR_tie : dayC.goals (cfgB dayC.base [toC]) [] 2000 = (callDayR_L0 ∧ True) := by kernel_rfl
theorem day_ok : dayC.ok Tryz.prog All := by
  refine by_tie callDayR_tie (by kernel_rfl) (all_cons to_ok all_nil) ⟨?_, trivial⟩
  intro σ; intros; have t := ‹toWR _›; exact ⟨_, _, t⟩
end Go.Proofs.Back
