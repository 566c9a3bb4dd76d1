/- The law: what is to be shown, part 5. -/
import Derived.Test.YtlpbimookmhjbaaGreatDoorBackK
namespace Go.Proofs.Back
open Go.Ev Go.Dates Go.RowKit Go.Proofs.YtlpbimookmhjbaaGreatDoor
set_option maxRecDepth 1000000
def backR_L25 : Prop := ∀ σ : Nat → Value,
 σ 0 = .int .i64 (iv (σ 0)) →
 (-693593) ≤ iv (σ 0) →
 iv (σ 0) ≤ 2958465 →
 σ 1 = vT →
 σ 4 = .float .f64 (fv (σ 4)) →
 σ 5 = vZ →
 σ 6 = vO →
 σ 7 = .int .i64 (iv (σ 7)) →
 1 ≤ iv (σ 7) →
 iv (σ 7) ≤ 9998 →
 σ 8 = .float .f64 (fv (σ 8)) →
 σ 9 = vE →
 σ 10 = vF →
 σ 11 = vZ →
 σ 12 = vT →
 σ 13 = vO →
 σ 14 = .int .i64 (iv (σ 14)) →
 2 ≤ iv (σ 14) →
 iv (σ 14) ≤ 2 →
 σ 15 = .float .f64 (fv (σ 15)) →
 σ 16 = vE →
 σ 17 = vF →
 σ 18 = vZ →
 σ 19 = vT →
 σ 20 = vO →
 σ 21 = .int .i64 (iv (σ 21)) →
 1 ≤ iv (σ 21) →
 iv (σ 21) ≤ 31 →
 σ 22 = .float .f64 (fv (σ 22)) →
 σ 23 = vE →
 σ 24 = vF →
 σ 25 = vZ →
 σ 26 = vT →
 σ 27 = vO →
 σ 28 = .int .i64 (iv (σ 28)) →
 (-693593) ≤ iv (σ 28) →
 iv (σ 28) ≤ 2958465 →
 σ 29 = .float .f64 (fv (σ 29)) →
 σ 30 = vE →
 σ 31 = vF →
 σ 32 = vZ →
 σ 33 = vT →
 σ 34 = .int .i64 (iv (σ 34)) →
 (-693593) ≤ iv (σ 34) →
 iv (σ 34) ≤ 2958465 →
 σ 35 = .float .f64 (fv (σ 35)) →
 σ 39 = vO →
 σ 40 = .int .i64 (iv (σ 40)) →
 (-693593) ≤ iv (σ 40) →
 iv (σ 40) ≤ 2958465 →
 σ 41 = .float .f64 (fv (σ 41)) →
 σ 42 = vE →
 σ 43 = vF →
 σ 44 = vZ →
 σ 45 = vT →
 σ 46 = vZ →
 σ 47 = vZ →
 σ 48 = vO →
 σ 49 = .int .i64 (iv (σ 49)) →
 (-693593) ≤ iv (σ 49) →
 iv (σ 49) ≤ 2958465 →
 σ 50 = .float .f64 (fv (σ 50)) →
 σ 51 = vE →
 σ 52 = vF →
 σ 53 = vZ →
 σ 54 = vT →
 σ 57 = vO →
 σ 58 = .int .i64 (iv (σ 58)) →
 (-9000000) ≤ iv (σ 58) →
 iv (σ 58) ≤ 9000000 →
 σ 59 = .float .f64 (fv (σ 59)) →
 σ 60 = vE →
 σ 61 = vF →
 σ 62 = vZ →
 σ 63 = .bool (bv (σ 63)) →
 begunR [vT] →
 fv (σ 4) = FloatKind.f64.nearest (iv (σ 0)) →
 chkR [vO, vO, vU, vO, σ 0, σ 4, vE, vF, vZ, vZ] →
 fv (σ 8) = FloatKind.f64.nearest (iv (σ 7)) →
 callYearR [(vS #[89,69,65,82]), vU, vF, vF, vO, vO, vU, vZ, vZ, vO, σ 0, σ 4, vE, vF, vZ, vO, σ 7, σ 8, vE, vF, vZ, vT] →
 fv (σ 15) = FloatKind.f64.nearest (iv (σ 14)) →
 callMonthR [(vS #[77,79,78,84,72]), vU, vF, vF, vO, vO, vU, vZ, vZ, vO, σ 0, σ 4, vE, vF, vZ, vO, σ 14, σ 15, vE, vF, vZ, vT] →
 fv (σ 22) = FloatKind.f64.nearest (iv (σ 21)) →
 callDayR [(vS #[68,65,89]), vU, vF, vF, vO, vO, vU, vZ, vZ, vO, σ 0, σ 4, vE, vF, vZ, vO, σ 21, σ 22, vE, vF, vZ, vT] →
 fv (σ 29) = FloatKind.f64.nearest (iv (σ 28)) →
 callDateR [(vS #[68,65,84,69]), vU, vF, vF, vO, vO, vU, vZ, vZ, vO, σ 7, σ 8, vE, vF, vZ, vF, vF, vO, vO, vU, vZ, vZ, vO, σ 14, σ 15, vE, vF, vZ, vF, vF, vO, vO, vU, vZ, vZ, vO, σ 21, σ 22, vE, vF, vZ, vO, σ 28, σ 29, vE, vF, vZ, vT] →
 iv (σ 34) = iv (σ 0) + 0 →
 fv (σ 35) = FloatKind.f64.nearest (iv (σ 34)) →
 sameR [vO, σ 28, σ 29, vE, vF, vZ, vO, σ 34, σ 35, vE, vF, vZ, σ 36] →
 fv (σ 41) = FloatKind.f64.nearest (iv (σ 40)) →
 callEdateR [(vS #[69,68,65,84,69]), vU, vF, vF, vO, vO, vU, vZ, vZ, vO, σ 0, σ 4, vE, vF, vZ, vF, vF, vO, vO, vU, vZ, vZ, vO, (vI 12), (vG 4622945017495814144), vE, vF, vZ, vO, σ 40, σ 41, vE, vF, vZ, vT] →
 chkR [vO, vO, vU, vO, σ 40, σ 41, vE, vF, vZ, vZ] →
 chkR [vO, vO, vU, vO, (vI (-12)), (vG 13846317054350589952), vE, vF, vZ, vZ] →
 fv (σ 50) = FloatKind.f64.nearest (iv (σ 49)) →
 callEdateR [(vS #[69,68,65,84,69]), vU, vF, vF, vO, vO, vU, vZ, vZ, vO, σ 40, σ 41, vE, vF, vZ, vF, vF, vO, vO, vU, vZ, vZ, vO, (vI (-12)), (vG 13846317054350589952), vE, vF, vZ, vO, σ 49, σ 50, vE, vF, vZ, vT] →
 fv (σ 59) = FloatKind.f64.nearest (iv (σ 58)) →
 reckR [σ 0, σ 4, vO, σ 58, σ 59, vE, vF, vZ] →
 sameR [vO, σ 49, σ 50, vE, vF, vZ, vO, σ 58, σ 59, vE, vF, vZ, σ 63] →
 iv (σ 21) ≠ 29 →
 iv (σ 14) = 2 →
 iv (σ 7) ≤ 9998 →
 bv (σ 36) = true →
 bv (σ 36) = !false →
 iv (σ 0) ≤ 2958465 →
 (-693593) ≤ iv (σ 0) →
    backR [σ 0, σ 63]
def backR_L26 : Prop := ∀ σ : Nat → Value,
 σ 0 = .int .i64 (iv (σ 0)) →
 (-693593) ≤ iv (σ 0) →
 iv (σ 0) ≤ 2958465 →
 σ 1 = vT →
 σ 4 = .float .f64 (fv (σ 4)) →
 σ 5 = vZ →
 σ 6 = vO →
 σ 7 = .int .i64 (iv (σ 7)) →
 1 ≤ iv (σ 7) →
 iv (σ 7) ≤ 9998 →
 σ 8 = .float .f64 (fv (σ 8)) →
 σ 9 = vE →
 σ 10 = vF →
 σ 11 = vZ →
 σ 12 = vT →
 σ 13 = vO →
 σ 14 = .int .i64 (iv (σ 14)) →
 1 ≤ iv (σ 14) →
 iv (σ 14) ≤ 12 →
 σ 15 = .float .f64 (fv (σ 15)) →
 σ 16 = vE →
 σ 17 = vF →
 σ 18 = vZ →
 σ 19 = vT →
 σ 20 = vO →
 σ 21 = .int .i64 (iv (σ 21)) →
 1 ≤ iv (σ 21) →
 iv (σ 21) ≤ 31 →
 σ 22 = .float .f64 (fv (σ 22)) →
 σ 23 = vE →
 σ 24 = vF →
 σ 25 = vZ →
 σ 26 = vT →
 σ 27 = vO →
 σ 28 = .int .i64 (iv (σ 28)) →
 (-693593) ≤ iv (σ 28) →
 iv (σ 28) ≤ 2958465 →
 σ 29 = .float .f64 (fv (σ 29)) →
 σ 30 = vE →
 σ 31 = vF →
 σ 32 = vZ →
 σ 33 = vT →
 σ 34 = .int .i64 (iv (σ 34)) →
 (-693593) ≤ iv (σ 34) →
 iv (σ 34) ≤ 2958465 →
 σ 35 = .float .f64 (fv (σ 35)) →
 σ 39 = vO →
 σ 40 = .int .i64 (iv (σ 40)) →
 (-693593) ≤ iv (σ 40) →
 iv (σ 40) ≤ 2958465 →
 σ 41 = .float .f64 (fv (σ 41)) →
 σ 42 = vE →
 σ 43 = vF →
 σ 44 = vZ →
 σ 45 = vT →
 σ 46 = vZ →
 σ 47 = vZ →
 σ 48 = vO →
 σ 49 = .int .i64 (iv (σ 49)) →
 (-693593) ≤ iv (σ 49) →
 iv (σ 49) ≤ 2958465 →
 σ 50 = .float .f64 (fv (σ 50)) →
 σ 51 = vE →
 σ 52 = vF →
 σ 53 = vZ →
 σ 54 = vT →
 σ 56 = vO →
 σ 57 = .int .i64 (iv (σ 57)) →
 (-9000000) ≤ iv (σ 57) →
 iv (σ 57) ≤ 9000000 →
 σ 58 = .float .f64 (fv (σ 58)) →
 σ 59 = vE →
 σ 60 = vF →
 σ 61 = vZ →
 σ 62 = .bool (bv (σ 62)) →
 begunR [vT] →
 fv (σ 4) = FloatKind.f64.nearest (iv (σ 0)) →
 chkR [vO, vO, vU, vO, σ 0, σ 4, vE, vF, vZ, vZ] →
 fv (σ 8) = FloatKind.f64.nearest (iv (σ 7)) →
 callYearR [(vS #[89,69,65,82]), vU, vF, vF, vO, vO, vU, vZ, vZ, vO, σ 0, σ 4, vE, vF, vZ, vO, σ 7, σ 8, vE, vF, vZ, vT] →
 fv (σ 15) = FloatKind.f64.nearest (iv (σ 14)) →
 callMonthR [(vS #[77,79,78,84,72]), vU, vF, vF, vO, vO, vU, vZ, vZ, vO, σ 0, σ 4, vE, vF, vZ, vO, σ 14, σ 15, vE, vF, vZ, vT] →
 fv (σ 22) = FloatKind.f64.nearest (iv (σ 21)) →
 callDayR [(vS #[68,65,89]), vU, vF, vF, vO, vO, vU, vZ, vZ, vO, σ 0, σ 4, vE, vF, vZ, vO, σ 21, σ 22, vE, vF, vZ, vT] →
 fv (σ 29) = FloatKind.f64.nearest (iv (σ 28)) →
 callDateR [(vS #[68,65,84,69]), vU, vF, vF, vO, vO, vU, vZ, vZ, vO, σ 7, σ 8, vE, vF, vZ, vF, vF, vO, vO, vU, vZ, vZ, vO, σ 14, σ 15, vE, vF, vZ, vF, vF, vO, vO, vU, vZ, vZ, vO, σ 21, σ 22, vE, vF, vZ, vO, σ 28, σ 29, vE, vF, vZ, vT] →
 iv (σ 34) = iv (σ 0) + 0 →
 fv (σ 35) = FloatKind.f64.nearest (iv (σ 34)) →
 sameR [vO, σ 28, σ 29, vE, vF, vZ, vO, σ 34, σ 35, vE, vF, vZ, σ 36] →
 fv (σ 41) = FloatKind.f64.nearest (iv (σ 40)) →
 callEdateR [(vS #[69,68,65,84,69]), vU, vF, vF, vO, vO, vU, vZ, vZ, vO, σ 0, σ 4, vE, vF, vZ, vF, vF, vO, vO, vU, vZ, vZ, vO, (vI 12), (vG 4622945017495814144), vE, vF, vZ, vO, σ 40, σ 41, vE, vF, vZ, vT] →
 chkR [vO, vO, vU, vO, σ 40, σ 41, vE, vF, vZ, vZ] →
 chkR [vO, vO, vU, vO, (vI (-12)), (vG 13846317054350589952), vE, vF, vZ, vZ] →
 fv (σ 50) = FloatKind.f64.nearest (iv (σ 49)) →
 callEdateR [(vS #[69,68,65,84,69]), vU, vF, vF, vO, vO, vU, vZ, vZ, vO, σ 40, σ 41, vE, vF, vZ, vF, vF, vO, vO, vU, vZ, vZ, vO, (vI (-12)), (vG 13846317054350589952), vE, vF, vZ, vO, σ 49, σ 50, vE, vF, vZ, vT] →
 fv (σ 58) = FloatKind.f64.nearest (iv (σ 57)) →
 reckR [σ 0, σ 4, vO, σ 57, σ 58, vE, vF, vZ] →
 sameR [vO, σ 49, σ 50, vE, vF, vZ, vO, σ 57, σ 58, vE, vF, vZ, σ 62] →
 iv (σ 14) ≠ 2 →
 iv (σ 7) ≤ 9998 →
 bv (σ 36) = true →
 bv (σ 36) = !false →
 iv (σ 0) ≤ 2958465 →
 (-693593) ≤ iv (σ 0) →
    backR [σ 0, σ 62]
def backR_L27 : Prop := ∀ σ : Nat → Value,
 σ 0 = .int .i64 (iv (σ 0)) →
 (-693593) ≤ iv (σ 0) →
 iv (σ 0) ≤ 2958465 →
 σ 1 = vT →
 σ 4 = .float .f64 (fv (σ 4)) →
 σ 5 = vZ →
 σ 6 = vO →
 σ 7 = .int .i64 (iv (σ 7)) →
 1 ≤ iv (σ 7) →
 iv (σ 7) ≤ 9998 →
 σ 8 = .float .f64 (fv (σ 8)) →
 σ 9 = vE →
 σ 10 = vF →
 σ 11 = vZ →
 σ 12 = vT →
 σ 13 = vO →
 σ 14 = .int .i64 (iv (σ 14)) →
 1 ≤ iv (σ 14) →
 iv (σ 14) ≤ 12 →
 σ 15 = .float .f64 (fv (σ 15)) →
 σ 16 = vE →
 σ 17 = vF →
 σ 18 = vZ →
 σ 19 = vT →
 σ 20 = vO →
 σ 21 = .int .i64 (iv (σ 21)) →
 1 ≤ iv (σ 21) →
 iv (σ 21) ≤ 31 →
 σ 22 = .float .f64 (fv (σ 22)) →
 σ 23 = vE →
 σ 24 = vF →
 σ 25 = vZ →
 σ 26 = vT →
 σ 27 = vO →
 σ 28 = .int .i64 (iv (σ 28)) →
 (-693593) ≤ iv (σ 28) →
 iv (σ 28) ≤ 2958465 →
 σ 29 = .float .f64 (fv (σ 29)) →
 σ 30 = vE →
 σ 31 = vF →
 σ 32 = vZ →
 σ 33 = vT →
 σ 34 = .int .i64 (iv (σ 34)) →
 (-693593) ≤ iv (σ 34) →
 iv (σ 34) ≤ 2958465 →
 σ 35 = .float .f64 (fv (σ 35)) →
 σ 39 = vO →
 σ 40 = .int .i64 (iv (σ 40)) →
 (-693593) ≤ iv (σ 40) →
 iv (σ 40) ≤ 2958465 →
 σ 41 = .float .f64 (fv (σ 41)) →
 σ 42 = vE →
 σ 43 = vF →
 σ 44 = vZ →
 σ 45 = vT →
 σ 46 = vZ →
 σ 47 = vZ →
 begunR [vT] →
 fv (σ 4) = FloatKind.f64.nearest (iv (σ 0)) →
 chkR [vO, vO, vU, vO, σ 0, σ 4, vE, vF, vZ, vZ] →
 fv (σ 8) = FloatKind.f64.nearest (iv (σ 7)) →
 callYearR [(vS #[89,69,65,82]), vU, vF, vF, vO, vO, vU, vZ, vZ, vO, σ 0, σ 4, vE, vF, vZ, vO, σ 7, σ 8, vE, vF, vZ, vT] →
 fv (σ 15) = FloatKind.f64.nearest (iv (σ 14)) →
 callMonthR [(vS #[77,79,78,84,72]), vU, vF, vF, vO, vO, vU, vZ, vZ, vO, σ 0, σ 4, vE, vF, vZ, vO, σ 14, σ 15, vE, vF, vZ, vT] →
 fv (σ 22) = FloatKind.f64.nearest (iv (σ 21)) →
 callDayR [(vS #[68,65,89]), vU, vF, vF, vO, vO, vU, vZ, vZ, vO, σ 0, σ 4, vE, vF, vZ, vO, σ 21, σ 22, vE, vF, vZ, vT] →
 fv (σ 29) = FloatKind.f64.nearest (iv (σ 28)) →
 callDateR [(vS #[68,65,84,69]), vU, vF, vF, vO, vO, vU, vZ, vZ, vO, σ 7, σ 8, vE, vF, vZ, vF, vF, vO, vO, vU, vZ, vZ, vO, σ 14, σ 15, vE, vF, vZ, vF, vF, vO, vO, vU, vZ, vZ, vO, σ 21, σ 22, vE, vF, vZ, vO, σ 28, σ 29, vE, vF, vZ, vT] →
 iv (σ 34) = iv (σ 0) + 0 →
 fv (σ 35) = FloatKind.f64.nearest (iv (σ 34)) →
 sameR [vO, σ 28, σ 29, vE, vF, vZ, vO, σ 34, σ 35, vE, vF, vZ, σ 36] →
 fv (σ 41) = FloatKind.f64.nearest (iv (σ 40)) →
 callEdateR [(vS #[69,68,65,84,69]), vU, vF, vF, vO, vO, vU, vZ, vZ, vO, σ 0, σ 4, vE, vF, vZ, vF, vF, vO, vO, vU, vZ, vZ, vO, (vI 12), (vG 4622945017495814144), vE, vF, vZ, vO, σ 40, σ 41, vE, vF, vZ, vT] →
 chkR [vO, vO, vU, vO, σ 40, σ 41, vE, vF, vZ, vZ] →
 chkR [vO, vO, vU, vO, (vI (-12)), (vG 13846317054350589952), vE, vF, vZ, vZ] →
 ¬ callEdateRPre [(vS #[69,68,65,84,69]), vU, vF, vF, vO, vO, vU, vZ, vZ, vO, σ 40, σ 41, vE, vF, vZ, vF, vF, vO, vO, vU, vZ, vZ, vO, (vI (-12)), (vG 13846317054350589952), vE, vF, vZ] →
 iv (σ 7) ≤ 9998 →
 bv (σ 36) = true →
 bv (σ 36) = !false →
 iv (σ 0) ≤ 2958465 →
 (-693593) ≤ iv (σ 0) →
    False
theorem law_tie5 : goalsFrom lawC (cfgB lawC.base [begunK, yearC, monC, dayC, mkC, edateC, chkC, reckC, sameC]) 2000 25 = (backR_L25 ∧ backR_L26 ∧ backR_L27 ∧ True) := by kernel_rfl
theorem backR_L25_ok : backR_L25 := by
  intro σ; intros
  have y0 := ‹callYearR _›
  have m0 := ‹callMonthR _›
  have d0 := ‹callDayR _›
  have H : IsDate (iv (σ 0) + 693593) (iv (σ 7)) (iv (σ 14)) (iv (σ 21)) := by
    obtain ⟨_, _, y1⟩ := y0
    obtain ⟨_, _, m1⟩ := m0
    obtain ⟨_, _, d1⟩ := d0
    exact same3 y1 m1 d1
  have r0 := ‹callEdateR [(vS #[69,68,65,84,69]), vU, vF, vF, vO, vO, vU, vZ, vZ, vO, σ 0, σ 4, vE, vF, vZ, vF, vF, vO, vO, vU, vZ, vZ, vO, (vI 12), (vG 4622945017495814144), vE, vF, vZ, vO, σ 40, σ 41, vE, vF, vZ, vT]›
  have r1 : edR 12 (iv (σ 0) + 693593) (iv (σ 40) + 693593) := r0
  have D1 := ed12 H (by omega) r1
  have s0 := ‹callEdateR [(vS #[69,68,65,84,69]), vU, vF, vF, vO, vO, vU, vZ, vZ, vO, σ 40, σ 41, vE, vF, vZ, vF, vF, vO, vO, vU, vZ, vZ, vO, (vI (-12)), (vG 13846317054350589952), vE, vF, vZ, vO, σ 49, σ 50, vE, vF, vZ, vT]›
  have s1 : edR (-12) (iv (σ 40) + 693593) (iv (σ 49) + 693593) := s0
  obtain ⟨b1, b2⟩ := edm12 H D1 s1
  have q0 := ‹reckR _›
  have q1 : iv (σ 58) = iv (σ 0) := q0
  have t0 := ‹sameR [vO, σ 49, σ 50, vE, vF, vZ, vO, σ 58, σ 59, vE, vF, vZ, σ 63]›
  have t1 : bv (σ 63) = decide (iv (σ 49) = iv (σ 58)) := t0
  have e : iv (σ 49) = iv (σ 58) := by omega
  exact t1.trans (decide_eq_true e)
theorem backR_L26_ok : backR_L26 := by
  intro σ; intros
  have y0 := ‹callYearR _›
  have m0 := ‹callMonthR _›
  have d0 := ‹callDayR _›
  have H : IsDate (iv (σ 0) + 693593) (iv (σ 7)) (iv (σ 14)) (iv (σ 21)) := by
    obtain ⟨_, _, y1⟩ := y0
    obtain ⟨_, _, m1⟩ := m0
    obtain ⟨_, _, d1⟩ := d0
    exact same3 y1 m1 d1
  have r0 := ‹callEdateR [(vS #[69,68,65,84,69]), vU, vF, vF, vO, vO, vU, vZ, vZ, vO, σ 0, σ 4, vE, vF, vZ, vF, vF, vO, vO, vU, vZ, vZ, vO, (vI 12), (vG 4622945017495814144), vE, vF, vZ, vO, σ 40, σ 41, vE, vF, vZ, vT]›
  have r1 : edR 12 (iv (σ 0) + 693593) (iv (σ 40) + 693593) := r0
  have D1 := ed12 H (by omega) r1
  have s0 := ‹callEdateR [(vS #[69,68,65,84,69]), vU, vF, vF, vO, vO, vU, vZ, vZ, vO, σ 40, σ 41, vE, vF, vZ, vF, vF, vO, vO, vU, vZ, vZ, vO, (vI (-12)), (vG 13846317054350589952), vE, vF, vZ, vO, σ 49, σ 50, vE, vF, vZ, vT]›
  have s1 : edR (-12) (iv (σ 40) + 693593) (iv (σ 49) + 693593) := s0
  obtain ⟨b1, b2⟩ := edm12 H D1 s1
  have q0 := ‹reckR _›
  have q1 : iv (σ 57) = iv (σ 0) := q0
  have t0 := ‹sameR [vO, σ 49, σ 50, vE, vF, vZ, vO, σ 57, σ 58, vE, vF, vZ, σ 62]›
  have t1 : bv (σ 62) = decide (iv (σ 49) = iv (σ 57)) := t0
  have e : iv (σ 49) = iv (σ 57) := by omega
  exact t1.trans (decide_eq_true e)
theorem backR_L27_ok : backR_L27 := by
  intro σ; intros
  have y0 := ‹callYearR _›
  have m0 := ‹callMonthR _›
  have d0 := ‹callDayR _›
  have H : IsDate (iv (σ 0) + 693593) (iv (σ 7)) (iv (σ 14)) (iv (σ 21)) := by
    obtain ⟨_, _, y1⟩ := y0
    obtain ⟨_, _, m1⟩ := m0
    obtain ⟨_, _, d1⟩ := d0
    exact same3 y1 m1 d1
  have r0 := ‹callEdateR [(vS #[69,68,65,84,69]), vU, vF, vF, vO, vO, vU, vZ, vZ, vO, σ 0, σ 4, vE, vF, vZ, vF, vF, vO, vO, vU, vZ, vZ, vO, (vI 12), (vG 4622945017495814144), vE, vF, vZ, vO, σ 40, σ 41, vE, vF, vZ, vT]›
  have r1 : edR 12 (iv (σ 0) + 693593) (iv (σ 40) + 693593) := r0
  have D1 := ed12 H (by omega) r1
  have n0 := ‹¬ callEdateRPre _›
  exact absurd (ed_prem12 D1 (by omega)) n0
theorem law_part5 : goalsFrom lawC (cfgB lawC.base [begunK, yearC, monC, dayC, mkC, edateC, chkC, reckC, sameC]) 2000 25 := by
  rw [law_tie5]
  exact ⟨backR_L25_ok, backR_L26_ok, backR_L27_ok, trivial⟩
end Go.Proofs.Back
