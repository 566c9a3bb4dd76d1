/- The law: what is to be shown, part 3. -/
import Derived.Test.YtlpbimookmhjbaaGreatDoorBackK
namespace Go.Proofs.Back
open Go.Ev Go.Dates Go.RowKit Go.Proofs.YtlpbimookmhjbaaGreatDoor
set_option maxRecDepth 1000000
def backR_L15 : Prop := ∀ σ : Nat → Value,
 σ 0 = .int .i64 (iv (σ 0)) →
 (-693593) ≤ iv (σ 0) →
 iv (σ 0) ≤ 2958465 →
 σ 1 = vT →
 σ 4 = .float .f64 (fv (σ 4)) →
 σ 5 = vZ →
 σ 6 = vO →
 σ 7 = .int .i64 (iv (σ 7)) →
 1 ≤ iv (σ 7) →
 iv (σ 7) ≤ 9998 →
 σ 8 = .float .f64 (fv (σ 8)) →
 σ 9 = vE →
 σ 10 = vF →
 σ 11 = vZ →
 σ 12 = vT →
 σ 13 = vO →
 σ 14 = .int .i64 (iv (σ 14)) →
 1 ≤ iv (σ 14) →
 iv (σ 14) ≤ 12 →
 σ 15 = .float .f64 (fv (σ 15)) →
 σ 16 = vE →
 σ 17 = vF →
 σ 18 = vZ →
 σ 19 = vT →
 σ 20 = vO →
 σ 21 = .int .i64 (iv (σ 21)) →
 1 ≤ iv (σ 21) →
 iv (σ 21) ≤ 31 →
 σ 22 = .float .f64 (fv (σ 22)) →
 σ 23 = vE →
 σ 24 = vF →
 σ 25 = vZ →
 σ 26 = vT →
 σ 27 = vZ →
 σ 28 = vZ →
 σ 29 = vZ →
 σ 30 = vO →
 σ 31 = .int .i64 (iv (σ 31)) →
 (-693593) ≤ iv (σ 31) →
 iv (σ 31) ≤ 2958465 →
 σ 32 = .float .f64 (fv (σ 32)) →
 σ 33 = vE →
 σ 34 = vF →
 σ 35 = vZ →
 σ 36 = vT →
 σ 37 = .int .i64 (iv (σ 37)) →
 (-693593) ≤ iv (σ 37) →
 iv (σ 37) ≤ 2958465 →
 σ 38 = .float .f64 (fv (σ 38)) →
 σ 42 = vO →
 σ 43 = .int .i64 (iv (σ 43)) →
 (-693593) ≤ iv (σ 43) →
 iv (σ 43) ≤ 2958465 →
 σ 44 = .float .f64 (fv (σ 44)) →
 σ 45 = vE →
 σ 46 = vF →
 σ 47 = vZ →
 σ 48 = vT →
 σ 49 = vZ →
 σ 50 = vZ →
 begunR [vT] →
 fv (σ 4) = FloatKind.f64.nearest (iv (σ 0)) →
 chkR [vO, vO, vU, vO, σ 0, σ 4, vE, vF, vZ, vZ] →
 fv (σ 8) = FloatKind.f64.nearest (iv (σ 7)) →
 callYearR [(vS #[89,69,65,82]), vU, vF, vF, vO, vO, vU, vZ, vZ, vO, σ 0, σ 4, vE, vF, vZ, vO, σ 7, σ 8, vE, vF, vZ, vT] →
 fv (σ 15) = FloatKind.f64.nearest (iv (σ 14)) →
 callMonthR [(vS #[77,79,78,84,72]), vU, vF, vF, vO, vO, vU, vZ, vZ, vO, σ 0, σ 4, vE, vF, vZ, vO, σ 14, σ 15, vE, vF, vZ, vT] →
 fv (σ 22) = FloatKind.f64.nearest (iv (σ 21)) →
 callDayR [(vS #[68,65,89]), vU, vF, vF, vO, vO, vU, vZ, vZ, vO, σ 0, σ 4, vE, vF, vZ, vO, σ 21, σ 22, vE, vF, vZ, vT] →
 chkR [vO, vO, vU, vO, σ 7, σ 8, vE, vF, vZ, vZ] →
 chkR [vO, vO, vU, vO, σ 14, σ 15, vE, vF, vZ, vZ] →
 chkR [vO, vO, vU, vO, σ 21, σ 22, vE, vF, vZ, vZ] →
 fv (σ 32) = FloatKind.f64.nearest (iv (σ 31)) →
 callDateR [(vS #[68,65,84,69]), vU, vF, vF, vO, vO, vU, vZ, vZ, vO, σ 7, σ 8, vE, vF, vZ, vF, vF, vO, vO, vU, vZ, vZ, vO, σ 14, σ 15, vE, vF, vZ, vF, vF, vO, vO, vU, vZ, vZ, vO, σ 21, σ 22, vE, vF, vZ, vO, σ 31, σ 32, vE, vF, vZ, vT] →
 iv (σ 37) = iv (σ 0) + 0 →
 fv (σ 38) = FloatKind.f64.nearest (iv (σ 37)) →
 sameR [vO, σ 31, σ 32, vE, vF, vZ, vO, σ 37, σ 38, vE, vF, vZ, σ 39] →
 fv (σ 44) = FloatKind.f64.nearest (iv (σ 43)) →
 callEdateR [(vS #[69,68,65,84,69]), vU, vF, vF, vO, vO, vU, vZ, vZ, vO, σ 0, σ 4, vE, vF, vZ, vF, vF, vO, vO, vU, vZ, vZ, vO, (vI 12), (vG 4622945017495814144), vE, vF, vZ, vO, σ 43, σ 44, vE, vF, vZ, vT] →
 chkR [vO, vO, vU, vO, σ 43, σ 44, vE, vF, vZ, vZ] →
 chkR [vO, vO, vU, vO, (vI (-12)), (vG 13846317054350589952), vE, vF, vZ, vZ] →
 ¬ callEdateRPre [(vS #[69,68,65,84,69]), vU, vF, vF, vO, vO, vU, vZ, vZ, vO, σ 43, σ 44, vE, vF, vZ, vF, vF, vO, vO, vU, vZ, vZ, vO, (vI (-12)), (vG 13846317054350589952), vE, vF, vZ] →
 iv (σ 7) ≤ 9998 →
 bv (σ 39) = true →
 bv (σ 39) = !false →
 iv (σ 0) ≤ 2958465 →
 (-693593) ≤ iv (σ 0) →
    False
def backR_L16 : Prop := ∀ σ : Nat → Value,
 σ 0 = .int .i64 (iv (σ 0)) →
 (-693593) ≤ iv (σ 0) →
 iv (σ 0) ≤ 2958465 →
 σ 1 = vT →
 σ 4 = .float .f64 (fv (σ 4)) →
 σ 5 = vZ →
 σ 6 = vO →
 σ 7 = .int .i64 (iv (σ 7)) →
 1 ≤ iv (σ 7) →
 iv (σ 7) ≤ 9999 →
 σ 8 = .float .f64 (fv (σ 8)) →
 σ 9 = vE →
 σ 10 = vF →
 σ 11 = vZ →
 σ 12 = vT →
 σ 13 = vO →
 σ 14 = .int .i64 (iv (σ 14)) →
 1 ≤ iv (σ 14) →
 iv (σ 14) ≤ 12 →
 σ 15 = .float .f64 (fv (σ 15)) →
 σ 16 = vE →
 σ 17 = vF →
 σ 18 = vZ →
 σ 19 = vT →
 σ 20 = vO →
 σ 21 = .int .i64 (iv (σ 21)) →
 1 ≤ iv (σ 21) →
 iv (σ 21) ≤ 31 →
 σ 22 = .float .f64 (fv (σ 22)) →
 σ 23 = vE →
 σ 24 = vF →
 σ 25 = vZ →
 σ 26 = vT →
 σ 27 = vO →
 σ 28 = .int .i64 (iv (σ 28)) →
 (-693593) ≤ iv (σ 28) →
 iv (σ 28) ≤ 2958465 →
 σ 29 = .float .f64 (fv (σ 29)) →
 σ 30 = vE →
 σ 31 = vF →
 σ 32 = vZ →
 σ 33 = vT →
 σ 34 = .int .i64 (iv (σ 34)) →
 (-693593) ≤ iv (σ 34) →
 iv (σ 34) ≤ 2958465 →
 σ 35 = .float .f64 (fv (σ 35)) →
 begunR [vT] →
 fv (σ 4) = FloatKind.f64.nearest (iv (σ 0)) →
 chkR [vO, vO, vU, vO, σ 0, σ 4, vE, vF, vZ, vZ] →
 fv (σ 8) = FloatKind.f64.nearest (iv (σ 7)) →
 callYearR [(vS #[89,69,65,82]), vU, vF, vF, vO, vO, vU, vZ, vZ, vO, σ 0, σ 4, vE, vF, vZ, vO, σ 7, σ 8, vE, vF, vZ, vT] →
 fv (σ 15) = FloatKind.f64.nearest (iv (σ 14)) →
 callMonthR [(vS #[77,79,78,84,72]), vU, vF, vF, vO, vO, vU, vZ, vZ, vO, σ 0, σ 4, vE, vF, vZ, vO, σ 14, σ 15, vE, vF, vZ, vT] →
 fv (σ 22) = FloatKind.f64.nearest (iv (σ 21)) →
 callDayR [(vS #[68,65,89]), vU, vF, vF, vO, vO, vU, vZ, vZ, vO, σ 0, σ 4, vE, vF, vZ, vO, σ 21, σ 22, vE, vF, vZ, vT] →
 fv (σ 29) = FloatKind.f64.nearest (iv (σ 28)) →
 callDateR [(vS #[68,65,84,69]), vU, vF, vF, vO, vO, vU, vZ, vZ, vO, σ 7, σ 8, vE, vF, vZ, vF, vF, vO, vO, vU, vZ, vZ, vO, σ 14, σ 15, vE, vF, vZ, vF, vF, vO, vO, vU, vZ, vZ, vO, σ 21, σ 22, vE, vF, vZ, vO, σ 28, σ 29, vE, vF, vZ, vT] →
 iv (σ 34) = iv (σ 0) + 0 →
 fv (σ 35) = FloatKind.f64.nearest (iv (σ 34)) →
 sameR [vO, σ 28, σ 29, vE, vF, vZ, vO, σ 34, σ 35, vE, vF, vZ, σ 36] →
 bv (σ 36) = false →
 bv (σ 36) = !true →
 iv (σ 0) ≤ 2958465 →
 (-693593) ≤ iv (σ 0) →
    backR [σ 0, vF]
def backR_L17 : Prop := ∀ σ : Nat → Value,
 σ 0 = .int .i64 (iv (σ 0)) →
 (-693593) ≤ iv (σ 0) →
 iv (σ 0) ≤ 2958465 →
 σ 1 = vT →
 σ 4 = .float .f64 (fv (σ 4)) →
 σ 5 = vZ →
 σ 6 = vO →
 σ 7 = .int .i64 (iv (σ 7)) →
 9999 ≤ iv (σ 7) →
 iv (σ 7) ≤ 9999 →
 σ 8 = .float .f64 (fv (σ 8)) →
 σ 9 = vE →
 σ 10 = vF →
 σ 11 = vZ →
 σ 12 = vT →
 σ 13 = vO →
 σ 14 = .int .i64 (iv (σ 14)) →
 1 ≤ iv (σ 14) →
 iv (σ 14) ≤ 12 →
 σ 15 = .float .f64 (fv (σ 15)) →
 σ 16 = vE →
 σ 17 = vF →
 σ 18 = vZ →
 σ 19 = vT →
 σ 20 = vO →
 σ 21 = .int .i64 (iv (σ 21)) →
 1 ≤ iv (σ 21) →
 iv (σ 21) ≤ 31 →
 σ 22 = .float .f64 (fv (σ 22)) →
 σ 23 = vE →
 σ 24 = vF →
 σ 25 = vZ →
 σ 26 = vT →
 σ 27 = vO →
 σ 28 = .int .i64 (iv (σ 28)) →
 (-693593) ≤ iv (σ 28) →
 iv (σ 28) ≤ 2958465 →
 σ 29 = .float .f64 (fv (σ 29)) →
 σ 30 = vE →
 σ 31 = vF →
 σ 32 = vZ →
 σ 33 = vT →
 σ 34 = .int .i64 (iv (σ 34)) →
 (-693593) ≤ iv (σ 34) →
 iv (σ 34) ≤ 2958465 →
 σ 35 = .float .f64 (fv (σ 35)) →
 begunR [vT] →
 fv (σ 4) = FloatKind.f64.nearest (iv (σ 0)) →
 chkR [vO, vO, vU, vO, σ 0, σ 4, vE, vF, vZ, vZ] →
 fv (σ 8) = FloatKind.f64.nearest (iv (σ 7)) →
 callYearR [(vS #[89,69,65,82]), vU, vF, vF, vO, vO, vU, vZ, vZ, vO, σ 0, σ 4, vE, vF, vZ, vO, σ 7, σ 8, vE, vF, vZ, vT] →
 fv (σ 15) = FloatKind.f64.nearest (iv (σ 14)) →
 callMonthR [(vS #[77,79,78,84,72]), vU, vF, vF, vO, vO, vU, vZ, vZ, vO, σ 0, σ 4, vE, vF, vZ, vO, σ 14, σ 15, vE, vF, vZ, vT] →
 fv (σ 22) = FloatKind.f64.nearest (iv (σ 21)) →
 callDayR [(vS #[68,65,89]), vU, vF, vF, vO, vO, vU, vZ, vZ, vO, σ 0, σ 4, vE, vF, vZ, vO, σ 21, σ 22, vE, vF, vZ, vT] →
 fv (σ 29) = FloatKind.f64.nearest (iv (σ 28)) →
 callDateR [(vS #[68,65,84,69]), vU, vF, vF, vO, vO, vU, vZ, vZ, vO, σ 7, σ 8, vE, vF, vZ, vF, vF, vO, vO, vU, vZ, vZ, vO, σ 14, σ 15, vE, vF, vZ, vF, vF, vO, vO, vU, vZ, vZ, vO, σ 21, σ 22, vE, vF, vZ, vO, σ 28, σ 29, vE, vF, vZ, vT] →
 iv (σ 34) = iv (σ 0) + 0 →
 fv (σ 35) = FloatKind.f64.nearest (iv (σ 34)) →
 sameR [vO, σ 28, σ 29, vE, vF, vZ, vO, σ 34, σ 35, vE, vF, vZ, σ 36] →
 9998 < iv (σ 7) →
 bv (σ 36) = true →
 bv (σ 36) = !false →
 iv (σ 0) ≤ 2958465 →
 (-693593) ≤ iv (σ 0) →
    backR [σ 0, vT]
def backR_L18 : Prop := ∀ σ : Nat → Value,
 σ 0 = .int .i64 (iv (σ 0)) →
 (-693593) ≤ iv (σ 0) →
 iv (σ 0) ≤ 2958465 →
 σ 1 = vT →
 σ 4 = .float .f64 (fv (σ 4)) →
 σ 5 = vZ →
 σ 6 = vO →
 σ 7 = .int .i64 (iv (σ 7)) →
 1 ≤ iv (σ 7) →
 iv (σ 7) ≤ 9998 →
 σ 8 = .float .f64 (fv (σ 8)) →
 σ 9 = vE →
 σ 10 = vF →
 σ 11 = vZ →
 σ 12 = vT →
 σ 13 = vO →
 σ 14 = .int .i64 (iv (σ 14)) →
 1 ≤ iv (σ 14) →
 iv (σ 14) ≤ 12 →
 σ 15 = .float .f64 (fv (σ 15)) →
 σ 16 = vE →
 σ 17 = vF →
 σ 18 = vZ →
 σ 19 = vT →
 σ 20 = vO →
 σ 21 = .int .i64 (iv (σ 21)) →
 1 ≤ iv (σ 21) →
 iv (σ 21) ≤ 31 →
 σ 22 = .float .f64 (fv (σ 22)) →
 σ 23 = vE →
 σ 24 = vF →
 σ 25 = vZ →
 σ 26 = vT →
 σ 27 = vO →
 σ 28 = .int .i64 (iv (σ 28)) →
 (-693593) ≤ iv (σ 28) →
 iv (σ 28) ≤ 2958465 →
 σ 29 = .float .f64 (fv (σ 29)) →
 σ 30 = vE →
 σ 31 = vF →
 σ 32 = vZ →
 σ 33 = vT →
 σ 34 = .int .i64 (iv (σ 34)) →
 (-693593) ≤ iv (σ 34) →
 iv (σ 34) ≤ 2958465 →
 σ 35 = .float .f64 (fv (σ 35)) →
 σ 39 = vZ →
 begunR [vT] →
 fv (σ 4) = FloatKind.f64.nearest (iv (σ 0)) →
 chkR [vO, vO, vU, vO, σ 0, σ 4, vE, vF, vZ, vZ] →
 fv (σ 8) = FloatKind.f64.nearest (iv (σ 7)) →
 callYearR [(vS #[89,69,65,82]), vU, vF, vF, vO, vO, vU, vZ, vZ, vO, σ 0, σ 4, vE, vF, vZ, vO, σ 7, σ 8, vE, vF, vZ, vT] →
 fv (σ 15) = FloatKind.f64.nearest (iv (σ 14)) →
 callMonthR [(vS #[77,79,78,84,72]), vU, vF, vF, vO, vO, vU, vZ, vZ, vO, σ 0, σ 4, vE, vF, vZ, vO, σ 14, σ 15, vE, vF, vZ, vT] →
 fv (σ 22) = FloatKind.f64.nearest (iv (σ 21)) →
 callDayR [(vS #[68,65,89]), vU, vF, vF, vO, vO, vU, vZ, vZ, vO, σ 0, σ 4, vE, vF, vZ, vO, σ 21, σ 22, vE, vF, vZ, vT] →
 fv (σ 29) = FloatKind.f64.nearest (iv (σ 28)) →
 callDateR [(vS #[68,65,84,69]), vU, vF, vF, vO, vO, vU, vZ, vZ, vO, σ 7, σ 8, vE, vF, vZ, vF, vF, vO, vO, vU, vZ, vZ, vO, σ 14, σ 15, vE, vF, vZ, vF, vF, vO, vO, vU, vZ, vZ, vO, σ 21, σ 22, vE, vF, vZ, vO, σ 28, σ 29, vE, vF, vZ, vT] →
 iv (σ 34) = iv (σ 0) + 0 →
 fv (σ 35) = FloatKind.f64.nearest (iv (σ 34)) →
 sameR [vO, σ 28, σ 29, vE, vF, vZ, vO, σ 34, σ 35, vE, vF, vZ, σ 36] →
 chkR [vO, vO, vU, vO, (vI 12), (vG 4622945017495814144), vE, vF, vZ, vZ] →
 ¬ callEdateRPre [(vS #[69,68,65,84,69]), vU, vF, vF, vO, vO, vU, vZ, vZ, vO, σ 0, σ 4, vE, vF, vZ, vF, vF, vO, vO, vU, vZ, vZ, vO, (vI 12), (vG 4622945017495814144), vE, vF, vZ] →
 iv (σ 7) ≤ 9998 →
 bv (σ 36) = true →
 bv (σ 36) = !false →
 iv (σ 0) ≤ 2958465 →
 (-693593) ≤ iv (σ 0) →
    False
def backR_L19 : Prop := ∀ σ : Nat → Value,
 σ 0 = .int .i64 (iv (σ 0)) →
 (-693593) ≤ iv (σ 0) →
 iv (σ 0) ≤ 2958465 →
 σ 1 = vT →
 σ 4 = .float .f64 (fv (σ 4)) →
 σ 5 = vZ →
 σ 6 = vO →
 σ 7 = .int .i64 (iv (σ 7)) →
 1 ≤ iv (σ 7) →
 iv (σ 7) ≤ 9998 →
 σ 8 = .float .f64 (fv (σ 8)) →
 σ 9 = vE →
 σ 10 = vF →
 σ 11 = vZ →
 σ 12 = vT →
 σ 13 = vO →
 σ 14 = .int .i64 (iv (σ 14)) →
 1 ≤ iv (σ 14) →
 iv (σ 14) ≤ 12 →
 σ 15 = .float .f64 (fv (σ 15)) →
 σ 16 = vE →
 σ 17 = vF →
 σ 18 = vZ →
 σ 19 = vT →
 σ 20 = vO →
 σ 21 = .int .i64 (iv (σ 21)) →
 1 ≤ iv (σ 21) →
 iv (σ 21) ≤ 31 →
 σ 22 = .float .f64 (fv (σ 22)) →
 σ 23 = vE →
 σ 24 = vF →
 σ 25 = vZ →
 σ 26 = vT →
 σ 27 = vO →
 σ 28 = .int .i64 (iv (σ 28)) →
 (-693593) ≤ iv (σ 28) →
 iv (σ 28) ≤ 2958465 →
 σ 29 = .float .f64 (fv (σ 29)) →
 σ 30 = vE →
 σ 31 = vF →
 σ 32 = vZ →
 σ 33 = vT →
 σ 34 = .int .i64 (iv (σ 34)) →
 (-693593) ≤ iv (σ 34) →
 iv (σ 34) ≤ 2958465 →
 σ 35 = .float .f64 (fv (σ 35)) →
 begunR [vT] →
 fv (σ 4) = FloatKind.f64.nearest (iv (σ 0)) →
 chkR [vO, vO, vU, vO, σ 0, σ 4, vE, vF, vZ, vZ] →
 fv (σ 8) = FloatKind.f64.nearest (iv (σ 7)) →
 callYearR [(vS #[89,69,65,82]), vU, vF, vF, vO, vO, vU, vZ, vZ, vO, σ 0, σ 4, vE, vF, vZ, vO, σ 7, σ 8, vE, vF, vZ, vT] →
 fv (σ 15) = FloatKind.f64.nearest (iv (σ 14)) →
 callMonthR [(vS #[77,79,78,84,72]), vU, vF, vF, vO, vO, vU, vZ, vZ, vO, σ 0, σ 4, vE, vF, vZ, vO, σ 14, σ 15, vE, vF, vZ, vT] →
 fv (σ 22) = FloatKind.f64.nearest (iv (σ 21)) →
 callDayR [(vS #[68,65,89]), vU, vF, vF, vO, vO, vU, vZ, vZ, vO, σ 0, σ 4, vE, vF, vZ, vO, σ 21, σ 22, vE, vF, vZ, vT] →
 fv (σ 29) = FloatKind.f64.nearest (iv (σ 28)) →
 callDateR [(vS #[68,65,84,69]), vU, vF, vF, vO, vO, vU, vZ, vZ, vO, σ 7, σ 8, vE, vF, vZ, vF, vF, vO, vO, vU, vZ, vZ, vO, σ 14, σ 15, vE, vF, vZ, vF, vF, vO, vO, vU, vZ, vZ, vO, σ 21, σ 22, vE, vF, vZ, vO, σ 28, σ 29, vE, vF, vZ, vT] →
 iv (σ 34) = iv (σ 0) + 0 →
 fv (σ 35) = FloatKind.f64.nearest (iv (σ 34)) →
 sameR [vO, σ 28, σ 29, vE, vF, vZ, vO, σ 34, σ 35, vE, vF, vZ, σ 36] →
 ¬ callEdateRPre [(vS #[69,68,65,84,69]), vU, vF, vF, vO, vO, vU, vZ, vZ, vO, σ 0, σ 4, vE, vF, vZ, vF, vF, vO, vO, vU, vZ, vZ, vO, (vI 12), (vG 4622945017495814144), vE, vF, vZ] →
 iv (σ 7) ≤ 9998 →
 bv (σ 36) = true →
 bv (σ 36) = !false →
 iv (σ 0) ≤ 2958465 →
 (-693593) ≤ iv (σ 0) →
    False
theorem law_tie3 : goalsAt lawC (cfgB lawC.base [begunK, yearC, monC, dayC, mkC, edateC, chkC, reckC, sameC]) 2000 15 5 = (backR_L15 ∧ backR_L16 ∧ backR_L17 ∧ backR_L18 ∧ backR_L19 ∧ True) := by kernel_rfl
theorem backR_L15_ok : backR_L15 := by
  intro σ; intros
  have y0 := ‹callYearR _›
  have m0 := ‹callMonthR _›
  have d0 := ‹callDayR _›
  have H : IsDate (iv (σ 0) + 693593) (iv (σ 7)) (iv (σ 14)) (iv (σ 21)) := by
    obtain ⟨_, _, y1⟩ := y0
    obtain ⟨_, _, m1⟩ := m0
    obtain ⟨_, _, d1⟩ := d0
    exact same3 y1 m1 d1
  have r0 := ‹callEdateR [(vS #[69,68,65,84,69]), vU, vF, vF, vO, vO, vU, vZ, vZ, vO, σ 0, σ 4, vE, vF, vZ, vF, vF, vO, vO, vU, vZ, vZ, vO, (vI 12), (vG 4622945017495814144), vE, vF, vZ, vO, σ 43, σ 44, vE, vF, vZ, vT]›
  have r1 : edR 12 (iv (σ 0) + 693593) (iv (σ 43) + 693593) := r0
  have D1 := ed12 H (by omega) r1
  have n0 := ‹¬ callEdateRPre _›
  exact absurd (ed_prem12 D1 (by omega)) n0
theorem backR_L16_ok : backR_L16 := by
  intro σ; intros
  have y0 := ‹callYearR _›
  have m0 := ‹callMonthR _›
  have d0 := ‹callDayR _›
  have H : IsDate (iv (σ 0) + 693593) (iv (σ 7)) (iv (σ 14)) (iv (σ 21)) := by
    obtain ⟨_, _, y1⟩ := y0
    obtain ⟨_, _, m1⟩ := m0
    obtain ⟨_, _, d1⟩ := d0
    exact same3 y1 m1 d1
  have x0 := ‹callDateR _›
  have X : iv (σ 28) = iv (σ 0) := date_back H x0
  have s0 := ‹sameR _›
  have s1 : bv (σ 36) = decide (iv (σ 28) = iv (σ 34)) := s0
  have a := ‹iv (σ 34) = iv (σ 0) + 0›
  have e : iv (σ 28) = iv (σ 34) := by omega
  exact (not_both (s1.trans (decide_eq_true e)) ‹bv (σ 36) = false›).elim
theorem backR_L17_ok : backR_L17 := by
  intro σ; intros
  rfl
theorem backR_L18_ok : backR_L18 := by
  intro σ; intros
  have y0 := ‹callYearR _›
  have m0 := ‹callMonthR _›
  have d0 := ‹callDayR _›
  have H : IsDate (iv (σ 0) + 693593) (iv (σ 7)) (iv (σ 14)) (iv (σ 21)) := by
    obtain ⟨_, _, y1⟩ := y0
    obtain ⟨_, _, m1⟩ := m0
    obtain ⟨_, _, d1⟩ := d0
    exact same3 y1 m1 d1
  have n0 := ‹¬ callEdateRPre _›
  exact absurd (ed_pre12 H (by omega)) n0
theorem backR_L19_ok : backR_L19 := by
  intro σ; intros
  have y0 := ‹callYearR _›
  have m0 := ‹callMonthR _›
  have d0 := ‹callDayR _›
  have H : IsDate (iv (σ 0) + 693593) (iv (σ 7)) (iv (σ 14)) (iv (σ 21)) := by
    obtain ⟨_, _, y1⟩ := y0
    obtain ⟨_, _, m1⟩ := m0
    obtain ⟨_, _, d1⟩ := d0
    exact same3 y1 m1 d1
  have n0 := ‹¬ callEdateRPre _›
  exact absurd (ed_pre12 H (by omega)) n0
theorem law_part3 : goalsAt lawC (cfgB lawC.base [begunK, yearC, monC, dayC, mkC, edateC, chkC, reckC, sameC]) 2000 15 5 := by
  rw [law_tie3]
  exact ⟨backR_L15_ok, backR_L16_ok, backR_L17_ok, backR_L18_ok, backR_L19_ok, trivial⟩
end Go.Proofs.Back
