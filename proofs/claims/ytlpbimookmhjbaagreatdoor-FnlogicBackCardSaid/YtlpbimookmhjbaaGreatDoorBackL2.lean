/- The law: what is to be shown, part 2. -/
import Derived.Test.YtlpbimookmhjbaaGreatDoorBackK
namespace Go.Proofs.Back
open Go.Ev Go.Dates Go.RowKit Go.Proofs.YtlpbimookmhjbaaGreatDoor
set_option maxRecDepth 1000000
def backR_L10 : Prop := ∀ σ : Nat → Value,
 σ 0 = .int .i64 (iv (σ 0)) →
 (-693593) ≤ iv (σ 0) →
 iv (σ 0) ≤ 2958465 →
 σ 1 = vT →
 σ 4 = .float .f64 (fv (σ 4)) →
 σ 5 = vZ →
 σ 6 = vO →
 σ 7 = .int .i64 (iv (σ 7)) →
 1 ≤ iv (σ 7) →
 iv (σ 7) ≤ 9998 →
 σ 8 = .float .f64 (fv (σ 8)) →
 σ 9 = vE →
 σ 10 = vF →
 σ 11 = vZ →
 σ 12 = vT →
 σ 13 = vO →
 σ 14 = .int .i64 (iv (σ 14)) →
 1 ≤ iv (σ 14) →
 iv (σ 14) ≤ 12 →
 σ 15 = .float .f64 (fv (σ 15)) →
 σ 16 = vE →
 σ 17 = vF →
 σ 18 = vZ →
 σ 19 = vT →
 σ 20 = vO →
 σ 21 = .int .i64 (iv (σ 21)) →
 1 ≤ iv (σ 21) →
 iv (σ 21) ≤ 31 →
 σ 22 = .float .f64 (fv (σ 22)) →
 σ 23 = vE →
 σ 24 = vF →
 σ 25 = vZ →
 σ 26 = vT →
 σ 27 = vZ →
 σ 28 = vZ →
 σ 29 = vZ →
 σ 30 = vO →
 σ 31 = .int .i64 (iv (σ 31)) →
 (-693593) ≤ iv (σ 31) →
 iv (σ 31) ≤ 2958465 →
 σ 32 = .float .f64 (fv (σ 32)) →
 σ 33 = vE →
 σ 34 = vF →
 σ 35 = vZ →
 σ 36 = vT →
 σ 37 = .int .i64 (iv (σ 37)) →
 (-693593) ≤ iv (σ 37) →
 iv (σ 37) ≤ 2958465 →
 σ 38 = .float .f64 (fv (σ 38)) →
 σ 42 = vZ →
 σ 43 = vO →
 σ 44 = .int .i64 (iv (σ 44)) →
 (-693593) ≤ iv (σ 44) →
 iv (σ 44) ≤ 2958465 →
 σ 45 = .float .f64 (fv (σ 45)) →
 σ 46 = vE →
 σ 47 = vF →
 σ 48 = vZ →
 σ 49 = vT →
 σ 50 = vZ →
 σ 51 = vZ →
 σ 52 = vO →
 σ 53 = .int .i64 (iv (σ 53)) →
 (-693593) ≤ iv (σ 53) →
 iv (σ 53) ≤ 2958465 →
 σ 54 = .float .f64 (fv (σ 54)) →
 σ 55 = vE →
 σ 56 = vF →
 σ 57 = vZ →
 σ 58 = vT →
 σ 60 = vO →
 σ 61 = .int .i64 (iv (σ 61)) →
 (-9000000) ≤ iv (σ 61) →
 iv (σ 61) ≤ 9000000 →
 σ 62 = .float .f64 (fv (σ 62)) →
 σ 63 = vE →
 σ 64 = vF →
 σ 65 = vZ →
 σ 66 = .bool (bv (σ 66)) →
 begunR [vT] →
 fv (σ 4) = FloatKind.f64.nearest (iv (σ 0)) →
 chkR [vO, vO, vU, vO, σ 0, σ 4, vE, vF, vZ, vZ] →
 fv (σ 8) = FloatKind.f64.nearest (iv (σ 7)) →
 callYearR [(vS #[89,69,65,82]), vU, vF, vF, vO, vO, vU, vZ, vZ, vO, σ 0, σ 4, vE, vF, vZ, vO, σ 7, σ 8, vE, vF, vZ, vT] →
 fv (σ 15) = FloatKind.f64.nearest (iv (σ 14)) →
 callMonthR [(vS #[77,79,78,84,72]), vU, vF, vF, vO, vO, vU, vZ, vZ, vO, σ 0, σ 4, vE, vF, vZ, vO, σ 14, σ 15, vE, vF, vZ, vT] →
 fv (σ 22) = FloatKind.f64.nearest (iv (σ 21)) →
 callDayR [(vS #[68,65,89]), vU, vF, vF, vO, vO, vU, vZ, vZ, vO, σ 0, σ 4, vE, vF, vZ, vO, σ 21, σ 22, vE, vF, vZ, vT] →
 chkR [vO, vO, vU, vO, σ 7, σ 8, vE, vF, vZ, vZ] →
 chkR [vO, vO, vU, vO, σ 14, σ 15, vE, vF, vZ, vZ] →
 chkR [vO, vO, vU, vO, σ 21, σ 22, vE, vF, vZ, vZ] →
 fv (σ 32) = FloatKind.f64.nearest (iv (σ 31)) →
 callDateR [(vS #[68,65,84,69]), vU, vF, vF, vO, vO, vU, vZ, vZ, vO, σ 7, σ 8, vE, vF, vZ, vF, vF, vO, vO, vU, vZ, vZ, vO, σ 14, σ 15, vE, vF, vZ, vF, vF, vO, vO, vU, vZ, vZ, vO, σ 21, σ 22, vE, vF, vZ, vO, σ 31, σ 32, vE, vF, vZ, vT] →
 iv (σ 37) = iv (σ 0) + 0 →
 fv (σ 38) = FloatKind.f64.nearest (iv (σ 37)) →
 sameR [vO, σ 31, σ 32, vE, vF, vZ, vO, σ 37, σ 38, vE, vF, vZ, σ 39] →
 chkR [vO, vO, vU, vO, (vI 12), (vG 4622945017495814144), vE, vF, vZ, vZ] →
 fv (σ 45) = FloatKind.f64.nearest (iv (σ 44)) →
 callEdateR [(vS #[69,68,65,84,69]), vU, vF, vF, vO, vO, vU, vZ, vZ, vO, σ 0, σ 4, vE, vF, vZ, vF, vF, vO, vO, vU, vZ, vZ, vO, (vI 12), (vG 4622945017495814144), vE, vF, vZ, vO, σ 44, σ 45, vE, vF, vZ, vT] →
 chkR [vO, vO, vU, vO, σ 44, σ 45, vE, vF, vZ, vZ] →
 chkR [vO, vO, vU, vO, (vI (-12)), (vG 13846317054350589952), vE, vF, vZ, vZ] →
 fv (σ 54) = FloatKind.f64.nearest (iv (σ 53)) →
 callEdateR [(vS #[69,68,65,84,69]), vU, vF, vF, vO, vO, vU, vZ, vZ, vO, σ 44, σ 45, vE, vF, vZ, vF, vF, vO, vO, vU, vZ, vZ, vO, (vI (-12)), (vG 13846317054350589952), vE, vF, vZ, vO, σ 53, σ 54, vE, vF, vZ, vT] →
 fv (σ 62) = FloatKind.f64.nearest (iv (σ 61)) →
 reckR [σ 0, σ 4, vO, σ 61, σ 62, vE, vF, vZ] →
 sameR [vO, σ 53, σ 54, vE, vF, vZ, vO, σ 61, σ 62, vE, vF, vZ, σ 66] →
 iv (σ 14) ≠ 2 →
 iv (σ 7) ≤ 9998 →
 bv (σ 39) = true →
 bv (σ 39) = !false →
 iv (σ 0) ≤ 2958465 →
 (-693593) ≤ iv (σ 0) →
    backR [σ 0, σ 66]
def backR_L11 : Prop := ∀ σ : Nat → Value,
 σ 0 = .int .i64 (iv (σ 0)) →
 (-693593) ≤ iv (σ 0) →
 iv (σ 0) ≤ 2958465 →
 σ 1 = vT →
 σ 4 = .float .f64 (fv (σ 4)) →
 σ 5 = vZ →
 σ 6 = vO →
 σ 7 = .int .i64 (iv (σ 7)) →
 1 ≤ iv (σ 7) →
 iv (σ 7) ≤ 9998 →
 σ 8 = .float .f64 (fv (σ 8)) →
 σ 9 = vE →
 σ 10 = vF →
 σ 11 = vZ →
 σ 12 = vT →
 σ 13 = vO →
 σ 14 = .int .i64 (iv (σ 14)) →
 1 ≤ iv (σ 14) →
 iv (σ 14) ≤ 12 →
 σ 15 = .float .f64 (fv (σ 15)) →
 σ 16 = vE →
 σ 17 = vF →
 σ 18 = vZ →
 σ 19 = vT →
 σ 20 = vO →
 σ 21 = .int .i64 (iv (σ 21)) →
 1 ≤ iv (σ 21) →
 iv (σ 21) ≤ 31 →
 σ 22 = .float .f64 (fv (σ 22)) →
 σ 23 = vE →
 σ 24 = vF →
 σ 25 = vZ →
 σ 26 = vT →
 σ 27 = vZ →
 σ 28 = vZ →
 σ 29 = vZ →
 σ 30 = vO →
 σ 31 = .int .i64 (iv (σ 31)) →
 (-693593) ≤ iv (σ 31) →
 iv (σ 31) ≤ 2958465 →
 σ 32 = .float .f64 (fv (σ 32)) →
 σ 33 = vE →
 σ 34 = vF →
 σ 35 = vZ →
 σ 36 = vT →
 σ 37 = .int .i64 (iv (σ 37)) →
 (-693593) ≤ iv (σ 37) →
 iv (σ 37) ≤ 2958465 →
 σ 38 = .float .f64 (fv (σ 38)) →
 σ 42 = vZ →
 σ 43 = vO →
 σ 44 = .int .i64 (iv (σ 44)) →
 (-693593) ≤ iv (σ 44) →
 iv (σ 44) ≤ 2958465 →
 σ 45 = .float .f64 (fv (σ 45)) →
 σ 46 = vE →
 σ 47 = vF →
 σ 48 = vZ →
 σ 49 = vT →
 σ 50 = vZ →
 σ 51 = vZ →
 begunR [vT] →
 fv (σ 4) = FloatKind.f64.nearest (iv (σ 0)) →
 chkR [vO, vO, vU, vO, σ 0, σ 4, vE, vF, vZ, vZ] →
 fv (σ 8) = FloatKind.f64.nearest (iv (σ 7)) →
 callYearR [(vS #[89,69,65,82]), vU, vF, vF, vO, vO, vU, vZ, vZ, vO, σ 0, σ 4, vE, vF, vZ, vO, σ 7, σ 8, vE, vF, vZ, vT] →
 fv (σ 15) = FloatKind.f64.nearest (iv (σ 14)) →
 callMonthR [(vS #[77,79,78,84,72]), vU, vF, vF, vO, vO, vU, vZ, vZ, vO, σ 0, σ 4, vE, vF, vZ, vO, σ 14, σ 15, vE, vF, vZ, vT] →
 fv (σ 22) = FloatKind.f64.nearest (iv (σ 21)) →
 callDayR [(vS #[68,65,89]), vU, vF, vF, vO, vO, vU, vZ, vZ, vO, σ 0, σ 4, vE, vF, vZ, vO, σ 21, σ 22, vE, vF, vZ, vT] →
 chkR [vO, vO, vU, vO, σ 7, σ 8, vE, vF, vZ, vZ] →
 chkR [vO, vO, vU, vO, σ 14, σ 15, vE, vF, vZ, vZ] →
 chkR [vO, vO, vU, vO, σ 21, σ 22, vE, vF, vZ, vZ] →
 fv (σ 32) = FloatKind.f64.nearest (iv (σ 31)) →
 callDateR [(vS #[68,65,84,69]), vU, vF, vF, vO, vO, vU, vZ, vZ, vO, σ 7, σ 8, vE, vF, vZ, vF, vF, vO, vO, vU, vZ, vZ, vO, σ 14, σ 15, vE, vF, vZ, vF, vF, vO, vO, vU, vZ, vZ, vO, σ 21, σ 22, vE, vF, vZ, vO, σ 31, σ 32, vE, vF, vZ, vT] →
 iv (σ 37) = iv (σ 0) + 0 →
 fv (σ 38) = FloatKind.f64.nearest (iv (σ 37)) →
 sameR [vO, σ 31, σ 32, vE, vF, vZ, vO, σ 37, σ 38, vE, vF, vZ, σ 39] →
 chkR [vO, vO, vU, vO, (vI 12), (vG 4622945017495814144), vE, vF, vZ, vZ] →
 fv (σ 45) = FloatKind.f64.nearest (iv (σ 44)) →
 callEdateR [(vS #[69,68,65,84,69]), vU, vF, vF, vO, vO, vU, vZ, vZ, vO, σ 0, σ 4, vE, vF, vZ, vF, vF, vO, vO, vU, vZ, vZ, vO, (vI 12), (vG 4622945017495814144), vE, vF, vZ, vO, σ 44, σ 45, vE, vF, vZ, vT] →
 chkR [vO, vO, vU, vO, σ 44, σ 45, vE, vF, vZ, vZ] →
 chkR [vO, vO, vU, vO, (vI (-12)), (vG 13846317054350589952), vE, vF, vZ, vZ] →
 ¬ callEdateRPre [(vS #[69,68,65,84,69]), vU, vF, vF, vO, vO, vU, vZ, vZ, vO, σ 44, σ 45, vE, vF, vZ, vF, vF, vO, vO, vU, vZ, vZ, vO, (vI (-12)), (vG 13846317054350589952), vE, vF, vZ] →
 iv (σ 7) ≤ 9998 →
 bv (σ 39) = true →
 bv (σ 39) = !false →
 iv (σ 0) ≤ 2958465 →
 (-693593) ≤ iv (σ 0) →
    False
def backR_L12 : Prop := ∀ σ : Nat → Value,
 σ 0 = .int .i64 (iv (σ 0)) →
 (-693593) ≤ iv (σ 0) →
 iv (σ 0) ≤ 2958465 →
 σ 1 = vT →
 σ 4 = .float .f64 (fv (σ 4)) →
 σ 5 = vZ →
 σ 6 = vO →
 σ 7 = .int .i64 (iv (σ 7)) →
 1 ≤ iv (σ 7) →
 iv (σ 7) ≤ 9998 →
 σ 8 = .float .f64 (fv (σ 8)) →
 σ 9 = vE →
 σ 10 = vF →
 σ 11 = vZ →
 σ 12 = vT →
 σ 13 = vO →
 σ 14 = .int .i64 (iv (σ 14)) →
 2 ≤ iv (σ 14) →
 iv (σ 14) ≤ 2 →
 σ 15 = .float .f64 (fv (σ 15)) →
 σ 16 = vE →
 σ 17 = vF →
 σ 18 = vZ →
 σ 19 = vT →
 σ 20 = vO →
 σ 21 = .int .i64 (iv (σ 21)) →
 29 ≤ iv (σ 21) →
 iv (σ 21) ≤ 29 →
 σ 22 = .float .f64 (fv (σ 22)) →
 σ 23 = vE →
 σ 24 = vF →
 σ 25 = vZ →
 σ 26 = vT →
 σ 27 = vZ →
 σ 28 = vZ →
 σ 29 = vZ →
 σ 30 = vO →
 σ 31 = .int .i64 (iv (σ 31)) →
 (-693593) ≤ iv (σ 31) →
 iv (σ 31) ≤ 2958465 →
 σ 32 = .float .f64 (fv (σ 32)) →
 σ 33 = vE →
 σ 34 = vF →
 σ 35 = vZ →
 σ 36 = vT →
 σ 37 = .int .i64 (iv (σ 37)) →
 (-693593) ≤ iv (σ 37) →
 iv (σ 37) ≤ 2958465 →
 σ 38 = .float .f64 (fv (σ 38)) →
 σ 42 = vO →
 σ 43 = .int .i64 (iv (σ 43)) →
 (-693593) ≤ iv (σ 43) →
 iv (σ 43) ≤ 2958465 →
 σ 44 = .float .f64 (fv (σ 44)) →
 σ 45 = vE →
 σ 46 = vF →
 σ 47 = vZ →
 σ 48 = vT →
 σ 49 = vZ →
 σ 50 = vZ →
 σ 51 = vO →
 σ 52 = .int .i64 (iv (σ 52)) →
 (-693593) ≤ iv (σ 52) →
 iv (σ 52) ≤ 2958465 →
 σ 53 = .float .f64 (fv (σ 53)) →
 σ 54 = vE →
 σ 55 = vF →
 σ 56 = vZ →
 σ 57 = vT →
 σ 60 = .int .i64 (iv (σ 60)) →
 (-693594) ≤ iv (σ 60) →
 iv (σ 60) ≤ 2958464 →
 σ 61 = .float .f64 (fv (σ 61)) →
 σ 62 = vO →
 σ 63 = .int .i64 (iv (σ 63)) →
 (-9000000) ≤ iv (σ 63) →
 iv (σ 63) ≤ 9000000 →
 σ 64 = .float .f64 (fv (σ 64)) →
 σ 65 = vE →
 σ 66 = vF →
 σ 67 = vZ →
 σ 68 = .bool (bv (σ 68)) →
 begunR [vT] →
 fv (σ 4) = FloatKind.f64.nearest (iv (σ 0)) →
 chkR [vO, vO, vU, vO, σ 0, σ 4, vE, vF, vZ, vZ] →
 fv (σ 8) = FloatKind.f64.nearest (iv (σ 7)) →
 callYearR [(vS #[89,69,65,82]), vU, vF, vF, vO, vO, vU, vZ, vZ, vO, σ 0, σ 4, vE, vF, vZ, vO, σ 7, σ 8, vE, vF, vZ, vT] →
 fv (σ 15) = FloatKind.f64.nearest (iv (σ 14)) →
 callMonthR [(vS #[77,79,78,84,72]), vU, vF, vF, vO, vO, vU, vZ, vZ, vO, σ 0, σ 4, vE, vF, vZ, vO, σ 14, σ 15, vE, vF, vZ, vT] →
 fv (σ 22) = FloatKind.f64.nearest (iv (σ 21)) →
 callDayR [(vS #[68,65,89]), vU, vF, vF, vO, vO, vU, vZ, vZ, vO, σ 0, σ 4, vE, vF, vZ, vO, σ 21, σ 22, vE, vF, vZ, vT] →
 chkR [vO, vO, vU, vO, σ 7, σ 8, vE, vF, vZ, vZ] →
 chkR [vO, vO, vU, vO, σ 14, σ 15, vE, vF, vZ, vZ] →
 chkR [vO, vO, vU, vO, σ 21, σ 22, vE, vF, vZ, vZ] →
 fv (σ 32) = FloatKind.f64.nearest (iv (σ 31)) →
 callDateR [(vS #[68,65,84,69]), vU, vF, vF, vO, vO, vU, vZ, vZ, vO, σ 7, σ 8, vE, vF, vZ, vF, vF, vO, vO, vU, vZ, vZ, vO, σ 14, σ 15, vE, vF, vZ, vF, vF, vO, vO, vU, vZ, vZ, vO, σ 21, σ 22, vE, vF, vZ, vO, σ 31, σ 32, vE, vF, vZ, vT] →
 iv (σ 37) = iv (σ 0) + 0 →
 fv (σ 38) = FloatKind.f64.nearest (iv (σ 37)) →
 sameR [vO, σ 31, σ 32, vE, vF, vZ, vO, σ 37, σ 38, vE, vF, vZ, σ 39] →
 fv (σ 44) = FloatKind.f64.nearest (iv (σ 43)) →
 callEdateR [(vS #[69,68,65,84,69]), vU, vF, vF, vO, vO, vU, vZ, vZ, vO, σ 0, σ 4, vE, vF, vZ, vF, vF, vO, vO, vU, vZ, vZ, vO, (vI 12), (vG 4622945017495814144), vE, vF, vZ, vO, σ 43, σ 44, vE, vF, vZ, vT] →
 chkR [vO, vO, vU, vO, σ 43, σ 44, vE, vF, vZ, vZ] →
 chkR [vO, vO, vU, vO, (vI (-12)), (vG 13846317054350589952), vE, vF, vZ, vZ] →
 fv (σ 53) = FloatKind.f64.nearest (iv (σ 52)) →
 callEdateR [(vS #[69,68,65,84,69]), vU, vF, vF, vO, vO, vU, vZ, vZ, vO, σ 43, σ 44, vE, vF, vZ, vF, vF, vO, vO, vU, vZ, vZ, vO, (vI (-12)), (vG 13846317054350589952), vE, vF, vZ, vO, σ 52, σ 53, vE, vF, vZ, vT] →
 iv (σ 60) = iv (σ 0) - 1 →
 fv (σ 61) = FloatKind.f64.nearest (iv (σ 60)) →
 fv (σ 64) = FloatKind.f64.nearest (iv (σ 63)) →
 reckR [σ 60, σ 61, vO, σ 63, σ 64, vE, vF, vZ] →
 sameR [vO, σ 52, σ 53, vE, vF, vZ, vO, σ 63, σ 64, vE, vF, vZ, σ 68] →
 iv (σ 21) = 29 →
 iv (σ 14) = 2 →
 iv (σ 7) ≤ 9998 →
 bv (σ 39) = true →
 bv (σ 39) = !false →
 iv (σ 0) ≤ 2958465 →
 (-693593) ≤ iv (σ 0) →
    backR [σ 0, σ 68]
def backR_L13 : Prop := ∀ σ : Nat → Value,
 σ 0 = .int .i64 (iv (σ 0)) →
 (-693593) ≤ iv (σ 0) →
 iv (σ 0) ≤ 2958465 →
 σ 1 = vT →
 σ 4 = .float .f64 (fv (σ 4)) →
 σ 5 = vZ →
 σ 6 = vO →
 σ 7 = .int .i64 (iv (σ 7)) →
 1 ≤ iv (σ 7) →
 iv (σ 7) ≤ 9998 →
 σ 8 = .float .f64 (fv (σ 8)) →
 σ 9 = vE →
 σ 10 = vF →
 σ 11 = vZ →
 σ 12 = vT →
 σ 13 = vO →
 σ 14 = .int .i64 (iv (σ 14)) →
 2 ≤ iv (σ 14) →
 iv (σ 14) ≤ 2 →
 σ 15 = .float .f64 (fv (σ 15)) →
 σ 16 = vE →
 σ 17 = vF →
 σ 18 = vZ →
 σ 19 = vT →
 σ 20 = vO →
 σ 21 = .int .i64 (iv (σ 21)) →
 1 ≤ iv (σ 21) →
 iv (σ 21) ≤ 31 →
 σ 22 = .float .f64 (fv (σ 22)) →
 σ 23 = vE →
 σ 24 = vF →
 σ 25 = vZ →
 σ 26 = vT →
 σ 27 = vZ →
 σ 28 = vZ →
 σ 29 = vZ →
 σ 30 = vO →
 σ 31 = .int .i64 (iv (σ 31)) →
 (-693593) ≤ iv (σ 31) →
 iv (σ 31) ≤ 2958465 →
 σ 32 = .float .f64 (fv (σ 32)) →
 σ 33 = vE →
 σ 34 = vF →
 σ 35 = vZ →
 σ 36 = vT →
 σ 37 = .int .i64 (iv (σ 37)) →
 (-693593) ≤ iv (σ 37) →
 iv (σ 37) ≤ 2958465 →
 σ 38 = .float .f64 (fv (σ 38)) →
 σ 42 = vO →
 σ 43 = .int .i64 (iv (σ 43)) →
 (-693593) ≤ iv (σ 43) →
 iv (σ 43) ≤ 2958465 →
 σ 44 = .float .f64 (fv (σ 44)) →
 σ 45 = vE →
 σ 46 = vF →
 σ 47 = vZ →
 σ 48 = vT →
 σ 49 = vZ →
 σ 50 = vZ →
 σ 51 = vO →
 σ 52 = .int .i64 (iv (σ 52)) →
 (-693593) ≤ iv (σ 52) →
 iv (σ 52) ≤ 2958465 →
 σ 53 = .float .f64 (fv (σ 53)) →
 σ 54 = vE →
 σ 55 = vF →
 σ 56 = vZ →
 σ 57 = vT →
 σ 60 = vO →
 σ 61 = .int .i64 (iv (σ 61)) →
 (-9000000) ≤ iv (σ 61) →
 iv (σ 61) ≤ 9000000 →
 σ 62 = .float .f64 (fv (σ 62)) →
 σ 63 = vE →
 σ 64 = vF →
 σ 65 = vZ →
 σ 66 = .bool (bv (σ 66)) →
 begunR [vT] →
 fv (σ 4) = FloatKind.f64.nearest (iv (σ 0)) →
 chkR [vO, vO, vU, vO, σ 0, σ 4, vE, vF, vZ, vZ] →
 fv (σ 8) = FloatKind.f64.nearest (iv (σ 7)) →
 callYearR [(vS #[89,69,65,82]), vU, vF, vF, vO, vO, vU, vZ, vZ, vO, σ 0, σ 4, vE, vF, vZ, vO, σ 7, σ 8, vE, vF, vZ, vT] →
 fv (σ 15) = FloatKind.f64.nearest (iv (σ 14)) →
 callMonthR [(vS #[77,79,78,84,72]), vU, vF, vF, vO, vO, vU, vZ, vZ, vO, σ 0, σ 4, vE, vF, vZ, vO, σ 14, σ 15, vE, vF, vZ, vT] →
 fv (σ 22) = FloatKind.f64.nearest (iv (σ 21)) →
 callDayR [(vS #[68,65,89]), vU, vF, vF, vO, vO, vU, vZ, vZ, vO, σ 0, σ 4, vE, vF, vZ, vO, σ 21, σ 22, vE, vF, vZ, vT] →
 chkR [vO, vO, vU, vO, σ 7, σ 8, vE, vF, vZ, vZ] →
 chkR [vO, vO, vU, vO, σ 14, σ 15, vE, vF, vZ, vZ] →
 chkR [vO, vO, vU, vO, σ 21, σ 22, vE, vF, vZ, vZ] →
 fv (σ 32) = FloatKind.f64.nearest (iv (σ 31)) →
 callDateR [(vS #[68,65,84,69]), vU, vF, vF, vO, vO, vU, vZ, vZ, vO, σ 7, σ 8, vE, vF, vZ, vF, vF, vO, vO, vU, vZ, vZ, vO, σ 14, σ 15, vE, vF, vZ, vF, vF, vO, vO, vU, vZ, vZ, vO, σ 21, σ 22, vE, vF, vZ, vO, σ 31, σ 32, vE, vF, vZ, vT] →
 iv (σ 37) = iv (σ 0) + 0 →
 fv (σ 38) = FloatKind.f64.nearest (iv (σ 37)) →
 sameR [vO, σ 31, σ 32, vE, vF, vZ, vO, σ 37, σ 38, vE, vF, vZ, σ 39] →
 fv (σ 44) = FloatKind.f64.nearest (iv (σ 43)) →
 callEdateR [(vS #[69,68,65,84,69]), vU, vF, vF, vO, vO, vU, vZ, vZ, vO, σ 0, σ 4, vE, vF, vZ, vF, vF, vO, vO, vU, vZ, vZ, vO, (vI 12), (vG 4622945017495814144), vE, vF, vZ, vO, σ 43, σ 44, vE, vF, vZ, vT] →
 chkR [vO, vO, vU, vO, σ 43, σ 44, vE, vF, vZ, vZ] →
 chkR [vO, vO, vU, vO, (vI (-12)), (vG 13846317054350589952), vE, vF, vZ, vZ] →
 fv (σ 53) = FloatKind.f64.nearest (iv (σ 52)) →
 callEdateR [(vS #[69,68,65,84,69]), vU, vF, vF, vO, vO, vU, vZ, vZ, vO, σ 43, σ 44, vE, vF, vZ, vF, vF, vO, vO, vU, vZ, vZ, vO, (vI (-12)), (vG 13846317054350589952), vE, vF, vZ, vO, σ 52, σ 53, vE, vF, vZ, vT] →
 fv (σ 62) = FloatKind.f64.nearest (iv (σ 61)) →
 reckR [σ 0, σ 4, vO, σ 61, σ 62, vE, vF, vZ] →
 sameR [vO, σ 52, σ 53, vE, vF, vZ, vO, σ 61, σ 62, vE, vF, vZ, σ 66] →
 iv (σ 21) ≠ 29 →
 iv (σ 14) = 2 →
 iv (σ 7) ≤ 9998 →
 bv (σ 39) = true →
 bv (σ 39) = !false →
 iv (σ 0) ≤ 2958465 →
 (-693593) ≤ iv (σ 0) →
    backR [σ 0, σ 66]
def backR_L14 : Prop := ∀ σ : Nat → Value,
 σ 0 = .int .i64 (iv (σ 0)) →
 (-693593) ≤ iv (σ 0) →
 iv (σ 0) ≤ 2958465 →
 σ 1 = vT →
 σ 4 = .float .f64 (fv (σ 4)) →
 σ 5 = vZ →
 σ 6 = vO →
 σ 7 = .int .i64 (iv (σ 7)) →
 1 ≤ iv (σ 7) →
 iv (σ 7) ≤ 9998 →
 σ 8 = .float .f64 (fv (σ 8)) →
 σ 9 = vE →
 σ 10 = vF →
 σ 11 = vZ →
 σ 12 = vT →
 σ 13 = vO →
 σ 14 = .int .i64 (iv (σ 14)) →
 1 ≤ iv (σ 14) →
 iv (σ 14) ≤ 12 →
 σ 15 = .float .f64 (fv (σ 15)) →
 σ 16 = vE →
 σ 17 = vF →
 σ 18 = vZ →
 σ 19 = vT →
 σ 20 = vO →
 σ 21 = .int .i64 (iv (σ 21)) →
 1 ≤ iv (σ 21) →
 iv (σ 21) ≤ 31 →
 σ 22 = .float .f64 (fv (σ 22)) →
 σ 23 = vE →
 σ 24 = vF →
 σ 25 = vZ →
 σ 26 = vT →
 σ 27 = vZ →
 σ 28 = vZ →
 σ 29 = vZ →
 σ 30 = vO →
 σ 31 = .int .i64 (iv (σ 31)) →
 (-693593) ≤ iv (σ 31) →
 iv (σ 31) ≤ 2958465 →
 σ 32 = .float .f64 (fv (σ 32)) →
 σ 33 = vE →
 σ 34 = vF →
 σ 35 = vZ →
 σ 36 = vT →
 σ 37 = .int .i64 (iv (σ 37)) →
 (-693593) ≤ iv (σ 37) →
 iv (σ 37) ≤ 2958465 →
 σ 38 = .float .f64 (fv (σ 38)) →
 σ 42 = vO →
 σ 43 = .int .i64 (iv (σ 43)) →
 (-693593) ≤ iv (σ 43) →
 iv (σ 43) ≤ 2958465 →
 σ 44 = .float .f64 (fv (σ 44)) →
 σ 45 = vE →
 σ 46 = vF →
 σ 47 = vZ →
 σ 48 = vT →
 σ 49 = vZ →
 σ 50 = vZ →
 σ 51 = vO →
 σ 52 = .int .i64 (iv (σ 52)) →
 (-693593) ≤ iv (σ 52) →
 iv (σ 52) ≤ 2958465 →
 σ 53 = .float .f64 (fv (σ 53)) →
 σ 54 = vE →
 σ 55 = vF →
 σ 56 = vZ →
 σ 57 = vT →
 σ 59 = vO →
 σ 60 = .int .i64 (iv (σ 60)) →
 (-9000000) ≤ iv (σ 60) →
 iv (σ 60) ≤ 9000000 →
 σ 61 = .float .f64 (fv (σ 61)) →
 σ 62 = vE →
 σ 63 = vF →
 σ 64 = vZ →
 σ 65 = .bool (bv (σ 65)) →
 begunR [vT] →
 fv (σ 4) = FloatKind.f64.nearest (iv (σ 0)) →
 chkR [vO, vO, vU, vO, σ 0, σ 4, vE, vF, vZ, vZ] →
 fv (σ 8) = FloatKind.f64.nearest (iv (σ 7)) →
 callYearR [(vS #[89,69,65,82]), vU, vF, vF, vO, vO, vU, vZ, vZ, vO, σ 0, σ 4, vE, vF, vZ, vO, σ 7, σ 8, vE, vF, vZ, vT] →
 fv (σ 15) = FloatKind.f64.nearest (iv (σ 14)) →
 callMonthR [(vS #[77,79,78,84,72]), vU, vF, vF, vO, vO, vU, vZ, vZ, vO, σ 0, σ 4, vE, vF, vZ, vO, σ 14, σ 15, vE, vF, vZ, vT] →
 fv (σ 22) = FloatKind.f64.nearest (iv (σ 21)) →
 callDayR [(vS #[68,65,89]), vU, vF, vF, vO, vO, vU, vZ, vZ, vO, σ 0, σ 4, vE, vF, vZ, vO, σ 21, σ 22, vE, vF, vZ, vT] →
 chkR [vO, vO, vU, vO, σ 7, σ 8, vE, vF, vZ, vZ] →
 chkR [vO, vO, vU, vO, σ 14, σ 15, vE, vF, vZ, vZ] →
 chkR [vO, vO, vU, vO, σ 21, σ 22, vE, vF, vZ, vZ] →
 fv (σ 32) = FloatKind.f64.nearest (iv (σ 31)) →
 callDateR [(vS #[68,65,84,69]), vU, vF, vF, vO, vO, vU, vZ, vZ, vO, σ 7, σ 8, vE, vF, vZ, vF, vF, vO, vO, vU, vZ, vZ, vO, σ 14, σ 15, vE, vF, vZ, vF, vF, vO, vO, vU, vZ, vZ, vO, σ 21, σ 22, vE, vF, vZ, vO, σ 31, σ 32, vE, vF, vZ, vT] →
 iv (σ 37) = iv (σ 0) + 0 →
 fv (σ 38) = FloatKind.f64.nearest (iv (σ 37)) →
 sameR [vO, σ 31, σ 32, vE, vF, vZ, vO, σ 37, σ 38, vE, vF, vZ, σ 39] →
 fv (σ 44) = FloatKind.f64.nearest (iv (σ 43)) →
 callEdateR [(vS #[69,68,65,84,69]), vU, vF, vF, vO, vO, vU, vZ, vZ, vO, σ 0, σ 4, vE, vF, vZ, vF, vF, vO, vO, vU, vZ, vZ, vO, (vI 12), (vG 4622945017495814144), vE, vF, vZ, vO, σ 43, σ 44, vE, vF, vZ, vT] →
 chkR [vO, vO, vU, vO, σ 43, σ 44, vE, vF, vZ, vZ] →
 chkR [vO, vO, vU, vO, (vI (-12)), (vG 13846317054350589952), vE, vF, vZ, vZ] →
 fv (σ 53) = FloatKind.f64.nearest (iv (σ 52)) →
 callEdateR [(vS #[69,68,65,84,69]), vU, vF, vF, vO, vO, vU, vZ, vZ, vO, σ 43, σ 44, vE, vF, vZ, vF, vF, vO, vO, vU, vZ, vZ, vO, (vI (-12)), (vG 13846317054350589952), vE, vF, vZ, vO, σ 52, σ 53, vE, vF, vZ, vT] →
 fv (σ 61) = FloatKind.f64.nearest (iv (σ 60)) →
 reckR [σ 0, σ 4, vO, σ 60, σ 61, vE, vF, vZ] →
 sameR [vO, σ 52, σ 53, vE, vF, vZ, vO, σ 60, σ 61, vE, vF, vZ, σ 65] →
 iv (σ 14) ≠ 2 →
 iv (σ 7) ≤ 9998 →
 bv (σ 39) = true →
 bv (σ 39) = !false →
 iv (σ 0) ≤ 2958465 →
 (-693593) ≤ iv (σ 0) →
    backR [σ 0, σ 65]
theorem law_tie2 : goalsAt lawC (cfgB lawC.base [begunK, yearC, monC, dayC, mkC, edateC, chkC, reckC, sameC]) 2000 10 5 = (backR_L10 ∧ backR_L11 ∧ backR_L12 ∧ backR_L13 ∧ backR_L14 ∧ True) := by kernel_rfl
theorem backR_L10_ok : backR_L10 := by
  intro σ; intros
  have y0 := ‹callYearR _›
  have m0 := ‹callMonthR _›
  have d0 := ‹callDayR _›
  have H : IsDate (iv (σ 0) + 693593) (iv (σ 7)) (iv (σ 14)) (iv (σ 21)) := by
    obtain ⟨_, _, y1⟩ := y0
    obtain ⟨_, _, m1⟩ := m0
    obtain ⟨_, _, d1⟩ := d0
    exact same3 y1 m1 d1
  have r0 := ‹callEdateR [(vS #[69,68,65,84,69]), vU, vF, vF, vO, vO, vU, vZ, vZ, vO, σ 0, σ 4, vE, vF, vZ, vF, vF, vO, vO, vU, vZ, vZ, vO, (vI 12), (vG 4622945017495814144), vE, vF, vZ, vO, σ 44, σ 45, vE, vF, vZ, vT]›
  have r1 : edR 12 (iv (σ 0) + 693593) (iv (σ 44) + 693593) := r0
  have D1 := ed12 H (by omega) r1
  have s0 := ‹callEdateR [(vS #[69,68,65,84,69]), vU, vF, vF, vO, vO, vU, vZ, vZ, vO, σ 44, σ 45, vE, vF, vZ, vF, vF, vO, vO, vU, vZ, vZ, vO, (vI (-12)), (vG 13846317054350589952), vE, vF, vZ, vO, σ 53, σ 54, vE, vF, vZ, vT]›
  have s1 : edR (-12) (iv (σ 44) + 693593) (iv (σ 53) + 693593) := s0
  obtain ⟨b1, b2⟩ := edm12 H D1 s1
  have q0 := ‹reckR _›
  have q1 : iv (σ 61) = iv (σ 0) := q0
  have t0 := ‹sameR [vO, σ 53, σ 54, vE, vF, vZ, vO, σ 61, σ 62, vE, vF, vZ, σ 66]›
  have t1 : bv (σ 66) = decide (iv (σ 53) = iv (σ 61)) := t0
  have e : iv (σ 53) = iv (σ 61) := by omega
  exact t1.trans (decide_eq_true e)
theorem backR_L11_ok : backR_L11 := by
  intro σ; intros
  have y0 := ‹callYearR _›
  have m0 := ‹callMonthR _›
  have d0 := ‹callDayR _›
  have H : IsDate (iv (σ 0) + 693593) (iv (σ 7)) (iv (σ 14)) (iv (σ 21)) := by
    obtain ⟨_, _, y1⟩ := y0
    obtain ⟨_, _, m1⟩ := m0
    obtain ⟨_, _, d1⟩ := d0
    exact same3 y1 m1 d1
  have r0 := ‹callEdateR [(vS #[69,68,65,84,69]), vU, vF, vF, vO, vO, vU, vZ, vZ, vO, σ 0, σ 4, vE, vF, vZ, vF, vF, vO, vO, vU, vZ, vZ, vO, (vI 12), (vG 4622945017495814144), vE, vF, vZ, vO, σ 44, σ 45, vE, vF, vZ, vT]›
  have r1 : edR 12 (iv (σ 0) + 693593) (iv (σ 44) + 693593) := r0
  have D1 := ed12 H (by omega) r1
  have n0 := ‹¬ callEdateRPre _›
  exact absurd (ed_prem12 D1 (by omega)) n0
theorem backR_L12_ok : backR_L12 := by
  intro σ; intros
  have y0 := ‹callYearR _›
  have m0 := ‹callMonthR _›
  have d0 := ‹callDayR _›
  have H : IsDate (iv (σ 0) + 693593) (iv (σ 7)) (iv (σ 14)) (iv (σ 21)) := by
    obtain ⟨_, _, y1⟩ := y0
    obtain ⟨_, _, m1⟩ := m0
    obtain ⟨_, _, d1⟩ := d0
    exact same3 y1 m1 d1
  have r0 := ‹callEdateR [(vS #[69,68,65,84,69]), vU, vF, vF, vO, vO, vU, vZ, vZ, vO, σ 0, σ 4, vE, vF, vZ, vF, vF, vO, vO, vU, vZ, vZ, vO, (vI 12), (vG 4622945017495814144), vE, vF, vZ, vO, σ 43, σ 44, vE, vF, vZ, vT]›
  have r1 : edR 12 (iv (σ 0) + 693593) (iv (σ 43) + 693593) := r0
  have D1 := ed12 H (by omega) r1
  have s0 := ‹callEdateR [(vS #[69,68,65,84,69]), vU, vF, vF, vO, vO, vU, vZ, vZ, vO, σ 43, σ 44, vE, vF, vZ, vF, vF, vO, vO, vU, vZ, vZ, vO, (vI (-12)), (vG 13846317054350589952), vE, vF, vZ, vO, σ 52, σ 53, vE, vF, vZ, vT]›
  have s1 : edR (-12) (iv (σ 43) + 693593) (iv (σ 52) + 693593) := s0
  obtain ⟨b1, b2⟩ := edm12 H D1 s1
  have q0 := ‹reckR _›
  have q1 : iv (σ 63) = iv (σ 60) := q0
  have t0 := ‹sameR [vO, σ 52, σ 53, vE, vF, vZ, vO, σ 63, σ 64, vE, vF, vZ, σ 68]›
  have t1 : bv (σ 68) = decide (iv (σ 52) = iv (σ 63)) := t0
  have e : iv (σ 52) = iv (σ 63) := by omega
  exact t1.trans (decide_eq_true e)
theorem backR_L13_ok : backR_L13 := by
  intro σ; intros
  have y0 := ‹callYearR _›
  have m0 := ‹callMonthR _›
  have d0 := ‹callDayR _›
  have H : IsDate (iv (σ 0) + 693593) (iv (σ 7)) (iv (σ 14)) (iv (σ 21)) := by
    obtain ⟨_, _, y1⟩ := y0
    obtain ⟨_, _, m1⟩ := m0
    obtain ⟨_, _, d1⟩ := d0
    exact same3 y1 m1 d1
  have r0 := ‹callEdateR [(vS #[69,68,65,84,69]), vU, vF, vF, vO, vO, vU, vZ, vZ, vO, σ 0, σ 4, vE, vF, vZ, vF, vF, vO, vO, vU, vZ, vZ, vO, (vI 12), (vG 4622945017495814144), vE, vF, vZ, vO, σ 43, σ 44, vE, vF, vZ, vT]›
  have r1 : edR 12 (iv (σ 0) + 693593) (iv (σ 43) + 693593) := r0
  have D1 := ed12 H (by omega) r1
  have s0 := ‹callEdateR [(vS #[69,68,65,84,69]), vU, vF, vF, vO, vO, vU, vZ, vZ, vO, σ 43, σ 44, vE, vF, vZ, vF, vF, vO, vO, vU, vZ, vZ, vO, (vI (-12)), (vG 13846317054350589952), vE, vF, vZ, vO, σ 52, σ 53, vE, vF, vZ, vT]›
  have s1 : edR (-12) (iv (σ 43) + 693593) (iv (σ 52) + 693593) := s0
  obtain ⟨b1, b2⟩ := edm12 H D1 s1
  have q0 := ‹reckR _›
  have q1 : iv (σ 61) = iv (σ 0) := q0
  have t0 := ‹sameR [vO, σ 52, σ 53, vE, vF, vZ, vO, σ 61, σ 62, vE, vF, vZ, σ 66]›
  have t1 : bv (σ 66) = decide (iv (σ 52) = iv (σ 61)) := t0
  have e : iv (σ 52) = iv (σ 61) := by omega
  exact t1.trans (decide_eq_true e)
theorem backR_L14_ok : backR_L14 := by
  intro σ; intros
  have y0 := ‹callYearR _›
  have m0 := ‹callMonthR _›
  have d0 := ‹callDayR _›
  have H : IsDate (iv (σ 0) + 693593) (iv (σ 7)) (iv (σ 14)) (iv (σ 21)) := by
    obtain ⟨_, _, y1⟩ := y0
    obtain ⟨_, _, m1⟩ := m0
    obtain ⟨_, _, d1⟩ := d0
    exact same3 y1 m1 d1
  have r0 := ‹callEdateR [(vS #[69,68,65,84,69]), vU, vF, vF, vO, vO, vU, vZ, vZ, vO, σ 0, σ 4, vE, vF, vZ, vF, vF, vO, vO, vU, vZ, vZ, vO, (vI 12), (vG 4622945017495814144), vE, vF, vZ, vO, σ 43, σ 44, vE, vF, vZ, vT]›
  have r1 : edR 12 (iv (σ 0) + 693593) (iv (σ 43) + 693593) := r0
  have D1 := ed12 H (by omega) r1
  have s0 := ‹callEdateR [(vS #[69,68,65,84,69]), vU, vF, vF, vO, vO, vU, vZ, vZ, vO, σ 43, σ 44, vE, vF, vZ, vF, vF, vO, vO, vU, vZ, vZ, vO, (vI (-12)), (vG 13846317054350589952), vE, vF, vZ, vO, σ 52, σ 53, vE, vF, vZ, vT]›
  have s1 : edR (-12) (iv (σ 43) + 693593) (iv (σ 52) + 693593) := s0
  obtain ⟨b1, b2⟩ := edm12 H D1 s1
  have q0 := ‹reckR _›
  have q1 : iv (σ 60) = iv (σ 0) := q0
  have t0 := ‹sameR [vO, σ 52, σ 53, vE, vF, vZ, vO, σ 60, σ 61, vE, vF, vZ, σ 65]›
  have t1 : bv (σ 65) = decide (iv (σ 52) = iv (σ 60)) := t0
  have e : iv (σ 52) = iv (σ 60) := by omega
  exact t1.trans (decide_eq_true e)
theorem law_part2 : goalsAt lawC (cfgB lawC.base [begunK, yearC, monC, dayC, mkC, edateC, chkC, reckC, sameC]) 2000 10 5 := by
  rw [law_tie2]
  exact ⟨backR_L10_ok, backR_L11_ok, backR_L12_ok, backR_L13_ok, backR_L14_ok, trivial⟩
end Go.Proofs.Back
