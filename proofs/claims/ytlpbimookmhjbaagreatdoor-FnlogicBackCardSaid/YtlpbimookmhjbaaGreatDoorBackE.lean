/- EDATE: a day, some months on. -/
import Derived.Test.YtlpbimookmhjbaaGreatDoorBackB
namespace Go.Proofs.Back
open Go.Ev Go.Dates Go.RowKit Go.Proofs.YtlpbimookmhjbaaGreatDoor
set_option maxRecDepth 1000000
def callEdateR_L0 : Prop := ∀ σ : Nat → Value,
 σ 0 = (vS #[69,68,65,84,69]) →
 σ 2 = vF →
 σ 3 = vF →
 σ 4 = vO →
 σ 5 = vO →
 σ 7 = vZ →
 σ 8 = vZ →
 σ 9 = vO →
 σ 10 = .int .i64 (iv (σ 10)) →
 (-693593) ≤ iv (σ 10) →
 iv (σ 10) ≤ 2958465 →
 σ 11 = .float .f64 (fv (σ 11)) →
 σ 12 = vE →
 σ 13 = vF →
 σ 14 = vZ →
 σ 15 = vF →
 σ 16 = vF →
 σ 17 = vO →
 σ 18 = vO →
 σ 20 = vZ →
 σ 21 = vZ →
 σ 22 = vO →
 σ 23 = .int .i64 (iv (σ 23)) →
 (-12) ≤ iv (σ 23) →
 iv (σ 23) ≤ (-1) →
 σ 24 = .float .f64 (fv (σ 24)) →
 σ 25 = vE →
 σ 26 = vF →
 σ 27 = vZ →
 σ 28 = .int .u64 (iv (σ 28)) →
 σ 29 = .int .u64 (iv (σ 29)) →
 σ 31 = .int .i64 (iv (σ 31)) →
 1 ≤ iv (σ 31) →
 iv (σ 31) ≤ 12 →
 σ 32 = .float .f64 (fv (σ 32)) →
 σ 33 = .int .i64 (iv (σ 33)) →
 1 ≤ iv (σ 33) →
 iv (σ 33) ≤ 9999 →
 σ 34 = .int .i64 (iv (σ 34)) →
 1 ≤ iv (σ 34) →
 iv (σ 34) ≤ 12 →
 σ 35 = .int .i64 (iv (σ 35)) →
 1 ≤ iv (σ 35) →
 iv (σ 35) ≤ 31 →
 σ 36 = vZ →
 σ 37 = .float .f64 (fv (σ 37)) →
 σ 38 = .float .f64 (fv (σ 38)) →
 σ 39 = .int .i64 (iv (σ 39)) →
 (-11) ≤ iv (σ 39) →
 iv (σ 39) ≤ 11 →
 σ 40 = .float .f64 (fv (σ 40)) →
 σ 41 = .int .i64 (iv (σ 41)) →
 (-693593) ≤ iv (σ 41) →
 iv (σ 41) ≤ 2958465 →
 σ 42 = .float .f64 (fv (σ 42)) →
 fv (σ 24) = FloatKind.f64.nearest (iv (σ 23)) →
 fv (σ 11) = FloatKind.f64.nearest (iv (σ 10)) →
 callEdateRPre [(vS #[69,68,65,84,69]), vU, vF, vF, vO, vO, vU, vZ, vZ, vO, σ 10, σ 11, vE, vF, vZ, vF, vF, vO, vO, vU, vZ, vZ, vO, σ 23, σ 24, vE, vF, vZ] →
 extRel .fbits [σ 24] (σ 28) →
 ibin .andNot IntKind.u64 (iv (σ 28)) (9223372036854775808) = some (.int IntKind.u64 (iv (σ 29))) →
 iv (σ 31) = 0 - iv (σ 23) →
 fv (σ 32) = FloatKind.f64.nearest (iv (σ 31)) →
 toWR [σ 10, σ 11, σ 33, σ 34, σ 35, vZ] →
 fv (σ 37) = FloatKind.f64.nearest (iv (σ 33)) →
 fv (σ 38) = FloatKind.f64.nearest (iv (σ 34)) →
 iv (σ 39) = iv (σ 34) + iv (σ 23) →
 fv (σ 40) = FloatKind.f64.nearest (iv (σ 39)) →
 fv (σ 42) = FloatKind.f64.nearest (iv (σ 41)) →
 dateOfR [σ 33, σ 37, σ 39, σ 40, vO, (vG 4607182418800017408), σ 41, σ 42, σ 43] →
 bv (σ 43) = false →
 bv (σ 43) = !true →
 iv (σ 23) < 0 →
    False
def callEdateR_L1 : Prop := ∀ σ : Nat → Value,
 σ 0 = (vS #[69,68,65,84,69]) →
 σ 2 = vF →
 σ 3 = vF →
 σ 4 = vO →
 σ 5 = vO →
 σ 7 = vZ →
 σ 8 = vZ →
 σ 9 = vO →
 σ 10 = .int .i64 (iv (σ 10)) →
 (-693593) ≤ iv (σ 10) →
 iv (σ 10) ≤ 2958465 →
 σ 11 = .float .f64 (fv (σ 11)) →
 σ 12 = vE →
 σ 13 = vF →
 σ 14 = vZ →
 σ 15 = vF →
 σ 16 = vF →
 σ 17 = vO →
 σ 18 = vO →
 σ 20 = vZ →
 σ 21 = vZ →
 σ 22 = vO →
 σ 23 = .int .i64 (iv (σ 23)) →
 (-12) ≤ iv (σ 23) →
 iv (σ 23) ≤ (-1) →
 σ 24 = .float .f64 (fv (σ 24)) →
 σ 25 = vE →
 σ 26 = vF →
 σ 27 = vZ →
 σ 28 = .int .u64 (iv (σ 28)) →
 σ 29 = .int .u64 (iv (σ 29)) →
 σ 31 = .int .i64 (iv (σ 31)) →
 1 ≤ iv (σ 31) →
 iv (σ 31) ≤ 12 →
 σ 32 = .float .f64 (fv (σ 32)) →
 σ 33 = .int .i64 (iv (σ 33)) →
 1 ≤ iv (σ 33) →
 iv (σ 33) ≤ 9999 →
 σ 34 = .int .i64 (iv (σ 34)) →
 1 ≤ iv (σ 34) →
 iv (σ 34) ≤ 12 →
 σ 35 = .int .i64 (iv (σ 35)) →
 29 ≤ iv (σ 35) →
 iv (σ 35) ≤ 31 →
 σ 36 = vZ →
 σ 37 = .float .f64 (fv (σ 37)) →
 σ 38 = .float .f64 (fv (σ 38)) →
 σ 39 = .int .i64 (iv (σ 39)) →
 (-11) ≤ iv (σ 39) →
 iv (σ 39) ≤ 11 →
 σ 40 = .float .f64 (fv (σ 40)) →
 σ 41 = .int .i64 (iv (σ 41)) →
 (-693593) ≤ iv (σ 41) →
 iv (σ 41) ≤ 2958465 →
 σ 42 = .float .f64 (fv (σ 42)) →
 σ 45 = .int .i64 (iv (σ 45)) →
 1 ≤ iv (σ 45) →
 iv (σ 45) ≤ 9999 →
 σ 46 = .int .i64 (iv (σ 46)) →
 1 ≤ iv (σ 46) →
 iv (σ 46) ≤ 12 →
 σ 47 = .int .i64 (iv (σ 47)) →
 1 ≤ iv (σ 47) →
 iv (σ 47) ≤ 31 →
 σ 48 = vZ →
 σ 49 = .int .i64 (iv (σ 49)) →
 28 ≤ iv (σ 49) →
 iv (σ 49) ≤ 30 →
 σ 51 = .float .f64 (fv (σ 51)) →
 σ 52 = .int .i64 (iv (σ 52)) →
 (-693565) ≤ iv (σ 52) →
 iv (σ 52) ≤ 2958495 →
 σ 53 = .float .f64 (fv (σ 53)) →
 σ 54 = .int .i64 (iv (σ 54)) →
 (-693566) ≤ iv (σ 54) →
 iv (σ 54) ≤ 2958494 →
 σ 55 = .float .f64 (fv (σ 55)) →
 fv (σ 24) = FloatKind.f64.nearest (iv (σ 23)) →
 fv (σ 11) = FloatKind.f64.nearest (iv (σ 10)) →
 callEdateRPre [(vS #[69,68,65,84,69]), vU, vF, vF, vO, vO, vU, vZ, vZ, vO, σ 10, σ 11, vE, vF, vZ, vF, vF, vO, vO, vU, vZ, vZ, vO, σ 23, σ 24, vE, vF, vZ] →
 extRel .fbits [σ 24] (σ 28) →
 ibin .andNot IntKind.u64 (iv (σ 28)) (9223372036854775808) = some (.int IntKind.u64 (iv (σ 29))) →
 iv (σ 31) = 0 - iv (σ 23) →
 fv (σ 32) = FloatKind.f64.nearest (iv (σ 31)) →
 toWR [σ 10, σ 11, σ 33, σ 34, σ 35, vZ] →
 fv (σ 37) = FloatKind.f64.nearest (iv (σ 33)) →
 fv (σ 38) = FloatKind.f64.nearest (iv (σ 34)) →
 iv (σ 39) = iv (σ 34) + iv (σ 23) →
 fv (σ 40) = FloatKind.f64.nearest (iv (σ 39)) →
 fv (σ 42) = FloatKind.f64.nearest (iv (σ 41)) →
 dateOfR [σ 33, σ 37, σ 39, σ 40, vO, (vG 4607182418800017408), σ 41, σ 42, σ 43] →
 toWR [σ 41, σ 42, σ 45, σ 46, σ 47, vZ] →
 lengthR [σ 45, σ 46, σ 49] →
 fv (σ 51) = FloatKind.f64.nearest (iv (σ 49)) →
 iv (σ 52) = iv (σ 41) + iv (σ 49) →
 fv (σ 53) = FloatKind.f64.nearest (iv (σ 52)) →
 iv (σ 54) = iv (σ 52) - 1 →
 fv (σ 55) = FloatKind.f64.nearest (iv (σ 54)) →
 iv (σ 49) < iv (σ 35) →
 bv (σ 43) = true →
 bv (σ 43) = !false →
 iv (σ 23) < 0 →
    callEdateROut [vO, σ 54, σ 55, vE, vF, vZ, vT] ∧ callEdateR [(vS #[69,68,65,84,69]), vU, vF, vF, vO, vO, vU, vZ, vZ, vO, σ 10, σ 11, vE, vF, vZ, vF, vF, vO, vO, vU, vZ, vZ, vO, σ 23, σ 24, vE, vF, vZ, vO, σ 54, σ 55, vE, vF, vZ, vT]
def callEdateR_L2 : Prop := ∀ σ : Nat → Value,
 σ 0 = (vS #[69,68,65,84,69]) →
 σ 2 = vF →
 σ 3 = vF →
 σ 4 = vO →
 σ 5 = vO →
 σ 7 = vZ →
 σ 8 = vZ →
 σ 9 = vO →
 σ 10 = .int .i64 (iv (σ 10)) →
 (-693593) ≤ iv (σ 10) →
 iv (σ 10) ≤ 2958465 →
 σ 11 = .float .f64 (fv (σ 11)) →
 σ 12 = vE →
 σ 13 = vF →
 σ 14 = vZ →
 σ 15 = vF →
 σ 16 = vF →
 σ 17 = vO →
 σ 18 = vO →
 σ 20 = vZ →
 σ 21 = vZ →
 σ 22 = vO →
 σ 23 = .int .i64 (iv (σ 23)) →
 (-12) ≤ iv (σ 23) →
 iv (σ 23) ≤ (-1) →
 σ 24 = .float .f64 (fv (σ 24)) →
 σ 25 = vE →
 σ 26 = vF →
 σ 27 = vZ →
 σ 28 = .int .u64 (iv (σ 28)) →
 σ 29 = .int .u64 (iv (σ 29)) →
 σ 31 = .int .i64 (iv (σ 31)) →
 1 ≤ iv (σ 31) →
 iv (σ 31) ≤ 12 →
 σ 32 = .float .f64 (fv (σ 32)) →
 σ 33 = .int .i64 (iv (σ 33)) →
 1 ≤ iv (σ 33) →
 iv (σ 33) ≤ 9999 →
 σ 34 = .int .i64 (iv (σ 34)) →
 1 ≤ iv (σ 34) →
 iv (σ 34) ≤ 12 →
 σ 35 = .int .i64 (iv (σ 35)) →
 1 ≤ iv (σ 35) →
 iv (σ 35) ≤ 31 →
 σ 36 = vZ →
 σ 37 = .float .f64 (fv (σ 37)) →
 σ 38 = .float .f64 (fv (σ 38)) →
 σ 39 = .int .i64 (iv (σ 39)) →
 (-11) ≤ iv (σ 39) →
 iv (σ 39) ≤ 11 →
 σ 40 = .float .f64 (fv (σ 40)) →
 σ 41 = .int .i64 (iv (σ 41)) →
 (-693593) ≤ iv (σ 41) →
 iv (σ 41) ≤ 2958465 →
 σ 42 = .float .f64 (fv (σ 42)) →
 σ 45 = .int .i64 (iv (σ 45)) →
 1 ≤ iv (σ 45) →
 iv (σ 45) ≤ 9999 →
 σ 46 = .int .i64 (iv (σ 46)) →
 1 ≤ iv (σ 46) →
 iv (σ 46) ≤ 12 →
 σ 47 = .int .i64 (iv (σ 47)) →
 1 ≤ iv (σ 47) →
 iv (σ 47) ≤ 31 →
 σ 48 = vZ →
 σ 49 = .int .i64 (iv (σ 49)) →
 28 ≤ iv (σ 49) →
 iv (σ 49) ≤ 31 →
 σ 51 = .float .f64 (fv (σ 51)) →
 σ 52 = .int .i64 (iv (σ 52)) →
 (-693592) ≤ iv (σ 52) →
 iv (σ 52) ≤ 2958496 →
 σ 53 = .float .f64 (fv (σ 53)) →
 σ 54 = .int .i64 (iv (σ 54)) →
 (-693593) ≤ iv (σ 54) →
 iv (σ 54) ≤ 2958495 →
 σ 55 = .float .f64 (fv (σ 55)) →
 fv (σ 24) = FloatKind.f64.nearest (iv (σ 23)) →
 fv (σ 11) = FloatKind.f64.nearest (iv (σ 10)) →
 callEdateRPre [(vS #[69,68,65,84,69]), vU, vF, vF, vO, vO, vU, vZ, vZ, vO, σ 10, σ 11, vE, vF, vZ, vF, vF, vO, vO, vU, vZ, vZ, vO, σ 23, σ 24, vE, vF, vZ] →
 extRel .fbits [σ 24] (σ 28) →
 ibin .andNot IntKind.u64 (iv (σ 28)) (9223372036854775808) = some (.int IntKind.u64 (iv (σ 29))) →
 iv (σ 31) = 0 - iv (σ 23) →
 fv (σ 32) = FloatKind.f64.nearest (iv (σ 31)) →
 toWR [σ 10, σ 11, σ 33, σ 34, σ 35, vZ] →
 fv (σ 37) = FloatKind.f64.nearest (iv (σ 33)) →
 fv (σ 38) = FloatKind.f64.nearest (iv (σ 34)) →
 iv (σ 39) = iv (σ 34) + iv (σ 23) →
 fv (σ 40) = FloatKind.f64.nearest (iv (σ 39)) →
 fv (σ 42) = FloatKind.f64.nearest (iv (σ 41)) →
 dateOfR [σ 33, σ 37, σ 39, σ 40, vO, (vG 4607182418800017408), σ 41, σ 42, σ 43] →
 toWR [σ 41, σ 42, σ 45, σ 46, σ 47, vZ] →
 lengthR [σ 45, σ 46, σ 49] →
 fv (σ 51) = FloatKind.f64.nearest (iv (σ 35)) →
 iv (σ 52) = iv (σ 41) + iv (σ 35) →
 fv (σ 53) = FloatKind.f64.nearest (iv (σ 52)) →
 iv (σ 54) = iv (σ 52) - 1 →
 fv (σ 55) = FloatKind.f64.nearest (iv (σ 54)) →
 iv (σ 35) ≤ iv (σ 49) →
 bv (σ 43) = true →
 bv (σ 43) = !false →
 iv (σ 23) < 0 →
    callEdateROut [vO, σ 54, σ 55, vE, vF, vZ, vT] ∧ callEdateR [(vS #[69,68,65,84,69]), vU, vF, vF, vO, vO, vU, vZ, vZ, vO, σ 10, σ 11, vE, vF, vZ, vF, vF, vO, vO, vU, vZ, vZ, vO, σ 23, σ 24, vE, vF, vZ, vO, σ 54, σ 55, vE, vF, vZ, vT]
def callEdateR_L3 : Prop := ∀ σ : Nat → Value,
 σ 0 = (vS #[69,68,65,84,69]) →
 σ 2 = vF →
 σ 3 = vF →
 σ 4 = vO →
 σ 5 = vO →
 σ 7 = vZ →
 σ 8 = vZ →
 σ 9 = vO →
 σ 10 = .int .i64 (iv (σ 10)) →
 (-693593) ≤ iv (σ 10) →
 iv (σ 10) ≤ 2958465 →
 σ 11 = .float .f64 (fv (σ 11)) →
 σ 12 = vE →
 σ 13 = vF →
 σ 14 = vZ →
 σ 15 = vF →
 σ 16 = vF →
 σ 17 = vO →
 σ 18 = vO →
 σ 20 = vZ →
 σ 21 = vZ →
 σ 22 = vO →
 σ 23 = .int .i64 (iv (σ 23)) →
 (-12) ≤ iv (σ 23) →
 iv (σ 23) ≤ (-1) →
 σ 24 = .float .f64 (fv (σ 24)) →
 σ 25 = vE →
 σ 26 = vF →
 σ 27 = vZ →
 σ 28 = .int .u64 (iv (σ 28)) →
 σ 29 = .int .u64 (iv (σ 29)) →
 σ 31 = .int .i64 (iv (σ 31)) →
 1 ≤ iv (σ 31) →
 iv (σ 31) ≤ 12 →
 σ 32 = .float .f64 (fv (σ 32)) →
 σ 33 = .int .i64 (iv (σ 33)) →
 1 ≤ iv (σ 33) →
 iv (σ 33) ≤ 9999 →
 σ 34 = .int .i64 (iv (σ 34)) →
 1 ≤ iv (σ 34) →
 iv (σ 34) ≤ 12 →
 σ 35 = .int .i64 (iv (σ 35)) →
 1 ≤ iv (σ 35) →
 iv (σ 35) ≤ 31 →
 σ 36 = vZ →
 σ 37 = .float .f64 (fv (σ 37)) →
 σ 38 = .float .f64 (fv (σ 38)) →
 σ 39 = .int .i64 (iv (σ 39)) →
 (-11) ≤ iv (σ 39) →
 iv (σ 39) ≤ 11 →
 σ 40 = .float .f64 (fv (σ 40)) →
 fv (σ 24) = FloatKind.f64.nearest (iv (σ 23)) →
 fv (σ 11) = FloatKind.f64.nearest (iv (σ 10)) →
 callEdateRPre [(vS #[69,68,65,84,69]), vU, vF, vF, vO, vO, vU, vZ, vZ, vO, σ 10, σ 11, vE, vF, vZ, vF, vF, vO, vO, vU, vZ, vZ, vO, σ 23, σ 24, vE, vF, vZ] →
 extRel .fbits [σ 24] (σ 28) →
 ibin .andNot IntKind.u64 (iv (σ 28)) (9223372036854775808) = some (.int IntKind.u64 (iv (σ 29))) →
 iv (σ 31) = 0 - iv (σ 23) →
 fv (σ 32) = FloatKind.f64.nearest (iv (σ 31)) →
 toWR [σ 10, σ 11, σ 33, σ 34, σ 35, vZ] →
 fv (σ 37) = FloatKind.f64.nearest (iv (σ 33)) →
 fv (σ 38) = FloatKind.f64.nearest (iv (σ 34)) →
 iv (σ 39) = iv (σ 34) + iv (σ 23) →
 fv (σ 40) = FloatKind.f64.nearest (iv (σ 39)) →
 ¬ dateOfRPre [σ 33, σ 37, σ 39, σ 40, vO, (vG 4607182418800017408)] →
 iv (σ 23) < 0 →
    False
def callEdateR_L4 : Prop := ∀ σ : Nat → Value,
 σ 0 = (vS #[69,68,65,84,69]) →
 σ 2 = vF →
 σ 3 = vF →
 σ 4 = vO →
 σ 5 = vO →
 σ 7 = vZ →
 σ 8 = vZ →
 σ 9 = vO →
 σ 10 = .int .i64 (iv (σ 10)) →
 (-693593) ≤ iv (σ 10) →
 iv (σ 10) ≤ 2958465 →
 σ 11 = .float .f64 (fv (σ 11)) →
 σ 12 = vE →
 σ 13 = vF →
 σ 14 = vZ →
 σ 15 = vF →
 σ 16 = vF →
 σ 17 = vO →
 σ 18 = vO →
 σ 20 = vZ →
 σ 21 = vZ →
 σ 22 = vO →
 σ 23 = .int .i64 (iv (σ 23)) →
 0 ≤ iv (σ 23) →
 iv (σ 23) ≤ 12 →
 σ 24 = .float .f64 (fv (σ 24)) →
 σ 25 = vE →
 σ 26 = vF →
 σ 27 = vZ →
 σ 28 = .int .u64 (iv (σ 28)) →
 σ 29 = .int .u64 (iv (σ 29)) →
 σ 31 = .int .i64 (iv (σ 31)) →
 1 ≤ iv (σ 31) →
 iv (σ 31) ≤ 9999 →
 σ 32 = .int .i64 (iv (σ 32)) →
 1 ≤ iv (σ 32) →
 iv (σ 32) ≤ 12 →
 σ 33 = .int .i64 (iv (σ 33)) →
 1 ≤ iv (σ 33) →
 iv (σ 33) ≤ 31 →
 σ 34 = vZ →
 σ 35 = .float .f64 (fv (σ 35)) →
 σ 36 = .float .f64 (fv (σ 36)) →
 σ 37 = .int .i64 (iv (σ 37)) →
 1 ≤ iv (σ 37) →
 iv (σ 37) ≤ 24 →
 σ 38 = .float .f64 (fv (σ 38)) →
 σ 39 = .int .i64 (iv (σ 39)) →
 (-693593) ≤ iv (σ 39) →
 iv (σ 39) ≤ 2958465 →
 σ 40 = .float .f64 (fv (σ 40)) →
 fv (σ 24) = FloatKind.f64.nearest (iv (σ 23)) →
 fv (σ 11) = FloatKind.f64.nearest (iv (σ 10)) →
 callEdateRPre [(vS #[69,68,65,84,69]), vU, vF, vF, vO, vO, vU, vZ, vZ, vO, σ 10, σ 11, vE, vF, vZ, vF, vF, vO, vO, vU, vZ, vZ, vO, σ 23, σ 24, vE, vF, vZ] →
 extRel .fbits [σ 24] (σ 28) →
 ibin .andNot IntKind.u64 (iv (σ 28)) (9223372036854775808) = some (.int IntKind.u64 (iv (σ 29))) →
 toWR [σ 10, σ 11, σ 31, σ 32, σ 33, vZ] →
 fv (σ 35) = FloatKind.f64.nearest (iv (σ 31)) →
 fv (σ 36) = FloatKind.f64.nearest (iv (σ 32)) →
 iv (σ 37) = iv (σ 32) + iv (σ 23) →
 fv (σ 38) = FloatKind.f64.nearest (iv (σ 37)) →
 fv (σ 40) = FloatKind.f64.nearest (iv (σ 39)) →
 dateOfR [σ 31, σ 35, σ 37, σ 38, vO, (vG 4607182418800017408), σ 39, σ 40, σ 41] →
 bv (σ 41) = false →
 bv (σ 41) = !true →
 0 ≤ iv (σ 23) →
    False
def callEdateR_L5 : Prop := ∀ σ : Nat → Value,
 σ 0 = (vS #[69,68,65,84,69]) →
 σ 2 = vF →
 σ 3 = vF →
 σ 4 = vO →
 σ 5 = vO →
 σ 7 = vZ →
 σ 8 = vZ →
 σ 9 = vO →
 σ 10 = .int .i64 (iv (σ 10)) →
 (-693593) ≤ iv (σ 10) →
 iv (σ 10) ≤ 2958465 →
 σ 11 = .float .f64 (fv (σ 11)) →
 σ 12 = vE →
 σ 13 = vF →
 σ 14 = vZ →
 σ 15 = vF →
 σ 16 = vF →
 σ 17 = vO →
 σ 18 = vO →
 σ 20 = vZ →
 σ 21 = vZ →
 σ 22 = vO →
 σ 23 = .int .i64 (iv (σ 23)) →
 0 ≤ iv (σ 23) →
 iv (σ 23) ≤ 12 →
 σ 24 = .float .f64 (fv (σ 24)) →
 σ 25 = vE →
 σ 26 = vF →
 σ 27 = vZ →
 σ 28 = .int .u64 (iv (σ 28)) →
 σ 29 = .int .u64 (iv (σ 29)) →
 σ 31 = .int .i64 (iv (σ 31)) →
 1 ≤ iv (σ 31) →
 iv (σ 31) ≤ 9999 →
 σ 32 = .int .i64 (iv (σ 32)) →
 1 ≤ iv (σ 32) →
 iv (σ 32) ≤ 12 →
 σ 33 = .int .i64 (iv (σ 33)) →
 29 ≤ iv (σ 33) →
 iv (σ 33) ≤ 31 →
 σ 34 = vZ →
 σ 35 = .float .f64 (fv (σ 35)) →
 σ 36 = .float .f64 (fv (σ 36)) →
 σ 37 = .int .i64 (iv (σ 37)) →
 1 ≤ iv (σ 37) →
 iv (σ 37) ≤ 24 →
 σ 38 = .float .f64 (fv (σ 38)) →
 σ 39 = .int .i64 (iv (σ 39)) →
 (-693593) ≤ iv (σ 39) →
 iv (σ 39) ≤ 2958465 →
 σ 40 = .float .f64 (fv (σ 40)) →
 σ 43 = .int .i64 (iv (σ 43)) →
 1 ≤ iv (σ 43) →
 iv (σ 43) ≤ 9999 →
 σ 44 = .int .i64 (iv (σ 44)) →
 1 ≤ iv (σ 44) →
 iv (σ 44) ≤ 12 →
 σ 45 = .int .i64 (iv (σ 45)) →
 1 ≤ iv (σ 45) →
 iv (σ 45) ≤ 31 →
 σ 46 = vZ →
 σ 47 = .int .i64 (iv (σ 47)) →
 28 ≤ iv (σ 47) →
 iv (σ 47) ≤ 30 →
 σ 49 = .float .f64 (fv (σ 49)) →
 σ 50 = .int .i64 (iv (σ 50)) →
 (-693565) ≤ iv (σ 50) →
 iv (σ 50) ≤ 2958495 →
 σ 51 = .float .f64 (fv (σ 51)) →
 σ 52 = .int .i64 (iv (σ 52)) →
 (-693566) ≤ iv (σ 52) →
 iv (σ 52) ≤ 2958494 →
 σ 53 = .float .f64 (fv (σ 53)) →
 fv (σ 24) = FloatKind.f64.nearest (iv (σ 23)) →
 fv (σ 11) = FloatKind.f64.nearest (iv (σ 10)) →
 callEdateRPre [(vS #[69,68,65,84,69]), vU, vF, vF, vO, vO, vU, vZ, vZ, vO, σ 10, σ 11, vE, vF, vZ, vF, vF, vO, vO, vU, vZ, vZ, vO, σ 23, σ 24, vE, vF, vZ] →
 extRel .fbits [σ 24] (σ 28) →
 ibin .andNot IntKind.u64 (iv (σ 28)) (9223372036854775808) = some (.int IntKind.u64 (iv (σ 29))) →
 toWR [σ 10, σ 11, σ 31, σ 32, σ 33, vZ] →
 fv (σ 35) = FloatKind.f64.nearest (iv (σ 31)) →
 fv (σ 36) = FloatKind.f64.nearest (iv (σ 32)) →
 iv (σ 37) = iv (σ 32) + iv (σ 23) →
 fv (σ 38) = FloatKind.f64.nearest (iv (σ 37)) →
 fv (σ 40) = FloatKind.f64.nearest (iv (σ 39)) →
 dateOfR [σ 31, σ 35, σ 37, σ 38, vO, (vG 4607182418800017408), σ 39, σ 40, σ 41] →
 toWR [σ 39, σ 40, σ 43, σ 44, σ 45, vZ] →
 lengthR [σ 43, σ 44, σ 47] →
 fv (σ 49) = FloatKind.f64.nearest (iv (σ 47)) →
 iv (σ 50) = iv (σ 39) + iv (σ 47) →
 fv (σ 51) = FloatKind.f64.nearest (iv (σ 50)) →
 iv (σ 52) = iv (σ 50) - 1 →
 fv (σ 53) = FloatKind.f64.nearest (iv (σ 52)) →
 iv (σ 47) < iv (σ 33) →
 bv (σ 41) = true →
 bv (σ 41) = !false →
 0 ≤ iv (σ 23) →
    callEdateROut [vO, σ 52, σ 53, vE, vF, vZ, vT] ∧ callEdateR [(vS #[69,68,65,84,69]), vU, vF, vF, vO, vO, vU, vZ, vZ, vO, σ 10, σ 11, vE, vF, vZ, vF, vF, vO, vO, vU, vZ, vZ, vO, σ 23, σ 24, vE, vF, vZ, vO, σ 52, σ 53, vE, vF, vZ, vT]
def callEdateR_L6 : Prop := ∀ σ : Nat → Value,
 σ 0 = (vS #[69,68,65,84,69]) →
 σ 2 = vF →
 σ 3 = vF →
 σ 4 = vO →
 σ 5 = vO →
 σ 7 = vZ →
 σ 8 = vZ →
 σ 9 = vO →
 σ 10 = .int .i64 (iv (σ 10)) →
 (-693593) ≤ iv (σ 10) →
 iv (σ 10) ≤ 2958465 →
 σ 11 = .float .f64 (fv (σ 11)) →
 σ 12 = vE →
 σ 13 = vF →
 σ 14 = vZ →
 σ 15 = vF →
 σ 16 = vF →
 σ 17 = vO →
 σ 18 = vO →
 σ 20 = vZ →
 σ 21 = vZ →
 σ 22 = vO →
 σ 23 = .int .i64 (iv (σ 23)) →
 0 ≤ iv (σ 23) →
 iv (σ 23) ≤ 12 →
 σ 24 = .float .f64 (fv (σ 24)) →
 σ 25 = vE →
 σ 26 = vF →
 σ 27 = vZ →
 σ 28 = .int .u64 (iv (σ 28)) →
 σ 29 = .int .u64 (iv (σ 29)) →
 σ 31 = .int .i64 (iv (σ 31)) →
 1 ≤ iv (σ 31) →
 iv (σ 31) ≤ 9999 →
 σ 32 = .int .i64 (iv (σ 32)) →
 1 ≤ iv (σ 32) →
 iv (σ 32) ≤ 12 →
 σ 33 = .int .i64 (iv (σ 33)) →
 1 ≤ iv (σ 33) →
 iv (σ 33) ≤ 31 →
 σ 34 = vZ →
 σ 35 = .float .f64 (fv (σ 35)) →
 σ 36 = .float .f64 (fv (σ 36)) →
 σ 37 = .int .i64 (iv (σ 37)) →
 1 ≤ iv (σ 37) →
 iv (σ 37) ≤ 24 →
 σ 38 = .float .f64 (fv (σ 38)) →
 σ 39 = .int .i64 (iv (σ 39)) →
 (-693593) ≤ iv (σ 39) →
 iv (σ 39) ≤ 2958465 →
 σ 40 = .float .f64 (fv (σ 40)) →
 σ 43 = .int .i64 (iv (σ 43)) →
 1 ≤ iv (σ 43) →
 iv (σ 43) ≤ 9999 →
 σ 44 = .int .i64 (iv (σ 44)) →
 1 ≤ iv (σ 44) →
 iv (σ 44) ≤ 12 →
 σ 45 = .int .i64 (iv (σ 45)) →
 1 ≤ iv (σ 45) →
 iv (σ 45) ≤ 31 →
 σ 46 = vZ →
 σ 47 = .int .i64 (iv (σ 47)) →
 28 ≤ iv (σ 47) →
 iv (σ 47) ≤ 31 →
 σ 49 = .float .f64 (fv (σ 49)) →
 σ 50 = .int .i64 (iv (σ 50)) →
 (-693592) ≤ iv (σ 50) →
 iv (σ 50) ≤ 2958496 →
 σ 51 = .float .f64 (fv (σ 51)) →
 σ 52 = .int .i64 (iv (σ 52)) →
 (-693593) ≤ iv (σ 52) →
 iv (σ 52) ≤ 2958495 →
 σ 53 = .float .f64 (fv (σ 53)) →
 fv (σ 24) = FloatKind.f64.nearest (iv (σ 23)) →
 fv (σ 11) = FloatKind.f64.nearest (iv (σ 10)) →
 callEdateRPre [(vS #[69,68,65,84,69]), vU, vF, vF, vO, vO, vU, vZ, vZ, vO, σ 10, σ 11, vE, vF, vZ, vF, vF, vO, vO, vU, vZ, vZ, vO, σ 23, σ 24, vE, vF, vZ] →
 extRel .fbits [σ 24] (σ 28) →
 ibin .andNot IntKind.u64 (iv (σ 28)) (9223372036854775808) = some (.int IntKind.u64 (iv (σ 29))) →
 toWR [σ 10, σ 11, σ 31, σ 32, σ 33, vZ] →
 fv (σ 35) = FloatKind.f64.nearest (iv (σ 31)) →
 fv (σ 36) = FloatKind.f64.nearest (iv (σ 32)) →
 iv (σ 37) = iv (σ 32) + iv (σ 23) →
 fv (σ 38) = FloatKind.f64.nearest (iv (σ 37)) →
 fv (σ 40) = FloatKind.f64.nearest (iv (σ 39)) →
 dateOfR [σ 31, σ 35, σ 37, σ 38, vO, (vG 4607182418800017408), σ 39, σ 40, σ 41] →
 toWR [σ 39, σ 40, σ 43, σ 44, σ 45, vZ] →
 lengthR [σ 43, σ 44, σ 47] →
 fv (σ 49) = FloatKind.f64.nearest (iv (σ 33)) →
 iv (σ 50) = iv (σ 39) + iv (σ 33) →
 fv (σ 51) = FloatKind.f64.nearest (iv (σ 50)) →
 iv (σ 52) = iv (σ 50) - 1 →
 fv (σ 53) = FloatKind.f64.nearest (iv (σ 52)) →
 iv (σ 33) ≤ iv (σ 47) →
 bv (σ 41) = true →
 bv (σ 41) = !false →
 0 ≤ iv (σ 23) →
    callEdateROut [vO, σ 52, σ 53, vE, vF, vZ, vT] ∧ callEdateR [(vS #[69,68,65,84,69]), vU, vF, vF, vO, vO, vU, vZ, vZ, vO, σ 10, σ 11, vE, vF, vZ, vF, vF, vO, vO, vU, vZ, vZ, vO, σ 23, σ 24, vE, vF, vZ, vO, σ 52, σ 53, vE, vF, vZ, vT]
def callEdateR_L7 : Prop := ∀ σ : Nat → Value,
 σ 0 = (vS #[69,68,65,84,69]) →
 σ 2 = vF →
 σ 3 = vF →
 σ 4 = vO →
 σ 5 = vO →
 σ 7 = vZ →
 σ 8 = vZ →
 σ 9 = vO →
 σ 10 = .int .i64 (iv (σ 10)) →
 (-693593) ≤ iv (σ 10) →
 iv (σ 10) ≤ 2958465 →
 σ 11 = .float .f64 (fv (σ 11)) →
 σ 12 = vE →
 σ 13 = vF →
 σ 14 = vZ →
 σ 15 = vF →
 σ 16 = vF →
 σ 17 = vO →
 σ 18 = vO →
 σ 20 = vZ →
 σ 21 = vZ →
 σ 22 = vO →
 σ 23 = .int .i64 (iv (σ 23)) →
 0 ≤ iv (σ 23) →
 iv (σ 23) ≤ 12 →
 σ 24 = .float .f64 (fv (σ 24)) →
 σ 25 = vE →
 σ 26 = vF →
 σ 27 = vZ →
 σ 28 = .int .u64 (iv (σ 28)) →
 σ 29 = .int .u64 (iv (σ 29)) →
 σ 31 = .int .i64 (iv (σ 31)) →
 1 ≤ iv (σ 31) →
 iv (σ 31) ≤ 9999 →
 σ 32 = .int .i64 (iv (σ 32)) →
 1 ≤ iv (σ 32) →
 iv (σ 32) ≤ 12 →
 σ 33 = .int .i64 (iv (σ 33)) →
 1 ≤ iv (σ 33) →
 iv (σ 33) ≤ 31 →
 σ 34 = vZ →
 σ 35 = .float .f64 (fv (σ 35)) →
 σ 36 = .float .f64 (fv (σ 36)) →
 σ 37 = .int .i64 (iv (σ 37)) →
 1 ≤ iv (σ 37) →
 iv (σ 37) ≤ 24 →
 σ 38 = .float .f64 (fv (σ 38)) →
 fv (σ 24) = FloatKind.f64.nearest (iv (σ 23)) →
 fv (σ 11) = FloatKind.f64.nearest (iv (σ 10)) →
 callEdateRPre [(vS #[69,68,65,84,69]), vU, vF, vF, vO, vO, vU, vZ, vZ, vO, σ 10, σ 11, vE, vF, vZ, vF, vF, vO, vO, vU, vZ, vZ, vO, σ 23, σ 24, vE, vF, vZ] →
 extRel .fbits [σ 24] (σ 28) →
 ibin .andNot IntKind.u64 (iv (σ 28)) (9223372036854775808) = some (.int IntKind.u64 (iv (σ 29))) →
 toWR [σ 10, σ 11, σ 31, σ 32, σ 33, vZ] →
 fv (σ 35) = FloatKind.f64.nearest (iv (σ 31)) →
 fv (σ 36) = FloatKind.f64.nearest (iv (σ 32)) →
 iv (σ 37) = iv (σ 32) + iv (σ 23) →
 fv (σ 38) = FloatKind.f64.nearest (iv (σ 37)) →
 ¬ dateOfRPre [σ 31, σ 35, σ 37, σ 38, vO, (vG 4607182418800017408)] →
 0 ≤ iv (σ 23) →
    False
theorem callEdateR_tie : edateC.goals (cfgB edateC.base [toC, dateOfC, lengthC]) [] 2000 = (callEdateR_L0 ∧ callEdateR_L1 ∧ callEdateR_L2 ∧ callEdateR_L3 ∧ callEdateR_L4 ∧ callEdateR_L5 ∧ callEdateR_L6 ∧ callEdateR_L7 ∧ True) := by kernel_rfl
theorem ed_L0_ok : callEdateR_L0 := by
  intro σ; intros
  have h := ‹dateOfR _›
  exact not_both (dateOf_is h).1 ‹bv (σ 43) = false›
theorem ed_L1_ok : callEdateR_L1 := by
  intro σ; intros
  have h0 := ‹dateOfR _›
  have h := (dateOf_is h0).2
  have p0 := ‹callEdateRPre _›
  rw [‹iv (σ 39) = iv (σ 34) + iv (σ 23)›] at h
  have t0 := ‹toWR [σ 10, _, _, _, _, _]›
  have t1 := ‹toWR [σ 41, _, _, _, _, _]›
  have l0 := ‹lengthR _›
  have r := edate_fin (x := iv (σ 54)) (p0 : edPre (iv (σ 23)) (iv (σ 10) + 693593)) (t0 : IsDate (iv (σ 10) + 693593) (iv (σ 33)) (iv (σ 34)) (iv (σ 35))) h
    (t1 : IsDate (iv (σ 41) + 693593) (iv (σ 45)) (iv (σ 46)) (iv (σ 47))) (l0 : iv (σ 49) = monI (iv (σ 45)) (iv (σ 46))) (by omega)
  exact ⟨callEdateROut_of r.1, r.2⟩
theorem ed_L2_ok : callEdateR_L2 := by
  intro σ; intros
  have h0 := ‹dateOfR _›
  have h := (dateOf_is h0).2
  have p0 := ‹callEdateRPre _›
  rw [‹iv (σ 39) = iv (σ 34) + iv (σ 23)›] at h
  have t0 := ‹toWR [σ 10, _, _, _, _, _]›
  have t1 := ‹toWR [σ 41, _, _, _, _, _]›
  have l0 := ‹lengthR _›
  have r := edate_fin (x := iv (σ 54)) (p0 : edPre (iv (σ 23)) (iv (σ 10) + 693593)) (t0 : IsDate (iv (σ 10) + 693593) (iv (σ 33)) (iv (σ 34)) (iv (σ 35))) h
    (t1 : IsDate (iv (σ 41) + 693593) (iv (σ 45)) (iv (σ 46)) (iv (σ 47))) (l0 : iv (σ 49) = monI (iv (σ 45)) (iv (σ 46))) (by omega)
  exact ⟨callEdateROut_of r.1, r.2⟩
theorem ed_L3_ok : callEdateR_L3 := by
  intro σ; intros
  have t0 := ‹toWR _›
  have h : IsDate (iv (σ 10) + 693593) (iv (σ 33)) (iv (σ 34)) (iv (σ 35)) := t0
  have p0 := ‹callEdateRPre _›
  have p1 : edPre (iv (σ 23)) (iv (σ 10) + 693593) := p0
  have p := p1 _ _ _ h
  have q := monI_pos (yOf (iv (σ 33)) (iv (σ 39))) (mOf (iv (σ 39)))
  rw [← ‹iv (σ 39) = iv (σ 34) + iv (σ 23)›] at p
  refine ‹¬ dateOfRPre _› ?_
  simp only [dateOfRPre, iv_int]
  exact ⟨p.1, p.2, by omega, by omega⟩
theorem ed_L4_ok : callEdateR_L4 := by
  intro σ; intros
  have h := ‹dateOfR _›
  exact not_both (dateOf_is h).1 ‹bv (σ 41) = false›
theorem ed_L5_ok : callEdateR_L5 := by
  intro σ; intros
  have h0 := ‹dateOfR _›
  have h := (dateOf_is h0).2
  have p0 := ‹callEdateRPre _›
  rw [‹iv (σ 37) = iv (σ 32) + iv (σ 23)›] at h
  have t0 := ‹toWR [σ 10, _, _, _, _, _]›
  have t1 := ‹toWR [σ 39, _, _, _, _, _]›
  have l0 := ‹lengthR _›
  have r := edate_fin (x := iv (σ 52)) (p0 : edPre (iv (σ 23)) (iv (σ 10) + 693593)) (t0 : IsDate (iv (σ 10) + 693593) (iv (σ 31)) (iv (σ 32)) (iv (σ 33))) h
    (t1 : IsDate (iv (σ 39) + 693593) (iv (σ 43)) (iv (σ 44)) (iv (σ 45))) (l0 : iv (σ 47) = monI (iv (σ 43)) (iv (σ 44))) (by omega)
  exact ⟨callEdateROut_of r.1, r.2⟩
theorem ed_L6_ok : callEdateR_L6 := by
  intro σ; intros
  have h0 := ‹dateOfR _›
  have h := (dateOf_is h0).2
  have p0 := ‹callEdateRPre _›
  rw [‹iv (σ 37) = iv (σ 32) + iv (σ 23)›] at h
  have t0 := ‹toWR [σ 10, _, _, _, _, _]›
  have t1 := ‹toWR [σ 39, _, _, _, _, _]›
  have l0 := ‹lengthR _›
  have r := edate_fin (x := iv (σ 52)) (p0 : edPre (iv (σ 23)) (iv (σ 10) + 693593)) (t0 : IsDate (iv (σ 10) + 693593) (iv (σ 31)) (iv (σ 32)) (iv (σ 33))) h
    (t1 : IsDate (iv (σ 39) + 693593) (iv (σ 43)) (iv (σ 44)) (iv (σ 45))) (l0 : iv (σ 47) = monI (iv (σ 43)) (iv (σ 44))) (by omega)
  exact ⟨callEdateROut_of r.1, r.2⟩
theorem ed_L7_ok : callEdateR_L7 := by
  intro σ; intros
  have t0 := ‹toWR _›
  have h : IsDate (iv (σ 10) + 693593) (iv (σ 31)) (iv (σ 32)) (iv (σ 33)) := t0
  have p0 := ‹callEdateRPre _›
  have p1 : edPre (iv (σ 23)) (iv (σ 10) + 693593) := p0
  have p := p1 _ _ _ h
  have q := monI_pos (yOf (iv (σ 31)) (iv (σ 37))) (mOf (iv (σ 37)))
  rw [← ‹iv (σ 37) = iv (σ 32) + iv (σ 23)›] at p
  refine ‹¬ dateOfRPre _› ?_
  simp only [dateOfRPre, iv_int]
  exact ⟨p.1, p.2, by omega, by omega⟩
theorem edate_ok : edateC.ok Tryz.prog All :=
  by_tie callEdateR_tie (by kernel_rfl) (all_cons to_ok (all_cons dateOf_ok (all_cons length_ok all_nil))) ⟨ed_L0_ok, ed_L1_ok, ed_L2_ok, ed_L3_ok, ed_L4_ok, ed_L5_ok, ed_L6_ok, ed_L7_ok, trivial⟩
end Go.Proofs.Back
