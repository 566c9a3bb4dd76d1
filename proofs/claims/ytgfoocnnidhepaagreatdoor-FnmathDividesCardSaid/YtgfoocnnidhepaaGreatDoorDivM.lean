/- MOD of two whole numbers. -/
import Derived.Test.YtgfoocnnidhepaaGreatDoorDivC
namespace Go.Proofs.Dv
open Go.Ev Go.RowKit Ieee Go.Proofs.YtgfoocnnidhepaaGreatDoor
set_option maxRecDepth 1000000
def mdR_L0 : Prop := ∀ σ : Nat → Value,
 σ 0 = (vS #[77,79,68]) →
 σ 2 = vF →
 σ 3 = vF →
 σ 4 = vO →
 σ 5 = vO →
 σ 7 = vZ →
 σ 8 = vZ →
 σ 9 = vO →
 tI (σ 10) →
 0 ≤ iv (σ 10) →
 iv (σ 10) ≤ 0 →
 tF (σ 11) →
 σ 12 = vE →
 σ 13 = vF →
 σ 14 = vZ →
 σ 15 = vF →
 σ 16 = vF →
 σ 17 = vO →
 σ 18 = vO →
 σ 20 = vZ →
 σ 21 = vZ →
 σ 22 = vO →
 tI (σ 23) →
 1 ≤ iv (σ 23) →
 iv (σ 23) ≤ 4294967295 →
 tF (σ 24) →
 σ 25 = vE →
 σ 26 = vF →
 σ 27 = vZ →
 σ 28 = .int .u64 (iv (σ 28)) →
 σ 29 = .int .u64 (iv (σ 29)) →
 σ 31 = .int .u64 (iv (σ 31)) →
 σ 32 = .int .u64 (iv (σ 32)) →
 σ 33 = vO →
 tI (σ 34) →
 0 ≤ iv (σ 34) →
 iv (σ 34) ≤ 4294967295 →
 tF (σ 35) →
 σ 36 = vE →
 σ 37 = vF →
 σ 38 = vZ →
 σ 39 = vO →
 tI (σ 40) →
 0 ≤ iv (σ 40) →
 iv (σ 40) ≤ 0 →
 tF (σ 41) →
 σ 42 = vE →
 σ 43 = vF →
 σ 44 = vZ →
 fv (σ 24) = FloatKind.f64.nearest (iv (σ 23)) →
 fv (σ 11) = FloatKind.f64.nearest (iv (σ 10)) →
 extRel .fbits [σ 11] (σ 28) →
 ibin .andNot IntKind.u64 (iv (σ 28)) (9223372036854775808) = some (.int IntKind.u64 (iv (σ 29))) →
 extRel .fbits [σ 24] (σ 31) →
 ibin .andNot IntKind.u64 (iv (σ 31)) (9223372036854775808) = some (.int IntKind.u64 (iv (σ 32))) →
 fv (σ 35) = FloatKind.f64.nearest (iv (σ 34)) →
 reckWR [σ 10, σ 11, vO, σ 34, σ 35, vE, vF, vZ] →
 fv (σ 41) = FloatKind.f64.nearest (iv (σ 40)) →
 reckWR [σ 23, σ 24, vO, σ 40, σ 41, vE, vF, vZ] →
 iv (σ 40) = 0 →
 bv (σ 45) = !true →
 iv (σ 10) = 0 →
    False
def mdR_L1 : Prop := ∀ σ : Nat → Value,
 σ 0 = (vS #[77,79,68]) →
 σ 2 = vF →
 σ 3 = vF →
 σ 4 = vO →
 σ 5 = vO →
 σ 7 = vZ →
 σ 8 = vZ →
 σ 9 = vO →
 tI (σ 10) →
 0 ≤ iv (σ 10) →
 iv (σ 10) ≤ 0 →
 tF (σ 11) →
 σ 12 = vE →
 σ 13 = vF →
 σ 14 = vZ →
 σ 15 = vF →
 σ 16 = vF →
 σ 17 = vO →
 σ 18 = vO →
 σ 20 = vZ →
 σ 21 = vZ →
 σ 22 = vO →
 tI (σ 23) →
 1 ≤ iv (σ 23) →
 iv (σ 23) ≤ 4294967295 →
 tF (σ 24) →
 σ 25 = vE →
 σ 26 = vF →
 σ 27 = vZ →
 σ 28 = .int .u64 (iv (σ 28)) →
 σ 29 = .int .u64 (iv (σ 29)) →
 σ 31 = .int .u64 (iv (σ 31)) →
 σ 32 = .int .u64 (iv (σ 32)) →
 σ 33 = vO →
 tI (σ 34) →
 0 ≤ iv (σ 34) →
 iv (σ 34) ≤ 4294967295 →
 tF (σ 35) →
 σ 36 = vE →
 σ 37 = vF →
 σ 38 = vZ →
 σ 39 = vO →
 tI (σ 40) →
 1 ≤ iv (σ 40) →
 iv (σ 40) ≤ 4294967295 →
 tF (σ 41) →
 σ 42 = vE →
 σ 43 = vF →
 σ 44 = vZ →
 tF (σ 47) →
 tI (σ 48) →
 0 ≤ iv (σ 48) →
 iv (σ 48) ≤ 4294967295 →
 tF (σ 49) →
 tF (σ 50) →
 tF (σ 51) →
 σ 52 = vO →
 tF (σ 53) →
 σ 54 = vE →
 σ 55 = vF →
 σ 56 = vZ →
 fv (σ 24) = FloatKind.f64.nearest (iv (σ 23)) →
 fv (σ 11) = FloatKind.f64.nearest (iv (σ 10)) →
 extRel .fbits [σ 11] (σ 28) →
 ibin .andNot IntKind.u64 (iv (σ 28)) (9223372036854775808) = some (.int IntKind.u64 (iv (σ 29))) →
 extRel .fbits [σ 24] (σ 31) →
 ibin .andNot IntKind.u64 (iv (σ 31)) (9223372036854775808) = some (.int IntKind.u64 (iv (σ 32))) →
 fv (σ 35) = FloatKind.f64.nearest (iv (σ 34)) →
 reckWR [σ 10, σ 11, vO, σ 34, σ 35, vE, vF, vZ] →
 fv (σ 41) = FloatKind.f64.nearest (iv (σ 40)) →
 reckWR [σ 23, σ 24, vO, σ 40, σ 41, vE, vF, vZ] →
 (farV .quo .f64 (fv (σ 35)) (fv (σ 41)) = some (some (fv (σ 47))) ∨ (farV .quo .f64 (fv (σ 35)) (fv (σ 41)) = some none ∧ Nan64 (fv (σ 47)))) →
 iv (σ 48) = (iv (σ 34) : Int).tdiv (iv (σ 40)) →
 fv (σ 49) = FloatKind.f64.nearest (iv (σ 48)) →
 (farV .mul .f64 (fv (σ 41)) (fv (σ 49)) = some (some (fv (σ 50))) ∨ (farV .mul .f64 (fv (σ 41)) (fv (σ 49)) = some none ∧ Nan64 (fv (σ 50)))) →
 (farV .sub .f64 (fv (σ 35)) (fv (σ 50)) = some (some (fv (σ 51))) ∨ (farV .sub .f64 (fv (σ 35)) (fv (σ 50)) = some none ∧ Nan64 (fv (σ 51)))) →
 reckR [σ 51, vO, σ 53, vE, vF, vZ] →
 iv (σ 40) ≠ 0 →
 bv (σ 45) = !false →
 iv (σ 10) = 0 →
    mdR [(vS #[77,79,68]), vU, vF, vF, vO, vO, vU, vZ, vZ, vO, σ 10, σ 11, vE, vF, vZ, vF, vF, vO, vO, vU, vZ, vZ, vO, σ 23, σ 24, vE, vF, vZ, vO, σ 53, vE, vF, vZ, vT]
def mdR_L2 : Prop := ∀ σ : Nat → Value,
 σ 0 = (vS #[77,79,68]) →
 σ 2 = vF →
 σ 3 = vF →
 σ 4 = vO →
 σ 5 = vO →
 σ 7 = vZ →
 σ 8 = vZ →
 σ 9 = vO →
 tI (σ 10) →
 0 ≤ iv (σ 10) →
 iv (σ 10) ≤ 0 →
 tF (σ 11) →
 σ 12 = vE →
 σ 13 = vF →
 σ 14 = vZ →
 σ 15 = vF →
 σ 16 = vF →
 σ 17 = vO →
 σ 18 = vO →
 σ 20 = vZ →
 σ 21 = vZ →
 σ 22 = vO →
 tI (σ 23) →
 1 ≤ iv (σ 23) →
 iv (σ 23) ≤ 4294967295 →
 tF (σ 24) →
 σ 25 = vE →
 σ 26 = vF →
 σ 27 = vZ →
 σ 28 = .int .u64 (iv (σ 28)) →
 σ 29 = .int .u64 (iv (σ 29)) →
 σ 31 = .int .u64 (iv (σ 31)) →
 σ 32 = .int .u64 (iv (σ 32)) →
 σ 33 = vO →
 tI (σ 34) →
 0 ≤ iv (σ 34) →
 iv (σ 34) ≤ 4294967295 →
 tF (σ 35) →
 σ 36 = vE →
 σ 37 = vF →
 σ 38 = vZ →
 σ 39 = vO →
 tI (σ 40) →
 1 ≤ iv (σ 40) →
 iv (σ 40) ≤ 4294967295 →
 tF (σ 41) →
 σ 42 = vE →
 σ 43 = vF →
 σ 44 = vZ →
 tF (σ 47) →
 tI (σ 48) →
 0 ≤ iv (σ 48) →
 iv (σ 48) ≤ 4294967295 →
 tF (σ 49) →
 tF (σ 50) →
 tF (σ 51) →
 fv (σ 24) = FloatKind.f64.nearest (iv (σ 23)) →
 fv (σ 11) = FloatKind.f64.nearest (iv (σ 10)) →
 extRel .fbits [σ 11] (σ 28) →
 ibin .andNot IntKind.u64 (iv (σ 28)) (9223372036854775808) = some (.int IntKind.u64 (iv (σ 29))) →
 extRel .fbits [σ 24] (σ 31) →
 ibin .andNot IntKind.u64 (iv (σ 31)) (9223372036854775808) = some (.int IntKind.u64 (iv (σ 32))) →
 fv (σ 35) = FloatKind.f64.nearest (iv (σ 34)) →
 reckWR [σ 10, σ 11, vO, σ 34, σ 35, vE, vF, vZ] →
 fv (σ 41) = FloatKind.f64.nearest (iv (σ 40)) →
 reckWR [σ 23, σ 24, vO, σ 40, σ 41, vE, vF, vZ] →
 (farV .quo .f64 (fv (σ 35)) (fv (σ 41)) = some (some (fv (σ 47))) ∨ (farV .quo .f64 (fv (σ 35)) (fv (σ 41)) = some none ∧ Nan64 (fv (σ 47)))) →
 iv (σ 48) = (iv (σ 34) : Int).tdiv (iv (σ 40)) →
 fv (σ 49) = FloatKind.f64.nearest (iv (σ 48)) →
 (farV .mul .f64 (fv (σ 41)) (fv (σ 49)) = some (some (fv (σ 50))) ∨ (farV .mul .f64 (fv (σ 41)) (fv (σ 49)) = some none ∧ Nan64 (fv (σ 50)))) →
 (farV .sub .f64 (fv (σ 35)) (fv (σ 50)) = some (some (fv (σ 51))) ∨ (farV .sub .f64 (fv (σ 35)) (fv (σ 50)) = some none ∧ Nan64 (fv (σ 51)))) →
 ¬ reckRPre [σ 51] →
 iv (σ 40) ≠ 0 →
 bv (σ 45) = !false →
 iv (σ 10) = 0 →
    False
def mdR_L3 : Prop := ∀ σ : Nat → Value,
 σ 0 = (vS #[77,79,68]) →
 σ 2 = vF →
 σ 3 = vF →
 σ 4 = vO →
 σ 5 = vO →
 σ 7 = vZ →
 σ 8 = vZ →
 σ 9 = vO →
 tI (σ 10) →
 1 ≤ iv (σ 10) →
 iv (σ 10) ≤ 4294967295 →
 tF (σ 11) →
 σ 12 = vE →
 σ 13 = vF →
 σ 14 = vZ →
 σ 15 = vF →
 σ 16 = vF →
 σ 17 = vO →
 σ 18 = vO →
 σ 20 = vZ →
 σ 21 = vZ →
 σ 22 = vO →
 tI (σ 23) →
 1 ≤ iv (σ 23) →
 iv (σ 23) ≤ 4294967295 →
 tF (σ 24) →
 σ 25 = vE →
 σ 26 = vF →
 σ 27 = vZ →
 σ 28 = .int .u64 (iv (σ 28)) →
 σ 29 = .int .u64 (iv (σ 29)) →
 σ 31 = .int .u64 (iv (σ 31)) →
 σ 32 = .int .u64 (iv (σ 32)) →
 σ 33 = vO →
 tI (σ 34) →
 0 ≤ iv (σ 34) →
 iv (σ 34) ≤ 4294967295 →
 tF (σ 35) →
 σ 36 = vE →
 σ 37 = vF →
 σ 38 = vZ →
 σ 39 = vO →
 tI (σ 40) →
 0 ≤ iv (σ 40) →
 iv (σ 40) ≤ 0 →
 tF (σ 41) →
 σ 42 = vE →
 σ 43 = vF →
 σ 44 = vZ →
 fv (σ 24) = FloatKind.f64.nearest (iv (σ 23)) →
 fv (σ 11) = FloatKind.f64.nearest (iv (σ 10)) →
 extRel .fbits [σ 11] (σ 28) →
 ibin .andNot IntKind.u64 (iv (σ 28)) (9223372036854775808) = some (.int IntKind.u64 (iv (σ 29))) →
 extRel .fbits [σ 24] (σ 31) →
 ibin .andNot IntKind.u64 (iv (σ 31)) (9223372036854775808) = some (.int IntKind.u64 (iv (σ 32))) →
 fv (σ 35) = FloatKind.f64.nearest (iv (σ 34)) →
 reckWR [σ 10, σ 11, vO, σ 34, σ 35, vE, vF, vZ] →
 fv (σ 41) = FloatKind.f64.nearest (iv (σ 40)) →
 reckWR [σ 23, σ 24, vO, σ 40, σ 41, vE, vF, vZ] →
 iv (σ 40) = 0 →
 bv (σ 45) = !true →
 iv (σ 10) ≠ 0 →
    False
def mdR_L4 : Prop := ∀ σ : Nat → Value,
 σ 0 = (vS #[77,79,68]) →
 σ 2 = vF →
 σ 3 = vF →
 σ 4 = vO →
 σ 5 = vO →
 σ 7 = vZ →
 σ 8 = vZ →
 σ 9 = vO →
 tI (σ 10) →
 1 ≤ iv (σ 10) →
 iv (σ 10) ≤ 4294967295 →
 tF (σ 11) →
 σ 12 = vE →
 σ 13 = vF →
 σ 14 = vZ →
 σ 15 = vF →
 σ 16 = vF →
 σ 17 = vO →
 σ 18 = vO →
 σ 20 = vZ →
 σ 21 = vZ →
 σ 22 = vO →
 tI (σ 23) →
 1 ≤ iv (σ 23) →
 iv (σ 23) ≤ 4294967295 →
 tF (σ 24) →
 σ 25 = vE →
 σ 26 = vF →
 σ 27 = vZ →
 σ 28 = .int .u64 (iv (σ 28)) →
 σ 29 = .int .u64 (iv (σ 29)) →
 σ 31 = .int .u64 (iv (σ 31)) →
 σ 32 = .int .u64 (iv (σ 32)) →
 σ 33 = vO →
 tI (σ 34) →
 0 ≤ iv (σ 34) →
 iv (σ 34) ≤ 4294967295 →
 tF (σ 35) →
 σ 36 = vE →
 σ 37 = vF →
 σ 38 = vZ →
 σ 39 = vO →
 tI (σ 40) →
 1 ≤ iv (σ 40) →
 iv (σ 40) ≤ 4294967295 →
 tF (σ 41) →
 σ 42 = vE →
 σ 43 = vF →
 σ 44 = vZ →
 tF (σ 47) →
 tI (σ 48) →
 0 ≤ iv (σ 48) →
 iv (σ 48) ≤ 4294967295 →
 tF (σ 49) →
 tF (σ 50) →
 tF (σ 51) →
 σ 52 = vO →
 tF (σ 53) →
 σ 54 = vE →
 σ 55 = vF →
 σ 56 = vZ →
 fv (σ 24) = FloatKind.f64.nearest (iv (σ 23)) →
 fv (σ 11) = FloatKind.f64.nearest (iv (σ 10)) →
 extRel .fbits [σ 11] (σ 28) →
 ibin .andNot IntKind.u64 (iv (σ 28)) (9223372036854775808) = some (.int IntKind.u64 (iv (σ 29))) →
 extRel .fbits [σ 24] (σ 31) →
 ibin .andNot IntKind.u64 (iv (σ 31)) (9223372036854775808) = some (.int IntKind.u64 (iv (σ 32))) →
 fv (σ 35) = FloatKind.f64.nearest (iv (σ 34)) →
 reckWR [σ 10, σ 11, vO, σ 34, σ 35, vE, vF, vZ] →
 fv (σ 41) = FloatKind.f64.nearest (iv (σ 40)) →
 reckWR [σ 23, σ 24, vO, σ 40, σ 41, vE, vF, vZ] →
 (farV .quo .f64 (fv (σ 35)) (fv (σ 41)) = some (some (fv (σ 47))) ∨ (farV .quo .f64 (fv (σ 35)) (fv (σ 41)) = some none ∧ Nan64 (fv (σ 47)))) →
 iv (σ 48) = (iv (σ 34) : Int).tdiv (iv (σ 40)) →
 fv (σ 49) = FloatKind.f64.nearest (iv (σ 48)) →
 (farV .mul .f64 (fv (σ 41)) (fv (σ 49)) = some (some (fv (σ 50))) ∨ (farV .mul .f64 (fv (σ 41)) (fv (σ 49)) = some none ∧ Nan64 (fv (σ 50)))) →
 (farV .sub .f64 (fv (σ 35)) (fv (σ 50)) = some (some (fv (σ 51))) ∨ (farV .sub .f64 (fv (σ 35)) (fv (σ 50)) = some none ∧ Nan64 (fv (σ 51)))) →
 reckR [σ 51, vO, σ 53, vE, vF, vZ] →
 iv (σ 40) ≠ 0 →
 bv (σ 45) = !false →
 iv (σ 10) ≠ 0 →
    mdR [(vS #[77,79,68]), vU, vF, vF, vO, vO, vU, vZ, vZ, vO, σ 10, σ 11, vE, vF, vZ, vF, vF, vO, vO, vU, vZ, vZ, vO, σ 23, σ 24, vE, vF, vZ, vO, σ 53, vE, vF, vZ, vT]
def mdR_L5 : Prop := ∀ σ : Nat → Value,
 σ 0 = (vS #[77,79,68]) →
 σ 2 = vF →
 σ 3 = vF →
 σ 4 = vO →
 σ 5 = vO →
 σ 7 = vZ →
 σ 8 = vZ →
 σ 9 = vO →
 tI (σ 10) →
 1 ≤ iv (σ 10) →
 iv (σ 10) ≤ 4294967295 →
 tF (σ 11) →
 σ 12 = vE →
 σ 13 = vF →
 σ 14 = vZ →
 σ 15 = vF →
 σ 16 = vF →
 σ 17 = vO →
 σ 18 = vO →
 σ 20 = vZ →
 σ 21 = vZ →
 σ 22 = vO →
 tI (σ 23) →
 1 ≤ iv (σ 23) →
 iv (σ 23) ≤ 4294967295 →
 tF (σ 24) →
 σ 25 = vE →
 σ 26 = vF →
 σ 27 = vZ →
 σ 28 = .int .u64 (iv (σ 28)) →
 σ 29 = .int .u64 (iv (σ 29)) →
 σ 31 = .int .u64 (iv (σ 31)) →
 σ 32 = .int .u64 (iv (σ 32)) →
 σ 33 = vO →
 tI (σ 34) →
 0 ≤ iv (σ 34) →
 iv (σ 34) ≤ 4294967295 →
 tF (σ 35) →
 σ 36 = vE →
 σ 37 = vF →
 σ 38 = vZ →
 σ 39 = vO →
 tI (σ 40) →
 1 ≤ iv (σ 40) →
 iv (σ 40) ≤ 4294967295 →
 tF (σ 41) →
 σ 42 = vE →
 σ 43 = vF →
 σ 44 = vZ →
 tF (σ 47) →
 tI (σ 48) →
 0 ≤ iv (σ 48) →
 iv (σ 48) ≤ 4294967295 →
 tF (σ 49) →
 tF (σ 50) →
 tF (σ 51) →
 fv (σ 24) = FloatKind.f64.nearest (iv (σ 23)) →
 fv (σ 11) = FloatKind.f64.nearest (iv (σ 10)) →
 extRel .fbits [σ 11] (σ 28) →
 ibin .andNot IntKind.u64 (iv (σ 28)) (9223372036854775808) = some (.int IntKind.u64 (iv (σ 29))) →
 extRel .fbits [σ 24] (σ 31) →
 ibin .andNot IntKind.u64 (iv (σ 31)) (9223372036854775808) = some (.int IntKind.u64 (iv (σ 32))) →
 fv (σ 35) = FloatKind.f64.nearest (iv (σ 34)) →
 reckWR [σ 10, σ 11, vO, σ 34, σ 35, vE, vF, vZ] →
 fv (σ 41) = FloatKind.f64.nearest (iv (σ 40)) →
 reckWR [σ 23, σ 24, vO, σ 40, σ 41, vE, vF, vZ] →
 (farV .quo .f64 (fv (σ 35)) (fv (σ 41)) = some (some (fv (σ 47))) ∨ (farV .quo .f64 (fv (σ 35)) (fv (σ 41)) = some none ∧ Nan64 (fv (σ 47)))) →
 iv (σ 48) = (iv (σ 34) : Int).tdiv (iv (σ 40)) →
 fv (σ 49) = FloatKind.f64.nearest (iv (σ 48)) →
 (farV .mul .f64 (fv (σ 41)) (fv (σ 49)) = some (some (fv (σ 50))) ∨ (farV .mul .f64 (fv (σ 41)) (fv (σ 49)) = some none ∧ Nan64 (fv (σ 50)))) →
 (farV .sub .f64 (fv (σ 35)) (fv (σ 50)) = some (some (fv (σ 51))) ∨ (farV .sub .f64 (fv (σ 35)) (fv (σ 50)) = some none ∧ Nan64 (fv (σ 51)))) →
 ¬ reckRPre [σ 51] →
 iv (σ 40) ≠ 0 →
 bv (σ 45) = !false →
 iv (σ 10) ≠ 0 →
    False
theorem mdR_tie : mdC.goals (cfgB mdC.base [reckWC, reckC]) [] 2000 = (mdR_L0 ∧ mdR_L1 ∧ mdR_L2 ∧ mdR_L3 ∧ mdR_L4 ∧ mdR_L5 ∧ True) := by kernel_rfl
theorem mdR_L0_ok : mdR_L0 := by
  intro σ; intros
  have w10_ := ‹reckWR [σ 10, σ 11, vO, σ 34, σ 35, vE, vF, vZ]›
  have w10 : iv (σ 34) = iv (σ 10) := w10_
  have w23_ := ‹reckWR [σ 23, σ 24, vO, σ 40, σ 41, vE, vF, vZ]›
  have w23 : iv (σ 40) = iv (σ 23) := w23_
  omega
theorem mdR_L1_ok : mdR_L1 := by
  intro σ; intros
  have w10_ := ‹reckWR [σ 10, σ 11, vO, σ 34, σ 35, vE, vF, vZ]›
  have w10 : iv (σ 34) = iv (σ 10) := w10_
  have w23_ := ‹reckWR [σ 23, σ 24, vO, σ 40, σ 41, vE, vF, vZ]›
  have w23 : iv (σ 40) = iv (σ 23) := w23_
  have td := ‹iv (σ 48) = (iv (σ 34) : Int).tdiv (iv (σ 40))›
  rw [w10, w23] at td
  have fx := ‹fv (σ 35) = FloatKind.f64.nearest (iv (σ 34))›
  have fy := ‹fv (σ 41) = FloatKind.f64.nearest (iv (σ 40))›
  have fq := ‹fv (σ 49) = FloatKind.f64.nearest (iv (σ 48))›
  obtain ⟨x, hx⟩ : ∃ x : Nat, iv (σ 10) = x := ⟨(iv (σ 10)).toNat, by omega⟩
  obtain ⟨y, hy⟩ : ∃ y : Nat, iv (σ 23) = y := ⟨(iv (σ 23)).toNat, by omega⟩
  have td2 : (iv (σ 10)).tdiv (iv (σ 23)) = ((x / y : Nat) : Int) := by rw [hx, hy]; rfl
  rw [w10, hx] at fx
  rw [w23, hy] at fy
  rw [td, td2] at fq
  have mm := ‹farV .mul .f64 _ _ = _ ∨ _›
  have ss := ‹farV .sub .f64 _ _ = _ ∨ _›
  rw [fy, fq] at mm
  rw [fx] at ss
  have dd := md_core (x := x) (y := y) (by omega) (by omega) mm ss
  have hle := Nat.mod_le x y
  have rr_ := ‹reckR _›
  have rr : fv (σ 53) = if sv (fv (σ 51)) = 0 then 0 else fv (σ 51) := rr_
  have e := reck_nr dd (by omega) rr
  show fv (σ 53) = nr ((iv (σ 10)).toNat % (iv (σ 23)).toNat)
  rw [e, hx, hy]; rfl
theorem mdR_L2_ok : mdR_L2 := by
  intro σ; intros
  have w10_ := ‹reckWR [σ 10, σ 11, vO, σ 34, σ 35, vE, vF, vZ]›
  have w10 : iv (σ 34) = iv (σ 10) := w10_
  have w23_ := ‹reckWR [σ 23, σ 24, vO, σ 40, σ 41, vE, vF, vZ]›
  have w23 : iv (σ 40) = iv (σ 23) := w23_
  have td := ‹iv (σ 48) = (iv (σ 34) : Int).tdiv (iv (σ 40))›
  rw [w10, w23] at td
  have fx := ‹fv (σ 35) = FloatKind.f64.nearest (iv (σ 34))›
  have fy := ‹fv (σ 41) = FloatKind.f64.nearest (iv (σ 40))›
  have fq := ‹fv (σ 49) = FloatKind.f64.nearest (iv (σ 48))›
  obtain ⟨x, hx⟩ : ∃ x : Nat, iv (σ 10) = x := ⟨(iv (σ 10)).toNat, by omega⟩
  obtain ⟨y, hy⟩ : ∃ y : Nat, iv (σ 23) = y := ⟨(iv (σ 23)).toNat, by omega⟩
  have td2 : (iv (σ 10)).tdiv (iv (σ 23)) = ((x / y : Nat) : Int) := by rw [hx, hy]; rfl
  rw [w10, hx] at fx
  rw [w23, hy] at fy
  rw [td, td2] at fq
  have mm := ‹farV .mul .f64 _ _ = _ ∨ _›
  have ss := ‹farV .sub .f64 _ _ = _ ∨ _›
  rw [fy, fq] at mm
  rw [fx] at ss
  have dd := md_core (x := x) (y := y) (by omega) (by omega) mm ss
  have hle := Nat.mod_le x y
  have p : Fin64 (fv (σ 51)) := by rw [dd]; exact (nr_sv (by omega)).1
  have n_ := ‹¬ reckRPre _›
  exact n_ p
theorem mdR_L3_ok : mdR_L3 := by
  intro σ; intros
  have w10_ := ‹reckWR [σ 10, σ 11, vO, σ 34, σ 35, vE, vF, vZ]›
  have w10 : iv (σ 34) = iv (σ 10) := w10_
  have w23_ := ‹reckWR [σ 23, σ 24, vO, σ 40, σ 41, vE, vF, vZ]›
  have w23 : iv (σ 40) = iv (σ 23) := w23_
  omega
theorem mdR_L4_ok : mdR_L4 := by
  intro σ; intros
  have w10_ := ‹reckWR [σ 10, σ 11, vO, σ 34, σ 35, vE, vF, vZ]›
  have w10 : iv (σ 34) = iv (σ 10) := w10_
  have w23_ := ‹reckWR [σ 23, σ 24, vO, σ 40, σ 41, vE, vF, vZ]›
  have w23 : iv (σ 40) = iv (σ 23) := w23_
  have td := ‹iv (σ 48) = (iv (σ 34) : Int).tdiv (iv (σ 40))›
  rw [w10, w23] at td
  have fx := ‹fv (σ 35) = FloatKind.f64.nearest (iv (σ 34))›
  have fy := ‹fv (σ 41) = FloatKind.f64.nearest (iv (σ 40))›
  have fq := ‹fv (σ 49) = FloatKind.f64.nearest (iv (σ 48))›
  obtain ⟨x, hx⟩ : ∃ x : Nat, iv (σ 10) = x := ⟨(iv (σ 10)).toNat, by omega⟩
  obtain ⟨y, hy⟩ : ∃ y : Nat, iv (σ 23) = y := ⟨(iv (σ 23)).toNat, by omega⟩
  have td2 : (iv (σ 10)).tdiv (iv (σ 23)) = ((x / y : Nat) : Int) := by rw [hx, hy]; rfl
  rw [w10, hx] at fx
  rw [w23, hy] at fy
  rw [td, td2] at fq
  have mm := ‹farV .mul .f64 _ _ = _ ∨ _›
  have ss := ‹farV .sub .f64 _ _ = _ ∨ _›
  rw [fy, fq] at mm
  rw [fx] at ss
  have dd := md_core (x := x) (y := y) (by omega) (by omega) mm ss
  have hle := Nat.mod_le x y
  have rr_ := ‹reckR _›
  have rr : fv (σ 53) = if sv (fv (σ 51)) = 0 then 0 else fv (σ 51) := rr_
  have e := reck_nr dd (by omega) rr
  show fv (σ 53) = nr ((iv (σ 10)).toNat % (iv (σ 23)).toNat)
  rw [e, hx, hy]; rfl
theorem mdR_L5_ok : mdR_L5 := by
  intro σ; intros
  have w10_ := ‹reckWR [σ 10, σ 11, vO, σ 34, σ 35, vE, vF, vZ]›
  have w10 : iv (σ 34) = iv (σ 10) := w10_
  have w23_ := ‹reckWR [σ 23, σ 24, vO, σ 40, σ 41, vE, vF, vZ]›
  have w23 : iv (σ 40) = iv (σ 23) := w23_
  have td := ‹iv (σ 48) = (iv (σ 34) : Int).tdiv (iv (σ 40))›
  rw [w10, w23] at td
  have fx := ‹fv (σ 35) = FloatKind.f64.nearest (iv (σ 34))›
  have fy := ‹fv (σ 41) = FloatKind.f64.nearest (iv (σ 40))›
  have fq := ‹fv (σ 49) = FloatKind.f64.nearest (iv (σ 48))›
  obtain ⟨x, hx⟩ : ∃ x : Nat, iv (σ 10) = x := ⟨(iv (σ 10)).toNat, by omega⟩
  obtain ⟨y, hy⟩ : ∃ y : Nat, iv (σ 23) = y := ⟨(iv (σ 23)).toNat, by omega⟩
  have td2 : (iv (σ 10)).tdiv (iv (σ 23)) = ((x / y : Nat) : Int) := by rw [hx, hy]; rfl
  rw [w10, hx] at fx
  rw [w23, hy] at fy
  rw [td, td2] at fq
  have mm := ‹farV .mul .f64 _ _ = _ ∨ _›
  have ss := ‹farV .sub .f64 _ _ = _ ∨ _›
  rw [fy, fq] at mm
  rw [fx] at ss
  have dd := md_core (x := x) (y := y) (by omega) (by omega) mm ss
  have hle := Nat.mod_le x y
  have p : Fin64 (fv (σ 51)) := by rw [dd]; exact (nr_sv (by omega)).1
  have n_ := ‹¬ reckRPre _›
  exact n_ p
theorem md_ok : mdC.ok Tryz.prog All :=
  by_tie mdR_tie (by kernel_rfl) (all_cons reckW_ok (all_cons reck_ok all_nil)) ⟨mdR_L0_ok, mdR_L1_ok, mdR_L2_ok, mdR_L3_ok, mdR_L4_ok, mdR_L5_ok, trivial⟩
end Go.Proofs.Dv
