/- GCD of two whole numbers. -/
import Derived.Test.YtgfoocnnidhepaaGreatDoorDivC
namespace Go.Proofs.Dv
open Go.Ev Go.RowKit Ieee Go.Proofs.YtgfoocnnidhepaaGreatDoor
set_option maxRecDepth 1000000
def gR_L0 : Prop := ∀ σ : Nat → Value,
 σ 0 = (vS #[71,67,68]) →
 σ 2 = vF →
 σ 3 = vF →
 σ 4 = vO →
 σ 5 = vO →
 σ 7 = vZ →
 σ 8 = vZ →
 σ 9 = vO →
 tI (σ 10) →
 0 ≤ iv (σ 10) →
 iv (σ 10) ≤ 0 →
 tF (σ 11) →
 σ 12 = vE →
 σ 13 = vF →
 σ 14 = vZ →
 σ 15 = vF →
 σ 16 = vF →
 σ 17 = vO →
 σ 18 = vO →
 σ 20 = vZ →
 σ 21 = vZ →
 σ 22 = vO →
 tI (σ 23) →
 1 ≤ iv (σ 23) →
 iv (σ 23) ≤ 4294967295 →
 tF (σ 24) →
 σ 25 = vE →
 σ 26 = vF →
 σ 27 = vZ →
 σ 28 = .int .u64 (iv (σ 28)) →
 σ 29 = .int .u64 (iv (σ 29)) →
 σ 31 = .int .u64 (iv (σ 31)) →
 σ 32 = .int .u64 (iv (σ 32)) →
 σ 33 = vO →
 tI (σ 34) →
 0 ≤ iv (σ 34) →
 iv (σ 34) ≤ 4294967295 →
 tF (σ 35) →
 σ 36 = vE →
 σ 37 = vF →
 σ 38 = vZ →
 σ 39 = vO →
 tI (σ 40) →
 0 ≤ iv (σ 40) →
 iv (σ 40) ≤ 4294967295 →
 tF (σ 41) →
 σ 42 = vE →
 σ 43 = vF →
 σ 44 = vZ →
 tF (σ 45) →
 tF (σ 46) →
 σ 47 = vO →
 tF (σ 48) →
 σ 49 = vE →
 σ 50 = vF →
 σ 51 = vZ →
 fv (σ 24) = FloatKind.f64.nearest (iv (σ 23)) →
 fv (σ 11) = FloatKind.f64.nearest (iv (σ 10)) →
 extRel .fbits [σ 11] (σ 28) →
 ibin .andNot IntKind.u64 (iv (σ 28)) (9223372036854775808) = some (.int IntKind.u64 (iv (σ 29))) →
 extRel .fbits [σ 24] (σ 31) →
 ibin .andNot IntKind.u64 (iv (σ 31)) (9223372036854775808) = some (.int IntKind.u64 (iv (σ 32))) →
 fv (σ 35) = FloatKind.f64.nearest (iv (σ 34)) →
 reckWR [σ 10, σ 11, vO, σ 34, σ 35, vE, vF, vZ] →
 fv (σ 41) = FloatKind.f64.nearest (iv (σ 40)) →
 reckWR [σ 23, σ 24, vO, σ 40, σ 41, vE, vF, vZ] →
 gcdR [(vG 0), σ 35, σ 45] →
 gcdR [σ 45, σ 41, σ 46] →
 reckR [σ 46, vO, σ 48, vE, vF, vZ] →
 iv (σ 10) = 0 →
    gR [(vS #[71,67,68]), vU, vF, vF, vO, vO, vU, vZ, vZ, vO, σ 10, σ 11, vE, vF, vZ, vF, vF, vO, vO, vU, vZ, vZ, vO, σ 23, σ 24, vE, vF, vZ, vO, σ 48, vE, vF, vZ, vT]
def gR_L1 : Prop := ∀ σ : Nat → Value,
 σ 0 = (vS #[71,67,68]) →
 σ 2 = vF →
 σ 3 = vF →
 σ 4 = vO →
 σ 5 = vO →
 σ 7 = vZ →
 σ 8 = vZ →
 σ 9 = vO →
 tI (σ 10) →
 0 ≤ iv (σ 10) →
 iv (σ 10) ≤ 0 →
 tF (σ 11) →
 σ 12 = vE →
 σ 13 = vF →
 σ 14 = vZ →
 σ 15 = vF →
 σ 16 = vF →
 σ 17 = vO →
 σ 18 = vO →
 σ 20 = vZ →
 σ 21 = vZ →
 σ 22 = vO →
 tI (σ 23) →
 1 ≤ iv (σ 23) →
 iv (σ 23) ≤ 4294967295 →
 tF (σ 24) →
 σ 25 = vE →
 σ 26 = vF →
 σ 27 = vZ →
 σ 28 = .int .u64 (iv (σ 28)) →
 σ 29 = .int .u64 (iv (σ 29)) →
 σ 31 = .int .u64 (iv (σ 31)) →
 σ 32 = .int .u64 (iv (σ 32)) →
 σ 33 = vO →
 tI (σ 34) →
 0 ≤ iv (σ 34) →
 iv (σ 34) ≤ 4294967295 →
 tF (σ 35) →
 σ 36 = vE →
 σ 37 = vF →
 σ 38 = vZ →
 σ 39 = vO →
 tI (σ 40) →
 0 ≤ iv (σ 40) →
 iv (σ 40) ≤ 4294967295 →
 tF (σ 41) →
 σ 42 = vE →
 σ 43 = vF →
 σ 44 = vZ →
 tF (σ 45) →
 tF (σ 46) →
 fv (σ 24) = FloatKind.f64.nearest (iv (σ 23)) →
 fv (σ 11) = FloatKind.f64.nearest (iv (σ 10)) →
 extRel .fbits [σ 11] (σ 28) →
 ibin .andNot IntKind.u64 (iv (σ 28)) (9223372036854775808) = some (.int IntKind.u64 (iv (σ 29))) →
 extRel .fbits [σ 24] (σ 31) →
 ibin .andNot IntKind.u64 (iv (σ 31)) (9223372036854775808) = some (.int IntKind.u64 (iv (σ 32))) →
 fv (σ 35) = FloatKind.f64.nearest (iv (σ 34)) →
 reckWR [σ 10, σ 11, vO, σ 34, σ 35, vE, vF, vZ] →
 fv (σ 41) = FloatKind.f64.nearest (iv (σ 40)) →
 reckWR [σ 23, σ 24, vO, σ 40, σ 41, vE, vF, vZ] →
 gcdR [(vG 0), σ 35, σ 45] →
 gcdR [σ 45, σ 41, σ 46] →
 ¬ reckRPre [σ 46] →
 iv (σ 10) = 0 →
    False
def gR_L2 : Prop := ∀ σ : Nat → Value,
 σ 0 = (vS #[71,67,68]) →
 σ 2 = vF →
 σ 3 = vF →
 σ 4 = vO →
 σ 5 = vO →
 σ 7 = vZ →
 σ 8 = vZ →
 σ 9 = vO →
 tI (σ 10) →
 0 ≤ iv (σ 10) →
 iv (σ 10) ≤ 0 →
 tF (σ 11) →
 σ 12 = vE →
 σ 13 = vF →
 σ 14 = vZ →
 σ 15 = vF →
 σ 16 = vF →
 σ 17 = vO →
 σ 18 = vO →
 σ 20 = vZ →
 σ 21 = vZ →
 σ 22 = vO →
 tI (σ 23) →
 1 ≤ iv (σ 23) →
 iv (σ 23) ≤ 4294967295 →
 tF (σ 24) →
 σ 25 = vE →
 σ 26 = vF →
 σ 27 = vZ →
 σ 28 = .int .u64 (iv (σ 28)) →
 σ 29 = .int .u64 (iv (σ 29)) →
 σ 31 = .int .u64 (iv (σ 31)) →
 σ 32 = .int .u64 (iv (σ 32)) →
 σ 33 = vO →
 tI (σ 34) →
 0 ≤ iv (σ 34) →
 iv (σ 34) ≤ 4294967295 →
 tF (σ 35) →
 σ 36 = vE →
 σ 37 = vF →
 σ 38 = vZ →
 σ 39 = vO →
 tI (σ 40) →
 0 ≤ iv (σ 40) →
 iv (σ 40) ≤ 4294967295 →
 tF (σ 41) →
 σ 42 = vE →
 σ 43 = vF →
 σ 44 = vZ →
 tF (σ 45) →
 fv (σ 24) = FloatKind.f64.nearest (iv (σ 23)) →
 fv (σ 11) = FloatKind.f64.nearest (iv (σ 10)) →
 extRel .fbits [σ 11] (σ 28) →
 ibin .andNot IntKind.u64 (iv (σ 28)) (9223372036854775808) = some (.int IntKind.u64 (iv (σ 29))) →
 extRel .fbits [σ 24] (σ 31) →
 ibin .andNot IntKind.u64 (iv (σ 31)) (9223372036854775808) = some (.int IntKind.u64 (iv (σ 32))) →
 fv (σ 35) = FloatKind.f64.nearest (iv (σ 34)) →
 reckWR [σ 10, σ 11, vO, σ 34, σ 35, vE, vF, vZ] →
 fv (σ 41) = FloatKind.f64.nearest (iv (σ 40)) →
 reckWR [σ 23, σ 24, vO, σ 40, σ 41, vE, vF, vZ] →
 gcdR [(vG 0), σ 35, σ 45] →
 ¬ gcdRPre [σ 45, σ 41] →
 iv (σ 10) = 0 →
    False
def gR_L3 : Prop := ∀ σ : Nat → Value,
 σ 0 = (vS #[71,67,68]) →
 σ 2 = vF →
 σ 3 = vF →
 σ 4 = vO →
 σ 5 = vO →
 σ 7 = vZ →
 σ 8 = vZ →
 σ 9 = vO →
 tI (σ 10) →
 0 ≤ iv (σ 10) →
 iv (σ 10) ≤ 0 →
 tF (σ 11) →
 σ 12 = vE →
 σ 13 = vF →
 σ 14 = vZ →
 σ 15 = vF →
 σ 16 = vF →
 σ 17 = vO →
 σ 18 = vO →
 σ 20 = vZ →
 σ 21 = vZ →
 σ 22 = vO →
 tI (σ 23) →
 1 ≤ iv (σ 23) →
 iv (σ 23) ≤ 4294967295 →
 tF (σ 24) →
 σ 25 = vE →
 σ 26 = vF →
 σ 27 = vZ →
 σ 28 = .int .u64 (iv (σ 28)) →
 σ 29 = .int .u64 (iv (σ 29)) →
 σ 31 = .int .u64 (iv (σ 31)) →
 σ 32 = .int .u64 (iv (σ 32)) →
 σ 33 = vO →
 tI (σ 34) →
 0 ≤ iv (σ 34) →
 iv (σ 34) ≤ 4294967295 →
 tF (σ 35) →
 σ 36 = vE →
 σ 37 = vF →
 σ 38 = vZ →
 σ 39 = vO →
 tI (σ 40) →
 0 ≤ iv (σ 40) →
 iv (σ 40) ≤ 4294967295 →
 tF (σ 41) →
 σ 42 = vE →
 σ 43 = vF →
 σ 44 = vZ →
 fv (σ 24) = FloatKind.f64.nearest (iv (σ 23)) →
 fv (σ 11) = FloatKind.f64.nearest (iv (σ 10)) →
 extRel .fbits [σ 11] (σ 28) →
 ibin .andNot IntKind.u64 (iv (σ 28)) (9223372036854775808) = some (.int IntKind.u64 (iv (σ 29))) →
 extRel .fbits [σ 24] (σ 31) →
 ibin .andNot IntKind.u64 (iv (σ 31)) (9223372036854775808) = some (.int IntKind.u64 (iv (σ 32))) →
 fv (σ 35) = FloatKind.f64.nearest (iv (σ 34)) →
 reckWR [σ 10, σ 11, vO, σ 34, σ 35, vE, vF, vZ] →
 fv (σ 41) = FloatKind.f64.nearest (iv (σ 40)) →
 reckWR [σ 23, σ 24, vO, σ 40, σ 41, vE, vF, vZ] →
 ¬ gcdRPre [(vG 0), σ 35] →
 iv (σ 10) = 0 →
    False
def gR_L4 : Prop := ∀ σ : Nat → Value,
 σ 0 = (vS #[71,67,68]) →
 σ 2 = vF →
 σ 3 = vF →
 σ 4 = vO →
 σ 5 = vO →
 σ 7 = vZ →
 σ 8 = vZ →
 σ 9 = vO →
 tI (σ 10) →
 1 ≤ iv (σ 10) →
 iv (σ 10) ≤ 4294967295 →
 tF (σ 11) →
 σ 12 = vE →
 σ 13 = vF →
 σ 14 = vZ →
 σ 15 = vF →
 σ 16 = vF →
 σ 17 = vO →
 σ 18 = vO →
 σ 20 = vZ →
 σ 21 = vZ →
 σ 22 = vO →
 tI (σ 23) →
 1 ≤ iv (σ 23) →
 iv (σ 23) ≤ 4294967295 →
 tF (σ 24) →
 σ 25 = vE →
 σ 26 = vF →
 σ 27 = vZ →
 σ 28 = .int .u64 (iv (σ 28)) →
 σ 29 = .int .u64 (iv (σ 29)) →
 σ 31 = .int .u64 (iv (σ 31)) →
 σ 32 = .int .u64 (iv (σ 32)) →
 σ 33 = vO →
 tI (σ 34) →
 0 ≤ iv (σ 34) →
 iv (σ 34) ≤ 4294967295 →
 tF (σ 35) →
 σ 36 = vE →
 σ 37 = vF →
 σ 38 = vZ →
 σ 39 = vO →
 tI (σ 40) →
 0 ≤ iv (σ 40) →
 iv (σ 40) ≤ 4294967295 →
 tF (σ 41) →
 σ 42 = vE →
 σ 43 = vF →
 σ 44 = vZ →
 tF (σ 45) →
 tF (σ 46) →
 σ 47 = vO →
 tF (σ 48) →
 σ 49 = vE →
 σ 50 = vF →
 σ 51 = vZ →
 fv (σ 24) = FloatKind.f64.nearest (iv (σ 23)) →
 fv (σ 11) = FloatKind.f64.nearest (iv (σ 10)) →
 extRel .fbits [σ 11] (σ 28) →
 ibin .andNot IntKind.u64 (iv (σ 28)) (9223372036854775808) = some (.int IntKind.u64 (iv (σ 29))) →
 extRel .fbits [σ 24] (σ 31) →
 ibin .andNot IntKind.u64 (iv (σ 31)) (9223372036854775808) = some (.int IntKind.u64 (iv (σ 32))) →
 fv (σ 35) = FloatKind.f64.nearest (iv (σ 34)) →
 reckWR [σ 10, σ 11, vO, σ 34, σ 35, vE, vF, vZ] →
 fv (σ 41) = FloatKind.f64.nearest (iv (σ 40)) →
 reckWR [σ 23, σ 24, vO, σ 40, σ 41, vE, vF, vZ] →
 gcdR [(vG 0), σ 35, σ 45] →
 gcdR [σ 45, σ 41, σ 46] →
 reckR [σ 46, vO, σ 48, vE, vF, vZ] →
 iv (σ 10) ≠ 0 →
    gR [(vS #[71,67,68]), vU, vF, vF, vO, vO, vU, vZ, vZ, vO, σ 10, σ 11, vE, vF, vZ, vF, vF, vO, vO, vU, vZ, vZ, vO, σ 23, σ 24, vE, vF, vZ, vO, σ 48, vE, vF, vZ, vT]
def gR_L5 : Prop := ∀ σ : Nat → Value,
 σ 0 = (vS #[71,67,68]) →
 σ 2 = vF →
 σ 3 = vF →
 σ 4 = vO →
 σ 5 = vO →
 σ 7 = vZ →
 σ 8 = vZ →
 σ 9 = vO →
 tI (σ 10) →
 1 ≤ iv (σ 10) →
 iv (σ 10) ≤ 4294967295 →
 tF (σ 11) →
 σ 12 = vE →
 σ 13 = vF →
 σ 14 = vZ →
 σ 15 = vF →
 σ 16 = vF →
 σ 17 = vO →
 σ 18 = vO →
 σ 20 = vZ →
 σ 21 = vZ →
 σ 22 = vO →
 tI (σ 23) →
 1 ≤ iv (σ 23) →
 iv (σ 23) ≤ 4294967295 →
 tF (σ 24) →
 σ 25 = vE →
 σ 26 = vF →
 σ 27 = vZ →
 σ 28 = .int .u64 (iv (σ 28)) →
 σ 29 = .int .u64 (iv (σ 29)) →
 σ 31 = .int .u64 (iv (σ 31)) →
 σ 32 = .int .u64 (iv (σ 32)) →
 σ 33 = vO →
 tI (σ 34) →
 0 ≤ iv (σ 34) →
 iv (σ 34) ≤ 4294967295 →
 tF (σ 35) →
 σ 36 = vE →
 σ 37 = vF →
 σ 38 = vZ →
 σ 39 = vO →
 tI (σ 40) →
 0 ≤ iv (σ 40) →
 iv (σ 40) ≤ 4294967295 →
 tF (σ 41) →
 σ 42 = vE →
 σ 43 = vF →
 σ 44 = vZ →
 tF (σ 45) →
 tF (σ 46) →
 fv (σ 24) = FloatKind.f64.nearest (iv (σ 23)) →
 fv (σ 11) = FloatKind.f64.nearest (iv (σ 10)) →
 extRel .fbits [σ 11] (σ 28) →
 ibin .andNot IntKind.u64 (iv (σ 28)) (9223372036854775808) = some (.int IntKind.u64 (iv (σ 29))) →
 extRel .fbits [σ 24] (σ 31) →
 ibin .andNot IntKind.u64 (iv (σ 31)) (9223372036854775808) = some (.int IntKind.u64 (iv (σ 32))) →
 fv (σ 35) = FloatKind.f64.nearest (iv (σ 34)) →
 reckWR [σ 10, σ 11, vO, σ 34, σ 35, vE, vF, vZ] →
 fv (σ 41) = FloatKind.f64.nearest (iv (σ 40)) →
 reckWR [σ 23, σ 24, vO, σ 40, σ 41, vE, vF, vZ] →
 gcdR [(vG 0), σ 35, σ 45] →
 gcdR [σ 45, σ 41, σ 46] →
 ¬ reckRPre [σ 46] →
 iv (σ 10) ≠ 0 →
    False
def gR_L6 : Prop := ∀ σ : Nat → Value,
 σ 0 = (vS #[71,67,68]) →
 σ 2 = vF →
 σ 3 = vF →
 σ 4 = vO →
 σ 5 = vO →
 σ 7 = vZ →
 σ 8 = vZ →
 σ 9 = vO →
 tI (σ 10) →
 1 ≤ iv (σ 10) →
 iv (σ 10) ≤ 4294967295 →
 tF (σ 11) →
 σ 12 = vE →
 σ 13 = vF →
 σ 14 = vZ →
 σ 15 = vF →
 σ 16 = vF →
 σ 17 = vO →
 σ 18 = vO →
 σ 20 = vZ →
 σ 21 = vZ →
 σ 22 = vO →
 tI (σ 23) →
 1 ≤ iv (σ 23) →
 iv (σ 23) ≤ 4294967295 →
 tF (σ 24) →
 σ 25 = vE →
 σ 26 = vF →
 σ 27 = vZ →
 σ 28 = .int .u64 (iv (σ 28)) →
 σ 29 = .int .u64 (iv (σ 29)) →
 σ 31 = .int .u64 (iv (σ 31)) →
 σ 32 = .int .u64 (iv (σ 32)) →
 σ 33 = vO →
 tI (σ 34) →
 0 ≤ iv (σ 34) →
 iv (σ 34) ≤ 4294967295 →
 tF (σ 35) →
 σ 36 = vE →
 σ 37 = vF →
 σ 38 = vZ →
 σ 39 = vO →
 tI (σ 40) →
 0 ≤ iv (σ 40) →
 iv (σ 40) ≤ 4294967295 →
 tF (σ 41) →
 σ 42 = vE →
 σ 43 = vF →
 σ 44 = vZ →
 tF (σ 45) →
 fv (σ 24) = FloatKind.f64.nearest (iv (σ 23)) →
 fv (σ 11) = FloatKind.f64.nearest (iv (σ 10)) →
 extRel .fbits [σ 11] (σ 28) →
 ibin .andNot IntKind.u64 (iv (σ 28)) (9223372036854775808) = some (.int IntKind.u64 (iv (σ 29))) →
 extRel .fbits [σ 24] (σ 31) →
 ibin .andNot IntKind.u64 (iv (σ 31)) (9223372036854775808) = some (.int IntKind.u64 (iv (σ 32))) →
 fv (σ 35) = FloatKind.f64.nearest (iv (σ 34)) →
 reckWR [σ 10, σ 11, vO, σ 34, σ 35, vE, vF, vZ] →
 fv (σ 41) = FloatKind.f64.nearest (iv (σ 40)) →
 reckWR [σ 23, σ 24, vO, σ 40, σ 41, vE, vF, vZ] →
 gcdR [(vG 0), σ 35, σ 45] →
 ¬ gcdRPre [σ 45, σ 41] →
 iv (σ 10) ≠ 0 →
    False
def gR_L7 : Prop := ∀ σ : Nat → Value,
 σ 0 = (vS #[71,67,68]) →
 σ 2 = vF →
 σ 3 = vF →
 σ 4 = vO →
 σ 5 = vO →
 σ 7 = vZ →
 σ 8 = vZ →
 σ 9 = vO →
 tI (σ 10) →
 1 ≤ iv (σ 10) →
 iv (σ 10) ≤ 4294967295 →
 tF (σ 11) →
 σ 12 = vE →
 σ 13 = vF →
 σ 14 = vZ →
 σ 15 = vF →
 σ 16 = vF →
 σ 17 = vO →
 σ 18 = vO →
 σ 20 = vZ →
 σ 21 = vZ →
 σ 22 = vO →
 tI (σ 23) →
 1 ≤ iv (σ 23) →
 iv (σ 23) ≤ 4294967295 →
 tF (σ 24) →
 σ 25 = vE →
 σ 26 = vF →
 σ 27 = vZ →
 σ 28 = .int .u64 (iv (σ 28)) →
 σ 29 = .int .u64 (iv (σ 29)) →
 σ 31 = .int .u64 (iv (σ 31)) →
 σ 32 = .int .u64 (iv (σ 32)) →
 σ 33 = vO →
 tI (σ 34) →
 0 ≤ iv (σ 34) →
 iv (σ 34) ≤ 4294967295 →
 tF (σ 35) →
 σ 36 = vE →
 σ 37 = vF →
 σ 38 = vZ →
 σ 39 = vO →
 tI (σ 40) →
 0 ≤ iv (σ 40) →
 iv (σ 40) ≤ 4294967295 →
 tF (σ 41) →
 σ 42 = vE →
 σ 43 = vF →
 σ 44 = vZ →
 fv (σ 24) = FloatKind.f64.nearest (iv (σ 23)) →
 fv (σ 11) = FloatKind.f64.nearest (iv (σ 10)) →
 extRel .fbits [σ 11] (σ 28) →
 ibin .andNot IntKind.u64 (iv (σ 28)) (9223372036854775808) = some (.int IntKind.u64 (iv (σ 29))) →
 extRel .fbits [σ 24] (σ 31) →
 ibin .andNot IntKind.u64 (iv (σ 31)) (9223372036854775808) = some (.int IntKind.u64 (iv (σ 32))) →
 fv (σ 35) = FloatKind.f64.nearest (iv (σ 34)) →
 reckWR [σ 10, σ 11, vO, σ 34, σ 35, vE, vF, vZ] →
 fv (σ 41) = FloatKind.f64.nearest (iv (σ 40)) →
 reckWR [σ 23, σ 24, vO, σ 40, σ 41, vE, vF, vZ] →
 ¬ gcdRPre [(vG 0), σ 35] →
 iv (σ 10) ≠ 0 →
    False
theorem gR_tie : gC.goals (cfgB gC.base [gcdC, reckWC, reckC]) [] 2000 = (gR_L0 ∧ gR_L1 ∧ gR_L2 ∧ gR_L3 ∧ gR_L4 ∧ gR_L5 ∧ gR_L6 ∧ gR_L7 ∧ True) := by kernel_rfl
theorem gR_L0_ok : gR_L0 := by
  intro σ; intros
  have w10_ := ‹reckWR [σ 10, σ 11, vO, σ 34, σ 35, vE, vF, vZ]›
  have w10 : iv (σ 34) = iv (σ 10) := w10_
  have w23_ := ‹reckWR [σ 23, σ 24, vO, σ 40, σ 41, vE, vF, vZ]›
  have w23 : iv (σ 40) = iv (σ 23) := w23_
  have fx := ‹fv (σ 35) = FloatKind.f64.nearest (iv (σ 34))›
  have fy := ‹fv (σ 41) = FloatKind.f64.nearest (iv (σ 40))›
  obtain ⟨x, hx⟩ : ∃ x : Nat, iv (σ 10) = x := ⟨(iv (σ 10)).toNat, by omega⟩
  obtain ⟨y, hy⟩ : ∃ y : Nat, iv (σ 23) = y := ⟨(iv (σ 23)).toNat, by omega⟩
  rw [w10, hx] at fx
  rw [w23, hy] at fy
  have bx : x < 4294967296 := by omega
  have by_ : y < 4294967296 := by omega
  have fx : fv (σ 35) = nr x := fx
  have fy : fv (σ 41) = nr y := fy
  have g0 := ‹gcdR [vG 0, σ 35, σ 45]›
  have g1 : fv (σ 45) = nr (Nat.gcd 0 x) := g0 0 x (by decide) bx nr_zero.symm fx
  rw [Nat.gcd_zero_left] at g1
  have g2 := ‹gcdR [σ 45, σ 41, σ 46]›
  have g3 : fv (σ 46) = nr (Nat.gcd x y) := g2 x y bx by_ g1 fy
  have hle : Nat.gcd x y ≤ y := Nat.gcd_le_right x (by omega)
  have rr_ := ‹reckR _›
  have rr : fv (σ 48) = if sv (fv (σ 46)) = 0 then 0 else fv (σ 46) := rr_
  have e := reck_nr g3 (by omega) rr
  show fv (σ 48) = nr (Nat.gcd (iv (σ 10)).toNat (iv (σ 23)).toNat)
  rw [e, hx, hy]; rfl
theorem gR_L1_ok : gR_L1 := by
  intro σ; intros
  have w10_ := ‹reckWR [σ 10, σ 11, vO, σ 34, σ 35, vE, vF, vZ]›
  have w10 : iv (σ 34) = iv (σ 10) := w10_
  have w23_ := ‹reckWR [σ 23, σ 24, vO, σ 40, σ 41, vE, vF, vZ]›
  have w23 : iv (σ 40) = iv (σ 23) := w23_
  have fx := ‹fv (σ 35) = FloatKind.f64.nearest (iv (σ 34))›
  have fy := ‹fv (σ 41) = FloatKind.f64.nearest (iv (σ 40))›
  obtain ⟨x, hx⟩ : ∃ x : Nat, iv (σ 10) = x := ⟨(iv (σ 10)).toNat, by omega⟩
  obtain ⟨y, hy⟩ : ∃ y : Nat, iv (σ 23) = y := ⟨(iv (σ 23)).toNat, by omega⟩
  rw [w10, hx] at fx
  rw [w23, hy] at fy
  have bx : x < 4294967296 := by omega
  have by_ : y < 4294967296 := by omega
  have fx : fv (σ 35) = nr x := fx
  have fy : fv (σ 41) = nr y := fy
  have g0 := ‹gcdR [vG 0, σ 35, σ 45]›
  have g1 : fv (σ 45) = nr (Nat.gcd 0 x) := g0 0 x (by decide) bx nr_zero.symm fx
  rw [Nat.gcd_zero_left] at g1
  have g2 := ‹gcdR [σ 45, σ 41, σ 46]›
  have g3 : fv (σ 46) = nr (Nat.gcd x y) := g2 x y bx by_ g1 fy
  have hle : Nat.gcd x y ≤ y := Nat.gcd_le_right x (by omega)
  have p : Fin64 (fv (σ 46)) := by rw [g3]; exact (nr_sv (by omega)).1
  have n_ := ‹¬ reckRPre _›
  exact n_ p
theorem gR_L2_ok : gR_L2 := by
  intro σ; intros
  have w10_ := ‹reckWR [σ 10, σ 11, vO, σ 34, σ 35, vE, vF, vZ]›
  have w10 : iv (σ 34) = iv (σ 10) := w10_
  have w23_ := ‹reckWR [σ 23, σ 24, vO, σ 40, σ 41, vE, vF, vZ]›
  have w23 : iv (σ 40) = iv (σ 23) := w23_
  have fx := ‹fv (σ 35) = FloatKind.f64.nearest (iv (σ 34))›
  have fy := ‹fv (σ 41) = FloatKind.f64.nearest (iv (σ 40))›
  obtain ⟨x, hx⟩ : ∃ x : Nat, iv (σ 10) = x := ⟨(iv (σ 10)).toNat, by omega⟩
  obtain ⟨y, hy⟩ : ∃ y : Nat, iv (σ 23) = y := ⟨(iv (σ 23)).toNat, by omega⟩
  rw [w10, hx] at fx
  rw [w23, hy] at fy
  have bx : x < 4294967296 := by omega
  have by_ : y < 4294967296 := by omega
  have fx : fv (σ 35) = nr x := fx
  have fy : fv (σ 41) = nr y := fy
  have g0 := ‹gcdR [vG 0, σ 35, σ 45]›
  have g1 : fv (σ 45) = nr (Nat.gcd 0 x) := g0 0 x (by decide) bx nr_zero.symm fx
  rw [Nat.gcd_zero_left] at g1
  have n_ := ‹¬ gcdRPre _›
  exact n_ ⟨x, y, bx, by_, g1, fy⟩
theorem gR_L3_ok : gR_L3 := by
  intro σ; intros
  have w10_ := ‹reckWR [σ 10, σ 11, vO, σ 34, σ 35, vE, vF, vZ]›
  have w10 : iv (σ 34) = iv (σ 10) := w10_
  have w23_ := ‹reckWR [σ 23, σ 24, vO, σ 40, σ 41, vE, vF, vZ]›
  have w23 : iv (σ 40) = iv (σ 23) := w23_
  have fx := ‹fv (σ 35) = FloatKind.f64.nearest (iv (σ 34))›
  have fy := ‹fv (σ 41) = FloatKind.f64.nearest (iv (σ 40))›
  obtain ⟨x, hx⟩ : ∃ x : Nat, iv (σ 10) = x := ⟨(iv (σ 10)).toNat, by omega⟩
  obtain ⟨y, hy⟩ : ∃ y : Nat, iv (σ 23) = y := ⟨(iv (σ 23)).toNat, by omega⟩
  rw [w10, hx] at fx
  rw [w23, hy] at fy
  have bx : x < 4294967296 := by omega
  have by_ : y < 4294967296 := by omega
  have fx : fv (σ 35) = nr x := fx
  have fy : fv (σ 41) = nr y := fy
  have z0 : fv (.float .f64 0) = nr 0 := nr_zero.symm
  have n_ := ‹¬ gcdRPre _›
  exact n_ ⟨0, x, by decide, bx, z0, fx⟩
theorem gR_L4_ok : gR_L4 := by
  intro σ; intros
  have w10_ := ‹reckWR [σ 10, σ 11, vO, σ 34, σ 35, vE, vF, vZ]›
  have w10 : iv (σ 34) = iv (σ 10) := w10_
  have w23_ := ‹reckWR [σ 23, σ 24, vO, σ 40, σ 41, vE, vF, vZ]›
  have w23 : iv (σ 40) = iv (σ 23) := w23_
  have fx := ‹fv (σ 35) = FloatKind.f64.nearest (iv (σ 34))›
  have fy := ‹fv (σ 41) = FloatKind.f64.nearest (iv (σ 40))›
  obtain ⟨x, hx⟩ : ∃ x : Nat, iv (σ 10) = x := ⟨(iv (σ 10)).toNat, by omega⟩
  obtain ⟨y, hy⟩ : ∃ y : Nat, iv (σ 23) = y := ⟨(iv (σ 23)).toNat, by omega⟩
  rw [w10, hx] at fx
  rw [w23, hy] at fy
  have bx : x < 4294967296 := by omega
  have by_ : y < 4294967296 := by omega
  have fx : fv (σ 35) = nr x := fx
  have fy : fv (σ 41) = nr y := fy
  have g0 := ‹gcdR [vG 0, σ 35, σ 45]›
  have g1 : fv (σ 45) = nr (Nat.gcd 0 x) := g0 0 x (by decide) bx nr_zero.symm fx
  rw [Nat.gcd_zero_left] at g1
  have g2 := ‹gcdR [σ 45, σ 41, σ 46]›
  have g3 : fv (σ 46) = nr (Nat.gcd x y) := g2 x y bx by_ g1 fy
  have hle : Nat.gcd x y ≤ y := Nat.gcd_le_right x (by omega)
  have rr_ := ‹reckR _›
  have rr : fv (σ 48) = if sv (fv (σ 46)) = 0 then 0 else fv (σ 46) := rr_
  have e := reck_nr g3 (by omega) rr
  show fv (σ 48) = nr (Nat.gcd (iv (σ 10)).toNat (iv (σ 23)).toNat)
  rw [e, hx, hy]; rfl
theorem gR_L5_ok : gR_L5 := by
  intro σ; intros
  have w10_ := ‹reckWR [σ 10, σ 11, vO, σ 34, σ 35, vE, vF, vZ]›
  have w10 : iv (σ 34) = iv (σ 10) := w10_
  have w23_ := ‹reckWR [σ 23, σ 24, vO, σ 40, σ 41, vE, vF, vZ]›
  have w23 : iv (σ 40) = iv (σ 23) := w23_
  have fx := ‹fv (σ 35) = FloatKind.f64.nearest (iv (σ 34))›
  have fy := ‹fv (σ 41) = FloatKind.f64.nearest (iv (σ 40))›
  obtain ⟨x, hx⟩ : ∃ x : Nat, iv (σ 10) = x := ⟨(iv (σ 10)).toNat, by omega⟩
  obtain ⟨y, hy⟩ : ∃ y : Nat, iv (σ 23) = y := ⟨(iv (σ 23)).toNat, by omega⟩
  rw [w10, hx] at fx
  rw [w23, hy] at fy
  have bx : x < 4294967296 := by omega
  have by_ : y < 4294967296 := by omega
  have fx : fv (σ 35) = nr x := fx
  have fy : fv (σ 41) = nr y := fy
  have g0 := ‹gcdR [vG 0, σ 35, σ 45]›
  have g1 : fv (σ 45) = nr (Nat.gcd 0 x) := g0 0 x (by decide) bx nr_zero.symm fx
  rw [Nat.gcd_zero_left] at g1
  have g2 := ‹gcdR [σ 45, σ 41, σ 46]›
  have g3 : fv (σ 46) = nr (Nat.gcd x y) := g2 x y bx by_ g1 fy
  have hle : Nat.gcd x y ≤ y := Nat.gcd_le_right x (by omega)
  have p : Fin64 (fv (σ 46)) := by rw [g3]; exact (nr_sv (by omega)).1
  have n_ := ‹¬ reckRPre _›
  exact n_ p
theorem gR_L6_ok : gR_L6 := by
  intro σ; intros
  have w10_ := ‹reckWR [σ 10, σ 11, vO, σ 34, σ 35, vE, vF, vZ]›
  have w10 : iv (σ 34) = iv (σ 10) := w10_
  have w23_ := ‹reckWR [σ 23, σ 24, vO, σ 40, σ 41, vE, vF, vZ]›
  have w23 : iv (σ 40) = iv (σ 23) := w23_
  have fx := ‹fv (σ 35) = FloatKind.f64.nearest (iv (σ 34))›
  have fy := ‹fv (σ 41) = FloatKind.f64.nearest (iv (σ 40))›
  obtain ⟨x, hx⟩ : ∃ x : Nat, iv (σ 10) = x := ⟨(iv (σ 10)).toNat, by omega⟩
  obtain ⟨y, hy⟩ : ∃ y : Nat, iv (σ 23) = y := ⟨(iv (σ 23)).toNat, by omega⟩
  rw [w10, hx] at fx
  rw [w23, hy] at fy
  have bx : x < 4294967296 := by omega
  have by_ : y < 4294967296 := by omega
  have fx : fv (σ 35) = nr x := fx
  have fy : fv (σ 41) = nr y := fy
  have g0 := ‹gcdR [vG 0, σ 35, σ 45]›
  have g1 : fv (σ 45) = nr (Nat.gcd 0 x) := g0 0 x (by decide) bx nr_zero.symm fx
  rw [Nat.gcd_zero_left] at g1
  have n_ := ‹¬ gcdRPre _›
  exact n_ ⟨x, y, bx, by_, g1, fy⟩
theorem gR_L7_ok : gR_L7 := by
  intro σ; intros
  have w10_ := ‹reckWR [σ 10, σ 11, vO, σ 34, σ 35, vE, vF, vZ]›
  have w10 : iv (σ 34) = iv (σ 10) := w10_
  have w23_ := ‹reckWR [σ 23, σ 24, vO, σ 40, σ 41, vE, vF, vZ]›
  have w23 : iv (σ 40) = iv (σ 23) := w23_
  have fx := ‹fv (σ 35) = FloatKind.f64.nearest (iv (σ 34))›
  have fy := ‹fv (σ 41) = FloatKind.f64.nearest (iv (σ 40))›
  obtain ⟨x, hx⟩ : ∃ x : Nat, iv (σ 10) = x := ⟨(iv (σ 10)).toNat, by omega⟩
  obtain ⟨y, hy⟩ : ∃ y : Nat, iv (σ 23) = y := ⟨(iv (σ 23)).toNat, by omega⟩
  rw [w10, hx] at fx
  rw [w23, hy] at fy
  have bx : x < 4294967296 := by omega
  have by_ : y < 4294967296 := by omega
  have fx : fv (σ 35) = nr x := fx
  have fy : fv (σ 41) = nr y := fy
  have z0 : fv (.float .f64 0) = nr 0 := nr_zero.symm
  have n_ := ‹¬ gcdRPre _›
  exact n_ ⟨0, x, by decide, bx, z0, fx⟩
theorem g_ok : gC.ok Tryz.prog All :=
  by_tie gR_tie (by kernel_rfl) (all_cons gcd_ok (all_cons reckW_ok (all_cons reck_ok all_nil))) ⟨gR_L0_ok, gR_L1_ok, gR_L2_ok, gR_L3_ok, gR_L4_ok, gR_L5_ok, gR_L6_ok, gR_L7_ok, trivial⟩
end Go.Proofs.Dv
