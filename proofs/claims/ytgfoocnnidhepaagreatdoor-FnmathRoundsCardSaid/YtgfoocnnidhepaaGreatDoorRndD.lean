/- ROUNDDOWN of a number of 64ths. -/
import Derived.Test.YtgfoocnnidhepaaGreatDoorRndA
namespace Go.Proofs.Rnd
open Go.Ev Go.RowKit Ieee Go.Proofs.YtgfoocnnidhepaaGreatDoor
set_option maxRecDepth 1000000
def dnR_L0 : Prop := ∀ σ : Nat → Value,
 σ 0 = (vS #[82,79,85,78,68,68,79,87,78]) →
 σ 2 = vF →
 σ 3 = vF →
 σ 4 = vO →
 σ 5 = vO →
 σ 7 = vZ →
 σ 8 = vZ →
 σ 9 = vO →
 tF (σ 10) →
 σ 11 = vE →
 σ 12 = vF →
 σ 13 = vZ →
 σ 14 = vF →
 σ 15 = vF →
 σ 16 = vO →
 σ 17 = vO →
 σ 19 = vZ →
 σ 20 = vZ →
 σ 21 = vO →
 tI (σ 22) →
 0 ≤ iv (σ 22) →
 iv (σ 22) ≤ 3 →
 tF (σ 23) →
 σ 24 = vE →
 σ 25 = vF →
 σ 26 = vZ →
 fv (σ 23) = FloatKind.f64.nearest (iv (σ 22)) →
 dnRPre [(vS #[82,79,85,78,68,68,79,87,78]), vU, vF, vF, vO, vO, vU, vZ, vZ, vO, σ 10, vE, vF, vZ, vF, vF, vO, vO, vU, vZ, vZ, vO, σ 22, σ 23, vE, vF, vZ] →
 ¬ chkRPre [vO, σ 10, vE, vF, vZ] →
    False
def dnR_L1 : Prop := ∀ σ : Nat → Value,
 σ 0 = (vS #[82,79,85,78,68,68,79,87,78]) →
 σ 2 = vF →
 σ 3 = vF →
 σ 4 = vO →
 σ 5 = vO →
 σ 7 = vZ →
 σ 8 = vZ →
 σ 9 = vO →
 tF (σ 10) →
 σ 11 = vE →
 σ 12 = vF →
 σ 13 = vZ →
 σ 14 = vF →
 σ 15 = vF →
 σ 16 = vO →
 σ 17 = vO →
 σ 19 = vZ →
 σ 20 = vZ →
 σ 21 = vO →
 tI (σ 22) →
 0 ≤ iv (σ 22) →
 iv (σ 22) ≤ 3 →
 tF (σ 23) →
 σ 24 = vE →
 σ 25 = vF →
 σ 26 = vZ →
 σ 27 = vZ →
 σ 28 = vZ →
 σ 29 = vZ →
 σ 30 = vO →
 tF (σ 31) →
 σ 32 = vE →
 σ 33 = vF →
 σ 34 = vZ →
 σ 35 = vZ →
 σ 36 = vZ →
 σ 37 = vO →
 tI (σ 38) →
 0 ≤ iv (σ 38) →
 iv (σ 38) ≤ 3 →
 tF (σ 39) →
 σ 40 = vE →
 σ 41 = vF →
 σ 42 = vZ →
 tI (σ 43) →
 0 ≤ iv (σ 43) →
 iv (σ 43) ≤ 3 →
 tF (σ 44) →
 tI (σ 45) →
 3 ≤ iv (σ 45) →
 iv (σ 45) ≤ 3 →
 tF (σ 46) →
 tF (σ 50) →
 tF (σ 51) →
 σ 53 = vO →
 tF (σ 54) →
 σ 55 = vE →
 σ 56 = vF →
 σ 57 = vZ →
 fv (σ 23) = FloatKind.f64.nearest (iv (σ 22)) →
 dnRPre [(vS #[82,79,85,78,68,68,79,87,78]), vU, vF, vF, vO, vO, vU, vZ, vZ, vO, σ 10, vE, vF, vZ, vF, vF, vO, vO, vU, vZ, vZ, vO, σ 22, σ 23, vE, vF, vZ] →
 chkR [vO, σ 10, vE, vF, vZ, vZ] →
 chkWR [vO, σ 22, σ 23, vE, vF, vZ, vZ] →
 chkR [vO, σ 10, vE, vF, vZ, vZ] →
 asnR [vO, σ 10, vE, vF, vZ, vO, σ 31, vE, vF, vZ] →
 chkWR [vO, σ 22, σ 23, vE, vF, vZ, vZ] →
 chkWR [vO, σ 22, σ 23, vE, vF, vZ, vZ] →
 fv (σ 39) = FloatKind.f64.nearest (iv (σ 38)) →
 asnWR [vO, σ 22, σ 23, vE, vF, vZ, vO, σ 38, σ 39, vE, vF, vZ] →
 fv (σ 44) = FloatKind.f64.nearest (iv (σ 43)) →
 absWR [σ 38, σ 39, σ 43, σ 44] →
 fv (σ 46) = FloatKind.f64.nearest (iv (σ 45)) →
 absWR [σ 38, σ 39, σ 45, σ 46] →
 absR [σ 31, σ 50] →
 (farV .mul .f64 (fv (σ 50)) (4652007308841189376) = some (some (fv (σ 51))) ∨ (farV .mul .f64 (fv (σ 50)) (4652007308841189376) = some none ∧ Nan64 (fv (σ 51)))) →
 infR [σ 51, vZ, σ 52] →
 reckR [σ 31, vO, σ 54, vE, vF, vZ] →
 bv (σ 52) = true →
 2 < iv (σ 45) →
 1 < iv (σ 45) →
 0 < iv (σ 45) →
    dnR [(vS #[82,79,85,78,68,68,79,87,78]), vU, vF, vF, vO, vO, vU, vZ, vZ, vO, σ 10, vE, vF, vZ, vF, vF, vO, vO, vU, vZ, vZ, vO, σ 22, σ 23, vE, vF, vZ, vO, σ 54, vE, vF, vZ, vT]
def dnR_L2 : Prop := ∀ σ : Nat → Value,
 σ 0 = (vS #[82,79,85,78,68,68,79,87,78]) →
 σ 2 = vF →
 σ 3 = vF →
 σ 4 = vO →
 σ 5 = vO →
 σ 7 = vZ →
 σ 8 = vZ →
 σ 9 = vO →
 tF (σ 10) →
 σ 11 = vE →
 σ 12 = vF →
 σ 13 = vZ →
 σ 14 = vF →
 σ 15 = vF →
 σ 16 = vO →
 σ 17 = vO →
 σ 19 = vZ →
 σ 20 = vZ →
 σ 21 = vO →
 tI (σ 22) →
 0 ≤ iv (σ 22) →
 iv (σ 22) ≤ 3 →
 tF (σ 23) →
 σ 24 = vE →
 σ 25 = vF →
 σ 26 = vZ →
 σ 27 = vZ →
 σ 28 = vZ →
 σ 29 = vZ →
 σ 30 = vO →
 tF (σ 31) →
 σ 32 = vE →
 σ 33 = vF →
 σ 34 = vZ →
 σ 35 = vZ →
 σ 36 = vZ →
 σ 37 = vO →
 tI (σ 38) →
 0 ≤ iv (σ 38) →
 iv (σ 38) ≤ 3 →
 tF (σ 39) →
 σ 40 = vE →
 σ 41 = vF →
 σ 42 = vZ →
 tI (σ 43) →
 0 ≤ iv (σ 43) →
 iv (σ 43) ≤ 3 →
 tF (σ 44) →
 tI (σ 45) →
 3 ≤ iv (σ 45) →
 iv (σ 45) ≤ 3 →
 tF (σ 46) →
 tF (σ 50) →
 tF (σ 51) →
 fv (σ 23) = FloatKind.f64.nearest (iv (σ 22)) →
 dnRPre [(vS #[82,79,85,78,68,68,79,87,78]), vU, vF, vF, vO, vO, vU, vZ, vZ, vO, σ 10, vE, vF, vZ, vF, vF, vO, vO, vU, vZ, vZ, vO, σ 22, σ 23, vE, vF, vZ] →
 chkR [vO, σ 10, vE, vF, vZ, vZ] →
 chkWR [vO, σ 22, σ 23, vE, vF, vZ, vZ] →
 chkR [vO, σ 10, vE, vF, vZ, vZ] →
 asnR [vO, σ 10, vE, vF, vZ, vO, σ 31, vE, vF, vZ] →
 chkWR [vO, σ 22, σ 23, vE, vF, vZ, vZ] →
 chkWR [vO, σ 22, σ 23, vE, vF, vZ, vZ] →
 fv (σ 39) = FloatKind.f64.nearest (iv (σ 38)) →
 asnWR [vO, σ 22, σ 23, vE, vF, vZ, vO, σ 38, σ 39, vE, vF, vZ] →
 fv (σ 44) = FloatKind.f64.nearest (iv (σ 43)) →
 absWR [σ 38, σ 39, σ 43, σ 44] →
 fv (σ 46) = FloatKind.f64.nearest (iv (σ 45)) →
 absWR [σ 38, σ 39, σ 45, σ 46] →
 absR [σ 31, σ 50] →
 (farV .mul .f64 (fv (σ 50)) (4652007308841189376) = some (some (fv (σ 51))) ∨ (farV .mul .f64 (fv (σ 50)) (4652007308841189376) = some none ∧ Nan64 (fv (σ 51)))) →
 infR [σ 51, vZ, σ 52] →
 ¬ reckRPre [σ 31] →
 bv (σ 52) = true →
 2 < iv (σ 45) →
 1 < iv (σ 45) →
 0 < iv (σ 45) →
    False
def dnR_L3 : Prop := ∀ σ : Nat → Value,
 σ 0 = (vS #[82,79,85,78,68,68,79,87,78]) →
 σ 2 = vF →
 σ 3 = vF →
 σ 4 = vO →
 σ 5 = vO →
 σ 7 = vZ →
 σ 8 = vZ →
 σ 9 = vO →
 tF (σ 10) →
 σ 11 = vE →
 σ 12 = vF →
 σ 13 = vZ →
 σ 14 = vF →
 σ 15 = vF →
 σ 16 = vO →
 σ 17 = vO →
 σ 19 = vZ →
 σ 20 = vZ →
 σ 21 = vO →
 tI (σ 22) →
 0 ≤ iv (σ 22) →
 iv (σ 22) ≤ 3 →
 tF (σ 23) →
 σ 24 = vE →
 σ 25 = vF →
 σ 26 = vZ →
 σ 27 = vZ →
 σ 28 = vZ →
 σ 29 = vZ →
 σ 30 = vO →
 tF (σ 31) →
 σ 32 = vE →
 σ 33 = vF →
 σ 34 = vZ →
 σ 35 = vZ →
 σ 36 = vZ →
 σ 37 = vO →
 tI (σ 38) →
 0 ≤ iv (σ 38) →
 iv (σ 38) ≤ 3 →
 tF (σ 39) →
 σ 40 = vE →
 σ 41 = vF →
 σ 42 = vZ →
 tI (σ 43) →
 0 ≤ iv (σ 43) →
 iv (σ 43) ≤ 3 →
 tF (σ 44) →
 tI (σ 45) →
 3 ≤ iv (σ 45) →
 iv (σ 45) ≤ 3 →
 tF (σ 46) →
 tF (σ 50) →
 tF (σ 51) →
 tF (σ 53) →
 tF (σ 54) →
 tF (σ 56) →
 σ 57 = vO →
 tF (σ 58) →
 σ 59 = vE →
 σ 60 = vF →
 σ 61 = vZ →
 fv (σ 23) = FloatKind.f64.nearest (iv (σ 22)) →
 dnRPre [(vS #[82,79,85,78,68,68,79,87,78]), vU, vF, vF, vO, vO, vU, vZ, vZ, vO, σ 10, vE, vF, vZ, vF, vF, vO, vO, vU, vZ, vZ, vO, σ 22, σ 23, vE, vF, vZ] →
 chkR [vO, σ 10, vE, vF, vZ, vZ] →
 chkWR [vO, σ 22, σ 23, vE, vF, vZ, vZ] →
 chkR [vO, σ 10, vE, vF, vZ, vZ] →
 asnR [vO, σ 10, vE, vF, vZ, vO, σ 31, vE, vF, vZ] →
 chkWR [vO, σ 22, σ 23, vE, vF, vZ, vZ] →
 chkWR [vO, σ 22, σ 23, vE, vF, vZ, vZ] →
 fv (σ 39) = FloatKind.f64.nearest (iv (σ 38)) →
 asnWR [vO, σ 22, σ 23, vE, vF, vZ, vO, σ 38, σ 39, vE, vF, vZ] →
 fv (σ 44) = FloatKind.f64.nearest (iv (σ 43)) →
 absWR [σ 38, σ 39, σ 43, σ 44] →
 fv (σ 46) = FloatKind.f64.nearest (iv (σ 45)) →
 absWR [σ 38, σ 39, σ 45, σ 46] →
 absR [σ 31, σ 50] →
 (farV .mul .f64 (fv (σ 50)) (4652007308841189376) = some (some (fv (σ 51))) ∨ (farV .mul .f64 (fv (σ 50)) (4652007308841189376) = some none ∧ Nan64 (fv (σ 51)))) →
 infR [σ 51, vZ, σ 52] →
 extRel .floor [σ 51] (σ 53) →
 (farV .quo .f64 (fv (σ 53)) (4652007308841189376) = some (some (fv (σ 54))) ∨ (farV .quo .f64 (fv (σ 53)) (4652007308841189376) = some none ∧ Nan64 (fv (σ 54)))) →
 unV .neg (σ 54) = some (σ 56) →
 reckR [σ 56, vO, σ 58, vE, vF, vZ] →
 ford (fv (σ 31)) (0) = some .lt →
 bv (σ 52) = false →
 2 < iv (σ 45) →
 1 < iv (σ 45) →
 0 < iv (σ 45) →
    dnR [(vS #[82,79,85,78,68,68,79,87,78]), vU, vF, vF, vO, vO, vU, vZ, vZ, vO, σ 10, vE, vF, vZ, vF, vF, vO, vO, vU, vZ, vZ, vO, σ 22, σ 23, vE, vF, vZ, vO, σ 58, vE, vF, vZ, vT]
def dnR_L4 : Prop := ∀ σ : Nat → Value,
 σ 0 = (vS #[82,79,85,78,68,68,79,87,78]) →
 σ 2 = vF →
 σ 3 = vF →
 σ 4 = vO →
 σ 5 = vO →
 σ 7 = vZ →
 σ 8 = vZ →
 σ 9 = vO →
 tF (σ 10) →
 σ 11 = vE →
 σ 12 = vF →
 σ 13 = vZ →
 σ 14 = vF →
 σ 15 = vF →
 σ 16 = vO →
 σ 17 = vO →
 σ 19 = vZ →
 σ 20 = vZ →
 σ 21 = vO →
 tI (σ 22) →
 0 ≤ iv (σ 22) →
 iv (σ 22) ≤ 3 →
 tF (σ 23) →
 σ 24 = vE →
 σ 25 = vF →
 σ 26 = vZ →
 σ 27 = vZ →
 σ 28 = vZ →
 σ 29 = vZ →
 σ 30 = vO →
 tF (σ 31) →
 σ 32 = vE →
 σ 33 = vF →
 σ 34 = vZ →
 σ 35 = vZ →
 σ 36 = vZ →
 σ 37 = vO →
 tI (σ 38) →
 0 ≤ iv (σ 38) →
 iv (σ 38) ≤ 3 →
 tF (σ 39) →
 σ 40 = vE →
 σ 41 = vF →
 σ 42 = vZ →
 tI (σ 43) →
 0 ≤ iv (σ 43) →
 iv (σ 43) ≤ 3 →
 tF (σ 44) →
 tI (σ 45) →
 3 ≤ iv (σ 45) →
 iv (σ 45) ≤ 3 →
 tF (σ 46) →
 tF (σ 50) →
 tF (σ 51) →
 tF (σ 53) →
 tF (σ 54) →
 tF (σ 56) →
 fv (σ 23) = FloatKind.f64.nearest (iv (σ 22)) →
 dnRPre [(vS #[82,79,85,78,68,68,79,87,78]), vU, vF, vF, vO, vO, vU, vZ, vZ, vO, σ 10, vE, vF, vZ, vF, vF, vO, vO, vU, vZ, vZ, vO, σ 22, σ 23, vE, vF, vZ] →
 chkR [vO, σ 10, vE, vF, vZ, vZ] →
 chkWR [vO, σ 22, σ 23, vE, vF, vZ, vZ] →
 chkR [vO, σ 10, vE, vF, vZ, vZ] →
 asnR [vO, σ 10, vE, vF, vZ, vO, σ 31, vE, vF, vZ] →
 chkWR [vO, σ 22, σ 23, vE, vF, vZ, vZ] →
 chkWR [vO, σ 22, σ 23, vE, vF, vZ, vZ] →
 fv (σ 39) = FloatKind.f64.nearest (iv (σ 38)) →
 asnWR [vO, σ 22, σ 23, vE, vF, vZ, vO, σ 38, σ 39, vE, vF, vZ] →
 fv (σ 44) = FloatKind.f64.nearest (iv (σ 43)) →
 absWR [σ 38, σ 39, σ 43, σ 44] →
 fv (σ 46) = FloatKind.f64.nearest (iv (σ 45)) →
 absWR [σ 38, σ 39, σ 45, σ 46] →
 absR [σ 31, σ 50] →
 (farV .mul .f64 (fv (σ 50)) (4652007308841189376) = some (some (fv (σ 51))) ∨ (farV .mul .f64 (fv (σ 50)) (4652007308841189376) = some none ∧ Nan64 (fv (σ 51)))) →
 infR [σ 51, vZ, σ 52] →
 extRel .floor [σ 51] (σ 53) →
 (farV .quo .f64 (fv (σ 53)) (4652007308841189376) = some (some (fv (σ 54))) ∨ (farV .quo .f64 (fv (σ 53)) (4652007308841189376) = some none ∧ Nan64 (fv (σ 54)))) →
 unV .neg (σ 54) = some (σ 56) →
 ¬ reckRPre [σ 56] →
 ford (fv (σ 31)) (0) = some .lt →
 bv (σ 52) = false →
 2 < iv (σ 45) →
 1 < iv (σ 45) →
 0 < iv (σ 45) →
    False
def dnR_L5 : Prop := ∀ σ : Nat → Value,
 σ 0 = (vS #[82,79,85,78,68,68,79,87,78]) →
 σ 2 = vF →
 σ 3 = vF →
 σ 4 = vO →
 σ 5 = vO →
 σ 7 = vZ →
 σ 8 = vZ →
 σ 9 = vO →
 tF (σ 10) →
 σ 11 = vE →
 σ 12 = vF →
 σ 13 = vZ →
 σ 14 = vF →
 σ 15 = vF →
 σ 16 = vO →
 σ 17 = vO →
 σ 19 = vZ →
 σ 20 = vZ →
 σ 21 = vO →
 tI (σ 22) →
 0 ≤ iv (σ 22) →
 iv (σ 22) ≤ 3 →
 tF (σ 23) →
 σ 24 = vE →
 σ 25 = vF →
 σ 26 = vZ →
 σ 27 = vZ →
 σ 28 = vZ →
 σ 29 = vZ →
 σ 30 = vO →
 tF (σ 31) →
 σ 32 = vE →
 σ 33 = vF →
 σ 34 = vZ →
 σ 35 = vZ →
 σ 36 = vZ →
 σ 37 = vO →
 tI (σ 38) →
 0 ≤ iv (σ 38) →
 iv (σ 38) ≤ 3 →
 tF (σ 39) →
 σ 40 = vE →
 σ 41 = vF →
 σ 42 = vZ →
 tI (σ 43) →
 0 ≤ iv (σ 43) →
 iv (σ 43) ≤ 3 →
 tF (σ 44) →
 tI (σ 45) →
 3 ≤ iv (σ 45) →
 iv (σ 45) ≤ 3 →
 tF (σ 46) →
 tF (σ 50) →
 tF (σ 51) →
 tF (σ 53) →
 tF (σ 54) →
 σ 56 = vO →
 tF (σ 57) →
 σ 58 = vE →
 σ 59 = vF →
 σ 60 = vZ →
 fv (σ 23) = FloatKind.f64.nearest (iv (σ 22)) →
 dnRPre [(vS #[82,79,85,78,68,68,79,87,78]), vU, vF, vF, vO, vO, vU, vZ, vZ, vO, σ 10, vE, vF, vZ, vF, vF, vO, vO, vU, vZ, vZ, vO, σ 22, σ 23, vE, vF, vZ] →
 chkR [vO, σ 10, vE, vF, vZ, vZ] →
 chkWR [vO, σ 22, σ 23, vE, vF, vZ, vZ] →
 chkR [vO, σ 10, vE, vF, vZ, vZ] →
 asnR [vO, σ 10, vE, vF, vZ, vO, σ 31, vE, vF, vZ] →
 chkWR [vO, σ 22, σ 23, vE, vF, vZ, vZ] →
 chkWR [vO, σ 22, σ 23, vE, vF, vZ, vZ] →
 fv (σ 39) = FloatKind.f64.nearest (iv (σ 38)) →
 asnWR [vO, σ 22, σ 23, vE, vF, vZ, vO, σ 38, σ 39, vE, vF, vZ] →
 fv (σ 44) = FloatKind.f64.nearest (iv (σ 43)) →
 absWR [σ 38, σ 39, σ 43, σ 44] →
 fv (σ 46) = FloatKind.f64.nearest (iv (σ 45)) →
 absWR [σ 38, σ 39, σ 45, σ 46] →
 absR [σ 31, σ 50] →
 (farV .mul .f64 (fv (σ 50)) (4652007308841189376) = some (some (fv (σ 51))) ∨ (farV .mul .f64 (fv (σ 50)) (4652007308841189376) = some none ∧ Nan64 (fv (σ 51)))) →
 infR [σ 51, vZ, σ 52] →
 extRel .floor [σ 51] (σ 53) →
 (farV .quo .f64 (fv (σ 53)) (4652007308841189376) = some (some (fv (σ 54))) ∨ (farV .quo .f64 (fv (σ 53)) (4652007308841189376) = some none ∧ Nan64 (fv (σ 54)))) →
 reckR [σ 54, vO, σ 57, vE, vF, vZ] →
 ford (fv (σ 31)) (0) ≠ some .lt →
 bv (σ 52) = false →
 2 < iv (σ 45) →
 1 < iv (σ 45) →
 0 < iv (σ 45) →
    dnR [(vS #[82,79,85,78,68,68,79,87,78]), vU, vF, vF, vO, vO, vU, vZ, vZ, vO, σ 10, vE, vF, vZ, vF, vF, vO, vO, vU, vZ, vZ, vO, σ 22, σ 23, vE, vF, vZ, vO, σ 57, vE, vF, vZ, vT]
def dnR_L6 : Prop := ∀ σ : Nat → Value,
 σ 0 = (vS #[82,79,85,78,68,68,79,87,78]) →
 σ 2 = vF →
 σ 3 = vF →
 σ 4 = vO →
 σ 5 = vO →
 σ 7 = vZ →
 σ 8 = vZ →
 σ 9 = vO →
 tF (σ 10) →
 σ 11 = vE →
 σ 12 = vF →
 σ 13 = vZ →
 σ 14 = vF →
 σ 15 = vF →
 σ 16 = vO →
 σ 17 = vO →
 σ 19 = vZ →
 σ 20 = vZ →
 σ 21 = vO →
 tI (σ 22) →
 0 ≤ iv (σ 22) →
 iv (σ 22) ≤ 3 →
 tF (σ 23) →
 σ 24 = vE →
 σ 25 = vF →
 σ 26 = vZ →
 σ 27 = vZ →
 σ 28 = vZ →
 σ 29 = vZ →
 σ 30 = vO →
 tF (σ 31) →
 σ 32 = vE →
 σ 33 = vF →
 σ 34 = vZ →
 σ 35 = vZ →
 σ 36 = vZ →
 σ 37 = vO →
 tI (σ 38) →
 0 ≤ iv (σ 38) →
 iv (σ 38) ≤ 3 →
 tF (σ 39) →
 σ 40 = vE →
 σ 41 = vF →
 σ 42 = vZ →
 tI (σ 43) →
 0 ≤ iv (σ 43) →
 iv (σ 43) ≤ 3 →
 tF (σ 44) →
 tI (σ 45) →
 3 ≤ iv (σ 45) →
 iv (σ 45) ≤ 3 →
 tF (σ 46) →
 tF (σ 50) →
 tF (σ 51) →
 tF (σ 53) →
 tF (σ 54) →
 fv (σ 23) = FloatKind.f64.nearest (iv (σ 22)) →
 dnRPre [(vS #[82,79,85,78,68,68,79,87,78]), vU, vF, vF, vO, vO, vU, vZ, vZ, vO, σ 10, vE, vF, vZ, vF, vF, vO, vO, vU, vZ, vZ, vO, σ 22, σ 23, vE, vF, vZ] →
 chkR [vO, σ 10, vE, vF, vZ, vZ] →
 chkWR [vO, σ 22, σ 23, vE, vF, vZ, vZ] →
 chkR [vO, σ 10, vE, vF, vZ, vZ] →
 asnR [vO, σ 10, vE, vF, vZ, vO, σ 31, vE, vF, vZ] →
 chkWR [vO, σ 22, σ 23, vE, vF, vZ, vZ] →
 chkWR [vO, σ 22, σ 23, vE, vF, vZ, vZ] →
 fv (σ 39) = FloatKind.f64.nearest (iv (σ 38)) →
 asnWR [vO, σ 22, σ 23, vE, vF, vZ, vO, σ 38, σ 39, vE, vF, vZ] →
 fv (σ 44) = FloatKind.f64.nearest (iv (σ 43)) →
 absWR [σ 38, σ 39, σ 43, σ 44] →
 fv (σ 46) = FloatKind.f64.nearest (iv (σ 45)) →
 absWR [σ 38, σ 39, σ 45, σ 46] →
 absR [σ 31, σ 50] →
 (farV .mul .f64 (fv (σ 50)) (4652007308841189376) = some (some (fv (σ 51))) ∨ (farV .mul .f64 (fv (σ 50)) (4652007308841189376) = some none ∧ Nan64 (fv (σ 51)))) →
 infR [σ 51, vZ, σ 52] →
 extRel .floor [σ 51] (σ 53) →
 (farV .quo .f64 (fv (σ 53)) (4652007308841189376) = some (some (fv (σ 54))) ∨ (farV .quo .f64 (fv (σ 53)) (4652007308841189376) = some none ∧ Nan64 (fv (σ 54)))) →
 ¬ reckRPre [σ 54] →
 ford (fv (σ 31)) (0) ≠ some .lt →
 bv (σ 52) = false →
 2 < iv (σ 45) →
 1 < iv (σ 45) →
 0 < iv (σ 45) →
    False
def dnR_L7 : Prop := ∀ σ : Nat → Value,
 σ 0 = (vS #[82,79,85,78,68,68,79,87,78]) →
 σ 2 = vF →
 σ 3 = vF →
 σ 4 = vO →
 σ 5 = vO →
 σ 7 = vZ →
 σ 8 = vZ →
 σ 9 = vO →
 tF (σ 10) →
 σ 11 = vE →
 σ 12 = vF →
 σ 13 = vZ →
 σ 14 = vF →
 σ 15 = vF →
 σ 16 = vO →
 σ 17 = vO →
 σ 19 = vZ →
 σ 20 = vZ →
 σ 21 = vO →
 tI (σ 22) →
 0 ≤ iv (σ 22) →
 iv (σ 22) ≤ 3 →
 tF (σ 23) →
 σ 24 = vE →
 σ 25 = vF →
 σ 26 = vZ →
 σ 27 = vZ →
 σ 28 = vZ →
 σ 29 = vZ →
 σ 30 = vO →
 tF (σ 31) →
 σ 32 = vE →
 σ 33 = vF →
 σ 34 = vZ →
 σ 35 = vZ →
 σ 36 = vZ →
 σ 37 = vO →
 tI (σ 38) →
 0 ≤ iv (σ 38) →
 iv (σ 38) ≤ 3 →
 tF (σ 39) →
 σ 40 = vE →
 σ 41 = vF →
 σ 42 = vZ →
 tI (σ 43) →
 0 ≤ iv (σ 43) →
 iv (σ 43) ≤ 3 →
 tF (σ 44) →
 tI (σ 45) →
 3 ≤ iv (σ 45) →
 iv (σ 45) ≤ 3 →
 tF (σ 46) →
 tF (σ 50) →
 tF (σ 51) →
 fv (σ 23) = FloatKind.f64.nearest (iv (σ 22)) →
 dnRPre [(vS #[82,79,85,78,68,68,79,87,78]), vU, vF, vF, vO, vO, vU, vZ, vZ, vO, σ 10, vE, vF, vZ, vF, vF, vO, vO, vU, vZ, vZ, vO, σ 22, σ 23, vE, vF, vZ] →
 chkR [vO, σ 10, vE, vF, vZ, vZ] →
 chkWR [vO, σ 22, σ 23, vE, vF, vZ, vZ] →
 chkR [vO, σ 10, vE, vF, vZ, vZ] →
 asnR [vO, σ 10, vE, vF, vZ, vO, σ 31, vE, vF, vZ] →
 chkWR [vO, σ 22, σ 23, vE, vF, vZ, vZ] →
 chkWR [vO, σ 22, σ 23, vE, vF, vZ, vZ] →
 fv (σ 39) = FloatKind.f64.nearest (iv (σ 38)) →
 asnWR [vO, σ 22, σ 23, vE, vF, vZ, vO, σ 38, σ 39, vE, vF, vZ] →
 fv (σ 44) = FloatKind.f64.nearest (iv (σ 43)) →
 absWR [σ 38, σ 39, σ 43, σ 44] →
 fv (σ 46) = FloatKind.f64.nearest (iv (σ 45)) →
 absWR [σ 38, σ 39, σ 45, σ 46] →
 absR [σ 31, σ 50] →
 (farV .mul .f64 (fv (σ 50)) (4652007308841189376) = some (some (fv (σ 51))) ∨ (farV .mul .f64 (fv (σ 50)) (4652007308841189376) = some none ∧ Nan64 (fv (σ 51)))) →
 ¬ infRPre [σ 51, vZ] →
 2 < iv (σ 45) →
 1 < iv (σ 45) →
 0 < iv (σ 45) →
    False
def dnR_L8 : Prop := ∀ σ : Nat → Value,
 σ 0 = (vS #[82,79,85,78,68,68,79,87,78]) →
 σ 2 = vF →
 σ 3 = vF →
 σ 4 = vO →
 σ 5 = vO →
 σ 7 = vZ →
 σ 8 = vZ →
 σ 9 = vO →
 tF (σ 10) →
 σ 11 = vE →
 σ 12 = vF →
 σ 13 = vZ →
 σ 14 = vF →
 σ 15 = vF →
 σ 16 = vO →
 σ 17 = vO →
 σ 19 = vZ →
 σ 20 = vZ →
 σ 21 = vO →
 tI (σ 22) →
 0 ≤ iv (σ 22) →
 iv (σ 22) ≤ 3 →
 tF (σ 23) →
 σ 24 = vE →
 σ 25 = vF →
 σ 26 = vZ →
 σ 27 = vZ →
 σ 28 = vZ →
 σ 29 = vZ →
 σ 30 = vO →
 tF (σ 31) →
 σ 32 = vE →
 σ 33 = vF →
 σ 34 = vZ →
 σ 35 = vZ →
 σ 36 = vZ →
 σ 37 = vO →
 tI (σ 38) →
 0 ≤ iv (σ 38) →
 iv (σ 38) ≤ 3 →
 tF (σ 39) →
 σ 40 = vE →
 σ 41 = vF →
 σ 42 = vZ →
 tI (σ 43) →
 0 ≤ iv (σ 43) →
 iv (σ 43) ≤ 3 →
 tF (σ 44) →
 tI (σ 45) →
 2 ≤ iv (σ 45) →
 iv (σ 45) ≤ 2 →
 tF (σ 46) →
 tF (σ 50) →
 tF (σ 51) →
 σ 53 = vO →
 tF (σ 54) →
 σ 55 = vE →
 σ 56 = vF →
 σ 57 = vZ →
 fv (σ 23) = FloatKind.f64.nearest (iv (σ 22)) →
 dnRPre [(vS #[82,79,85,78,68,68,79,87,78]), vU, vF, vF, vO, vO, vU, vZ, vZ, vO, σ 10, vE, vF, vZ, vF, vF, vO, vO, vU, vZ, vZ, vO, σ 22, σ 23, vE, vF, vZ] →
 chkR [vO, σ 10, vE, vF, vZ, vZ] →
 chkWR [vO, σ 22, σ 23, vE, vF, vZ, vZ] →
 chkR [vO, σ 10, vE, vF, vZ, vZ] →
 asnR [vO, σ 10, vE, vF, vZ, vO, σ 31, vE, vF, vZ] →
 chkWR [vO, σ 22, σ 23, vE, vF, vZ, vZ] →
 chkWR [vO, σ 22, σ 23, vE, vF, vZ, vZ] →
 fv (σ 39) = FloatKind.f64.nearest (iv (σ 38)) →
 asnWR [vO, σ 22, σ 23, vE, vF, vZ, vO, σ 38, σ 39, vE, vF, vZ] →
 fv (σ 44) = FloatKind.f64.nearest (iv (σ 43)) →
 absWR [σ 38, σ 39, σ 43, σ 44] →
 fv (σ 46) = FloatKind.f64.nearest (iv (σ 45)) →
 absWR [σ 38, σ 39, σ 45, σ 46] →
 absR [σ 31, σ 50] →
 (farV .mul .f64 (fv (σ 50)) (4636737291354636288) = some (some (fv (σ 51))) ∨ (farV .mul .f64 (fv (σ 50)) (4636737291354636288) = some none ∧ Nan64 (fv (σ 51)))) →
 infR [σ 51, vZ, σ 52] →
 reckR [σ 31, vO, σ 54, vE, vF, vZ] →
 bv (σ 52) = true →
 iv (σ 45) ≤ 2 →
 1 < iv (σ 45) →
 0 < iv (σ 45) →
    dnR [(vS #[82,79,85,78,68,68,79,87,78]), vU, vF, vF, vO, vO, vU, vZ, vZ, vO, σ 10, vE, vF, vZ, vF, vF, vO, vO, vU, vZ, vZ, vO, σ 22, σ 23, vE, vF, vZ, vO, σ 54, vE, vF, vZ, vT]
def dnR_L9 : Prop := ∀ σ : Nat → Value,
 σ 0 = (vS #[82,79,85,78,68,68,79,87,78]) →
 σ 2 = vF →
 σ 3 = vF →
 σ 4 = vO →
 σ 5 = vO →
 σ 7 = vZ →
 σ 8 = vZ →
 σ 9 = vO →
 tF (σ 10) →
 σ 11 = vE →
 σ 12 = vF →
 σ 13 = vZ →
 σ 14 = vF →
 σ 15 = vF →
 σ 16 = vO →
 σ 17 = vO →
 σ 19 = vZ →
 σ 20 = vZ →
 σ 21 = vO →
 tI (σ 22) →
 0 ≤ iv (σ 22) →
 iv (σ 22) ≤ 3 →
 tF (σ 23) →
 σ 24 = vE →
 σ 25 = vF →
 σ 26 = vZ →
 σ 27 = vZ →
 σ 28 = vZ →
 σ 29 = vZ →
 σ 30 = vO →
 tF (σ 31) →
 σ 32 = vE →
 σ 33 = vF →
 σ 34 = vZ →
 σ 35 = vZ →
 σ 36 = vZ →
 σ 37 = vO →
 tI (σ 38) →
 0 ≤ iv (σ 38) →
 iv (σ 38) ≤ 3 →
 tF (σ 39) →
 σ 40 = vE →
 σ 41 = vF →
 σ 42 = vZ →
 tI (σ 43) →
 0 ≤ iv (σ 43) →
 iv (σ 43) ≤ 3 →
 tF (σ 44) →
 tI (σ 45) →
 2 ≤ iv (σ 45) →
 iv (σ 45) ≤ 2 →
 tF (σ 46) →
 tF (σ 50) →
 tF (σ 51) →
 fv (σ 23) = FloatKind.f64.nearest (iv (σ 22)) →
 dnRPre [(vS #[82,79,85,78,68,68,79,87,78]), vU, vF, vF, vO, vO, vU, vZ, vZ, vO, σ 10, vE, vF, vZ, vF, vF, vO, vO, vU, vZ, vZ, vO, σ 22, σ 23, vE, vF, vZ] →
 chkR [vO, σ 10, vE, vF, vZ, vZ] →
 chkWR [vO, σ 22, σ 23, vE, vF, vZ, vZ] →
 chkR [vO, σ 10, vE, vF, vZ, vZ] →
 asnR [vO, σ 10, vE, vF, vZ, vO, σ 31, vE, vF, vZ] →
 chkWR [vO, σ 22, σ 23, vE, vF, vZ, vZ] →
 chkWR [vO, σ 22, σ 23, vE, vF, vZ, vZ] →
 fv (σ 39) = FloatKind.f64.nearest (iv (σ 38)) →
 asnWR [vO, σ 22, σ 23, vE, vF, vZ, vO, σ 38, σ 39, vE, vF, vZ] →
 fv (σ 44) = FloatKind.f64.nearest (iv (σ 43)) →
 absWR [σ 38, σ 39, σ 43, σ 44] →
 fv (σ 46) = FloatKind.f64.nearest (iv (σ 45)) →
 absWR [σ 38, σ 39, σ 45, σ 46] →
 absR [σ 31, σ 50] →
 (farV .mul .f64 (fv (σ 50)) (4636737291354636288) = some (some (fv (σ 51))) ∨ (farV .mul .f64 (fv (σ 50)) (4636737291354636288) = some none ∧ Nan64 (fv (σ 51)))) →
 infR [σ 51, vZ, σ 52] →
 ¬ reckRPre [σ 31] →
 bv (σ 52) = true →
 iv (σ 45) ≤ 2 →
 1 < iv (σ 45) →
 0 < iv (σ 45) →
    False
def dnR_L10 : Prop := ∀ σ : Nat → Value,
 σ 0 = (vS #[82,79,85,78,68,68,79,87,78]) →
 σ 2 = vF →
 σ 3 = vF →
 σ 4 = vO →
 σ 5 = vO →
 σ 7 = vZ →
 σ 8 = vZ →
 σ 9 = vO →
 tF (σ 10) →
 σ 11 = vE →
 σ 12 = vF →
 σ 13 = vZ →
 σ 14 = vF →
 σ 15 = vF →
 σ 16 = vO →
 σ 17 = vO →
 σ 19 = vZ →
 σ 20 = vZ →
 σ 21 = vO →
 tI (σ 22) →
 0 ≤ iv (σ 22) →
 iv (σ 22) ≤ 3 →
 tF (σ 23) →
 σ 24 = vE →
 σ 25 = vF →
 σ 26 = vZ →
 σ 27 = vZ →
 σ 28 = vZ →
 σ 29 = vZ →
 σ 30 = vO →
 tF (σ 31) →
 σ 32 = vE →
 σ 33 = vF →
 σ 34 = vZ →
 σ 35 = vZ →
 σ 36 = vZ →
 σ 37 = vO →
 tI (σ 38) →
 0 ≤ iv (σ 38) →
 iv (σ 38) ≤ 3 →
 tF (σ 39) →
 σ 40 = vE →
 σ 41 = vF →
 σ 42 = vZ →
 tI (σ 43) →
 0 ≤ iv (σ 43) →
 iv (σ 43) ≤ 3 →
 tF (σ 44) →
 tI (σ 45) →
 2 ≤ iv (σ 45) →
 iv (σ 45) ≤ 2 →
 tF (σ 46) →
 tF (σ 50) →
 tF (σ 51) →
 tF (σ 53) →
 tF (σ 54) →
 tF (σ 56) →
 σ 57 = vO →
 tF (σ 58) →
 σ 59 = vE →
 σ 60 = vF →
 σ 61 = vZ →
 fv (σ 23) = FloatKind.f64.nearest (iv (σ 22)) →
 dnRPre [(vS #[82,79,85,78,68,68,79,87,78]), vU, vF, vF, vO, vO, vU, vZ, vZ, vO, σ 10, vE, vF, vZ, vF, vF, vO, vO, vU, vZ, vZ, vO, σ 22, σ 23, vE, vF, vZ] →
 chkR [vO, σ 10, vE, vF, vZ, vZ] →
 chkWR [vO, σ 22, σ 23, vE, vF, vZ, vZ] →
 chkR [vO, σ 10, vE, vF, vZ, vZ] →
 asnR [vO, σ 10, vE, vF, vZ, vO, σ 31, vE, vF, vZ] →
 chkWR [vO, σ 22, σ 23, vE, vF, vZ, vZ] →
 chkWR [vO, σ 22, σ 23, vE, vF, vZ, vZ] →
 fv (σ 39) = FloatKind.f64.nearest (iv (σ 38)) →
 asnWR [vO, σ 22, σ 23, vE, vF, vZ, vO, σ 38, σ 39, vE, vF, vZ] →
 fv (σ 44) = FloatKind.f64.nearest (iv (σ 43)) →
 absWR [σ 38, σ 39, σ 43, σ 44] →
 fv (σ 46) = FloatKind.f64.nearest (iv (σ 45)) →
 absWR [σ 38, σ 39, σ 45, σ 46] →
 absR [σ 31, σ 50] →
 (farV .mul .f64 (fv (σ 50)) (4636737291354636288) = some (some (fv (σ 51))) ∨ (farV .mul .f64 (fv (σ 50)) (4636737291354636288) = some none ∧ Nan64 (fv (σ 51)))) →
 infR [σ 51, vZ, σ 52] →
 extRel .floor [σ 51] (σ 53) →
 (farV .quo .f64 (fv (σ 53)) (4636737291354636288) = some (some (fv (σ 54))) ∨ (farV .quo .f64 (fv (σ 53)) (4636737291354636288) = some none ∧ Nan64 (fv (σ 54)))) →
 unV .neg (σ 54) = some (σ 56) →
 reckR [σ 56, vO, σ 58, vE, vF, vZ] →
 ford (fv (σ 31)) (0) = some .lt →
 bv (σ 52) = false →
 iv (σ 45) ≤ 2 →
 1 < iv (σ 45) →
 0 < iv (σ 45) →
    dnR [(vS #[82,79,85,78,68,68,79,87,78]), vU, vF, vF, vO, vO, vU, vZ, vZ, vO, σ 10, vE, vF, vZ, vF, vF, vO, vO, vU, vZ, vZ, vO, σ 22, σ 23, vE, vF, vZ, vO, σ 58, vE, vF, vZ, vT]
def dnR_L11 : Prop := ∀ σ : Nat → Value,
 σ 0 = (vS #[82,79,85,78,68,68,79,87,78]) →
 σ 2 = vF →
 σ 3 = vF →
 σ 4 = vO →
 σ 5 = vO →
 σ 7 = vZ →
 σ 8 = vZ →
 σ 9 = vO →
 tF (σ 10) →
 σ 11 = vE →
 σ 12 = vF →
 σ 13 = vZ →
 σ 14 = vF →
 σ 15 = vF →
 σ 16 = vO →
 σ 17 = vO →
 σ 19 = vZ →
 σ 20 = vZ →
 σ 21 = vO →
 tI (σ 22) →
 0 ≤ iv (σ 22) →
 iv (σ 22) ≤ 3 →
 tF (σ 23) →
 σ 24 = vE →
 σ 25 = vF →
 σ 26 = vZ →
 σ 27 = vZ →
 σ 28 = vZ →
 σ 29 = vZ →
 σ 30 = vO →
 tF (σ 31) →
 σ 32 = vE →
 σ 33 = vF →
 σ 34 = vZ →
 σ 35 = vZ →
 σ 36 = vZ →
 σ 37 = vO →
 tI (σ 38) →
 0 ≤ iv (σ 38) →
 iv (σ 38) ≤ 3 →
 tF (σ 39) →
 σ 40 = vE →
 σ 41 = vF →
 σ 42 = vZ →
 tI (σ 43) →
 0 ≤ iv (σ 43) →
 iv (σ 43) ≤ 3 →
 tF (σ 44) →
 tI (σ 45) →
 2 ≤ iv (σ 45) →
 iv (σ 45) ≤ 2 →
 tF (σ 46) →
 tF (σ 50) →
 tF (σ 51) →
 tF (σ 53) →
 tF (σ 54) →
 tF (σ 56) →
 fv (σ 23) = FloatKind.f64.nearest (iv (σ 22)) →
 dnRPre [(vS #[82,79,85,78,68,68,79,87,78]), vU, vF, vF, vO, vO, vU, vZ, vZ, vO, σ 10, vE, vF, vZ, vF, vF, vO, vO, vU, vZ, vZ, vO, σ 22, σ 23, vE, vF, vZ] →
 chkR [vO, σ 10, vE, vF, vZ, vZ] →
 chkWR [vO, σ 22, σ 23, vE, vF, vZ, vZ] →
 chkR [vO, σ 10, vE, vF, vZ, vZ] →
 asnR [vO, σ 10, vE, vF, vZ, vO, σ 31, vE, vF, vZ] →
 chkWR [vO, σ 22, σ 23, vE, vF, vZ, vZ] →
 chkWR [vO, σ 22, σ 23, vE, vF, vZ, vZ] →
 fv (σ 39) = FloatKind.f64.nearest (iv (σ 38)) →
 asnWR [vO, σ 22, σ 23, vE, vF, vZ, vO, σ 38, σ 39, vE, vF, vZ] →
 fv (σ 44) = FloatKind.f64.nearest (iv (σ 43)) →
 absWR [σ 38, σ 39, σ 43, σ 44] →
 fv (σ 46) = FloatKind.f64.nearest (iv (σ 45)) →
 absWR [σ 38, σ 39, σ 45, σ 46] →
 absR [σ 31, σ 50] →
 (farV .mul .f64 (fv (σ 50)) (4636737291354636288) = some (some (fv (σ 51))) ∨ (farV .mul .f64 (fv (σ 50)) (4636737291354636288) = some none ∧ Nan64 (fv (σ 51)))) →
 infR [σ 51, vZ, σ 52] →
 extRel .floor [σ 51] (σ 53) →
 (farV .quo .f64 (fv (σ 53)) (4636737291354636288) = some (some (fv (σ 54))) ∨ (farV .quo .f64 (fv (σ 53)) (4636737291354636288) = some none ∧ Nan64 (fv (σ 54)))) →
 unV .neg (σ 54) = some (σ 56) →
 ¬ reckRPre [σ 56] →
 ford (fv (σ 31)) (0) = some .lt →
 bv (σ 52) = false →
 iv (σ 45) ≤ 2 →
 1 < iv (σ 45) →
 0 < iv (σ 45) →
    False
def dnR_L12 : Prop := ∀ σ : Nat → Value,
 σ 0 = (vS #[82,79,85,78,68,68,79,87,78]) →
 σ 2 = vF →
 σ 3 = vF →
 σ 4 = vO →
 σ 5 = vO →
 σ 7 = vZ →
 σ 8 = vZ →
 σ 9 = vO →
 tF (σ 10) →
 σ 11 = vE →
 σ 12 = vF →
 σ 13 = vZ →
 σ 14 = vF →
 σ 15 = vF →
 σ 16 = vO →
 σ 17 = vO →
 σ 19 = vZ →
 σ 20 = vZ →
 σ 21 = vO →
 tI (σ 22) →
 0 ≤ iv (σ 22) →
 iv (σ 22) ≤ 3 →
 tF (σ 23) →
 σ 24 = vE →
 σ 25 = vF →
 σ 26 = vZ →
 σ 27 = vZ →
 σ 28 = vZ →
 σ 29 = vZ →
 σ 30 = vO →
 tF (σ 31) →
 σ 32 = vE →
 σ 33 = vF →
 σ 34 = vZ →
 σ 35 = vZ →
 σ 36 = vZ →
 σ 37 = vO →
 tI (σ 38) →
 0 ≤ iv (σ 38) →
 iv (σ 38) ≤ 3 →
 tF (σ 39) →
 σ 40 = vE →
 σ 41 = vF →
 σ 42 = vZ →
 tI (σ 43) →
 0 ≤ iv (σ 43) →
 iv (σ 43) ≤ 3 →
 tF (σ 44) →
 tI (σ 45) →
 2 ≤ iv (σ 45) →
 iv (σ 45) ≤ 2 →
 tF (σ 46) →
 tF (σ 50) →
 tF (σ 51) →
 tF (σ 53) →
 tF (σ 54) →
 σ 56 = vO →
 tF (σ 57) →
 σ 58 = vE →
 σ 59 = vF →
 σ 60 = vZ →
 fv (σ 23) = FloatKind.f64.nearest (iv (σ 22)) →
 dnRPre [(vS #[82,79,85,78,68,68,79,87,78]), vU, vF, vF, vO, vO, vU, vZ, vZ, vO, σ 10, vE, vF, vZ, vF, vF, vO, vO, vU, vZ, vZ, vO, σ 22, σ 23, vE, vF, vZ] →
 chkR [vO, σ 10, vE, vF, vZ, vZ] →
 chkWR [vO, σ 22, σ 23, vE, vF, vZ, vZ] →
 chkR [vO, σ 10, vE, vF, vZ, vZ] →
 asnR [vO, σ 10, vE, vF, vZ, vO, σ 31, vE, vF, vZ] →
 chkWR [vO, σ 22, σ 23, vE, vF, vZ, vZ] →
 chkWR [vO, σ 22, σ 23, vE, vF, vZ, vZ] →
 fv (σ 39) = FloatKind.f64.nearest (iv (σ 38)) →
 asnWR [vO, σ 22, σ 23, vE, vF, vZ, vO, σ 38, σ 39, vE, vF, vZ] →
 fv (σ 44) = FloatKind.f64.nearest (iv (σ 43)) →
 absWR [σ 38, σ 39, σ 43, σ 44] →
 fv (σ 46) = FloatKind.f64.nearest (iv (σ 45)) →
 absWR [σ 38, σ 39, σ 45, σ 46] →
 absR [σ 31, σ 50] →
 (farV .mul .f64 (fv (σ 50)) (4636737291354636288) = some (some (fv (σ 51))) ∨ (farV .mul .f64 (fv (σ 50)) (4636737291354636288) = some none ∧ Nan64 (fv (σ 51)))) →
 infR [σ 51, vZ, σ 52] →
 extRel .floor [σ 51] (σ 53) →
 (farV .quo .f64 (fv (σ 53)) (4636737291354636288) = some (some (fv (σ 54))) ∨ (farV .quo .f64 (fv (σ 53)) (4636737291354636288) = some none ∧ Nan64 (fv (σ 54)))) →
 reckR [σ 54, vO, σ 57, vE, vF, vZ] →
 ford (fv (σ 31)) (0) ≠ some .lt →
 bv (σ 52) = false →
 iv (σ 45) ≤ 2 →
 1 < iv (σ 45) →
 0 < iv (σ 45) →
    dnR [(vS #[82,79,85,78,68,68,79,87,78]), vU, vF, vF, vO, vO, vU, vZ, vZ, vO, σ 10, vE, vF, vZ, vF, vF, vO, vO, vU, vZ, vZ, vO, σ 22, σ 23, vE, vF, vZ, vO, σ 57, vE, vF, vZ, vT]
def dnR_L13 : Prop := ∀ σ : Nat → Value,
 σ 0 = (vS #[82,79,85,78,68,68,79,87,78]) →
 σ 2 = vF →
 σ 3 = vF →
 σ 4 = vO →
 σ 5 = vO →
 σ 7 = vZ →
 σ 8 = vZ →
 σ 9 = vO →
 tF (σ 10) →
 σ 11 = vE →
 σ 12 = vF →
 σ 13 = vZ →
 σ 14 = vF →
 σ 15 = vF →
 σ 16 = vO →
 σ 17 = vO →
 σ 19 = vZ →
 σ 20 = vZ →
 σ 21 = vO →
 tI (σ 22) →
 0 ≤ iv (σ 22) →
 iv (σ 22) ≤ 3 →
 tF (σ 23) →
 σ 24 = vE →
 σ 25 = vF →
 σ 26 = vZ →
 σ 27 = vZ →
 σ 28 = vZ →
 σ 29 = vZ →
 σ 30 = vO →
 tF (σ 31) →
 σ 32 = vE →
 σ 33 = vF →
 σ 34 = vZ →
 σ 35 = vZ →
 σ 36 = vZ →
 σ 37 = vO →
 tI (σ 38) →
 0 ≤ iv (σ 38) →
 iv (σ 38) ≤ 3 →
 tF (σ 39) →
 σ 40 = vE →
 σ 41 = vF →
 σ 42 = vZ →
 tI (σ 43) →
 0 ≤ iv (σ 43) →
 iv (σ 43) ≤ 3 →
 tF (σ 44) →
 tI (σ 45) →
 2 ≤ iv (σ 45) →
 iv (σ 45) ≤ 2 →
 tF (σ 46) →
 tF (σ 50) →
 tF (σ 51) →
 tF (σ 53) →
 tF (σ 54) →
 fv (σ 23) = FloatKind.f64.nearest (iv (σ 22)) →
 dnRPre [(vS #[82,79,85,78,68,68,79,87,78]), vU, vF, vF, vO, vO, vU, vZ, vZ, vO, σ 10, vE, vF, vZ, vF, vF, vO, vO, vU, vZ, vZ, vO, σ 22, σ 23, vE, vF, vZ] →
 chkR [vO, σ 10, vE, vF, vZ, vZ] →
 chkWR [vO, σ 22, σ 23, vE, vF, vZ, vZ] →
 chkR [vO, σ 10, vE, vF, vZ, vZ] →
 asnR [vO, σ 10, vE, vF, vZ, vO, σ 31, vE, vF, vZ] →
 chkWR [vO, σ 22, σ 23, vE, vF, vZ, vZ] →
 chkWR [vO, σ 22, σ 23, vE, vF, vZ, vZ] →
 fv (σ 39) = FloatKind.f64.nearest (iv (σ 38)) →
 asnWR [vO, σ 22, σ 23, vE, vF, vZ, vO, σ 38, σ 39, vE, vF, vZ] →
 fv (σ 44) = FloatKind.f64.nearest (iv (σ 43)) →
 absWR [σ 38, σ 39, σ 43, σ 44] →
 fv (σ 46) = FloatKind.f64.nearest (iv (σ 45)) →
 absWR [σ 38, σ 39, σ 45, σ 46] →
 absR [σ 31, σ 50] →
 (farV .mul .f64 (fv (σ 50)) (4636737291354636288) = some (some (fv (σ 51))) ∨ (farV .mul .f64 (fv (σ 50)) (4636737291354636288) = some none ∧ Nan64 (fv (σ 51)))) →
 infR [σ 51, vZ, σ 52] →
 extRel .floor [σ 51] (σ 53) →
 (farV .quo .f64 (fv (σ 53)) (4636737291354636288) = some (some (fv (σ 54))) ∨ (farV .quo .f64 (fv (σ 53)) (4636737291354636288) = some none ∧ Nan64 (fv (σ 54)))) →
 ¬ reckRPre [σ 54] →
 ford (fv (σ 31)) (0) ≠ some .lt →
 bv (σ 52) = false →
 iv (σ 45) ≤ 2 →
 1 < iv (σ 45) →
 0 < iv (σ 45) →
    False
def dnR_L14 : Prop := ∀ σ : Nat → Value,
 σ 0 = (vS #[82,79,85,78,68,68,79,87,78]) →
 σ 2 = vF →
 σ 3 = vF →
 σ 4 = vO →
 σ 5 = vO →
 σ 7 = vZ →
 σ 8 = vZ →
 σ 9 = vO →
 tF (σ 10) →
 σ 11 = vE →
 σ 12 = vF →
 σ 13 = vZ →
 σ 14 = vF →
 σ 15 = vF →
 σ 16 = vO →
 σ 17 = vO →
 σ 19 = vZ →
 σ 20 = vZ →
 σ 21 = vO →
 tI (σ 22) →
 0 ≤ iv (σ 22) →
 iv (σ 22) ≤ 3 →
 tF (σ 23) →
 σ 24 = vE →
 σ 25 = vF →
 σ 26 = vZ →
 σ 27 = vZ →
 σ 28 = vZ →
 σ 29 = vZ →
 σ 30 = vO →
 tF (σ 31) →
 σ 32 = vE →
 σ 33 = vF →
 σ 34 = vZ →
 σ 35 = vZ →
 σ 36 = vZ →
 σ 37 = vO →
 tI (σ 38) →
 0 ≤ iv (σ 38) →
 iv (σ 38) ≤ 3 →
 tF (σ 39) →
 σ 40 = vE →
 σ 41 = vF →
 σ 42 = vZ →
 tI (σ 43) →
 0 ≤ iv (σ 43) →
 iv (σ 43) ≤ 3 →
 tF (σ 44) →
 tI (σ 45) →
 2 ≤ iv (σ 45) →
 iv (σ 45) ≤ 2 →
 tF (σ 46) →
 tF (σ 50) →
 tF (σ 51) →
 fv (σ 23) = FloatKind.f64.nearest (iv (σ 22)) →
 dnRPre [(vS #[82,79,85,78,68,68,79,87,78]), vU, vF, vF, vO, vO, vU, vZ, vZ, vO, σ 10, vE, vF, vZ, vF, vF, vO, vO, vU, vZ, vZ, vO, σ 22, σ 23, vE, vF, vZ] →
 chkR [vO, σ 10, vE, vF, vZ, vZ] →
 chkWR [vO, σ 22, σ 23, vE, vF, vZ, vZ] →
 chkR [vO, σ 10, vE, vF, vZ, vZ] →
 asnR [vO, σ 10, vE, vF, vZ, vO, σ 31, vE, vF, vZ] →
 chkWR [vO, σ 22, σ 23, vE, vF, vZ, vZ] →
 chkWR [vO, σ 22, σ 23, vE, vF, vZ, vZ] →
 fv (σ 39) = FloatKind.f64.nearest (iv (σ 38)) →
 asnWR [vO, σ 22, σ 23, vE, vF, vZ, vO, σ 38, σ 39, vE, vF, vZ] →
 fv (σ 44) = FloatKind.f64.nearest (iv (σ 43)) →
 absWR [σ 38, σ 39, σ 43, σ 44] →
 fv (σ 46) = FloatKind.f64.nearest (iv (σ 45)) →
 absWR [σ 38, σ 39, σ 45, σ 46] →
 absR [σ 31, σ 50] →
 (farV .mul .f64 (fv (σ 50)) (4636737291354636288) = some (some (fv (σ 51))) ∨ (farV .mul .f64 (fv (σ 50)) (4636737291354636288) = some none ∧ Nan64 (fv (σ 51)))) →
 ¬ infRPre [σ 51, vZ] →
 iv (σ 45) ≤ 2 →
 1 < iv (σ 45) →
 0 < iv (σ 45) →
    False
def dnR_L15 : Prop := ∀ σ : Nat → Value,
 σ 0 = (vS #[82,79,85,78,68,68,79,87,78]) →
 σ 2 = vF →
 σ 3 = vF →
 σ 4 = vO →
 σ 5 = vO →
 σ 7 = vZ →
 σ 8 = vZ →
 σ 9 = vO →
 tF (σ 10) →
 σ 11 = vE →
 σ 12 = vF →
 σ 13 = vZ →
 σ 14 = vF →
 σ 15 = vF →
 σ 16 = vO →
 σ 17 = vO →
 σ 19 = vZ →
 σ 20 = vZ →
 σ 21 = vO →
 tI (σ 22) →
 0 ≤ iv (σ 22) →
 iv (σ 22) ≤ 3 →
 tF (σ 23) →
 σ 24 = vE →
 σ 25 = vF →
 σ 26 = vZ →
 σ 27 = vZ →
 σ 28 = vZ →
 σ 29 = vZ →
 σ 30 = vO →
 tF (σ 31) →
 σ 32 = vE →
 σ 33 = vF →
 σ 34 = vZ →
 σ 35 = vZ →
 σ 36 = vZ →
 σ 37 = vO →
 tI (σ 38) →
 0 ≤ iv (σ 38) →
 iv (σ 38) ≤ 3 →
 tF (σ 39) →
 σ 40 = vE →
 σ 41 = vF →
 σ 42 = vZ →
 tI (σ 43) →
 0 ≤ iv (σ 43) →
 iv (σ 43) ≤ 3 →
 tF (σ 44) →
 tI (σ 45) →
 1 ≤ iv (σ 45) →
 iv (σ 45) ≤ 1 →
 tF (σ 46) →
 tF (σ 49) →
 tF (σ 50) →
 σ 52 = vO →
 tF (σ 53) →
 σ 54 = vE →
 σ 55 = vF →
 σ 56 = vZ →
 fv (σ 23) = FloatKind.f64.nearest (iv (σ 22)) →
 dnRPre [(vS #[82,79,85,78,68,68,79,87,78]), vU, vF, vF, vO, vO, vU, vZ, vZ, vO, σ 10, vE, vF, vZ, vF, vF, vO, vO, vU, vZ, vZ, vO, σ 22, σ 23, vE, vF, vZ] →
 chkR [vO, σ 10, vE, vF, vZ, vZ] →
 chkWR [vO, σ 22, σ 23, vE, vF, vZ, vZ] →
 chkR [vO, σ 10, vE, vF, vZ, vZ] →
 asnR [vO, σ 10, vE, vF, vZ, vO, σ 31, vE, vF, vZ] →
 chkWR [vO, σ 22, σ 23, vE, vF, vZ, vZ] →
 chkWR [vO, σ 22, σ 23, vE, vF, vZ, vZ] →
 fv (σ 39) = FloatKind.f64.nearest (iv (σ 38)) →
 asnWR [vO, σ 22, σ 23, vE, vF, vZ, vO, σ 38, σ 39, vE, vF, vZ] →
 fv (σ 44) = FloatKind.f64.nearest (iv (σ 43)) →
 absWR [σ 38, σ 39, σ 43, σ 44] →
 fv (σ 46) = FloatKind.f64.nearest (iv (σ 45)) →
 absWR [σ 38, σ 39, σ 45, σ 46] →
 absR [σ 31, σ 49] →
 (farV .mul .f64 (fv (σ 49)) (4621819117588971520) = some (some (fv (σ 50))) ∨ (farV .mul .f64 (fv (σ 49)) (4621819117588971520) = some none ∧ Nan64 (fv (σ 50)))) →
 infR [σ 50, vZ, σ 51] →
 reckR [σ 31, vO, σ 53, vE, vF, vZ] →
 bv (σ 51) = true →
 iv (σ 45) ≤ 1 →
 0 < iv (σ 45) →
    dnR [(vS #[82,79,85,78,68,68,79,87,78]), vU, vF, vF, vO, vO, vU, vZ, vZ, vO, σ 10, vE, vF, vZ, vF, vF, vO, vO, vU, vZ, vZ, vO, σ 22, σ 23, vE, vF, vZ, vO, σ 53, vE, vF, vZ, vT]
def dnR_L16 : Prop := ∀ σ : Nat → Value,
 σ 0 = (vS #[82,79,85,78,68,68,79,87,78]) →
 σ 2 = vF →
 σ 3 = vF →
 σ 4 = vO →
 σ 5 = vO →
 σ 7 = vZ →
 σ 8 = vZ →
 σ 9 = vO →
 tF (σ 10) →
 σ 11 = vE →
 σ 12 = vF →
 σ 13 = vZ →
 σ 14 = vF →
 σ 15 = vF →
 σ 16 = vO →
 σ 17 = vO →
 σ 19 = vZ →
 σ 20 = vZ →
 σ 21 = vO →
 tI (σ 22) →
 0 ≤ iv (σ 22) →
 iv (σ 22) ≤ 3 →
 tF (σ 23) →
 σ 24 = vE →
 σ 25 = vF →
 σ 26 = vZ →
 σ 27 = vZ →
 σ 28 = vZ →
 σ 29 = vZ →
 σ 30 = vO →
 tF (σ 31) →
 σ 32 = vE →
 σ 33 = vF →
 σ 34 = vZ →
 σ 35 = vZ →
 σ 36 = vZ →
 σ 37 = vO →
 tI (σ 38) →
 0 ≤ iv (σ 38) →
 iv (σ 38) ≤ 3 →
 tF (σ 39) →
 σ 40 = vE →
 σ 41 = vF →
 σ 42 = vZ →
 tI (σ 43) →
 0 ≤ iv (σ 43) →
 iv (σ 43) ≤ 3 →
 tF (σ 44) →
 tI (σ 45) →
 1 ≤ iv (σ 45) →
 iv (σ 45) ≤ 1 →
 tF (σ 46) →
 tF (σ 49) →
 tF (σ 50) →
 fv (σ 23) = FloatKind.f64.nearest (iv (σ 22)) →
 dnRPre [(vS #[82,79,85,78,68,68,79,87,78]), vU, vF, vF, vO, vO, vU, vZ, vZ, vO, σ 10, vE, vF, vZ, vF, vF, vO, vO, vU, vZ, vZ, vO, σ 22, σ 23, vE, vF, vZ] →
 chkR [vO, σ 10, vE, vF, vZ, vZ] →
 chkWR [vO, σ 22, σ 23, vE, vF, vZ, vZ] →
 chkR [vO, σ 10, vE, vF, vZ, vZ] →
 asnR [vO, σ 10, vE, vF, vZ, vO, σ 31, vE, vF, vZ] →
 chkWR [vO, σ 22, σ 23, vE, vF, vZ, vZ] →
 chkWR [vO, σ 22, σ 23, vE, vF, vZ, vZ] →
 fv (σ 39) = FloatKind.f64.nearest (iv (σ 38)) →
 asnWR [vO, σ 22, σ 23, vE, vF, vZ, vO, σ 38, σ 39, vE, vF, vZ] →
 fv (σ 44) = FloatKind.f64.nearest (iv (σ 43)) →
 absWR [σ 38, σ 39, σ 43, σ 44] →
 fv (σ 46) = FloatKind.f64.nearest (iv (σ 45)) →
 absWR [σ 38, σ 39, σ 45, σ 46] →
 absR [σ 31, σ 49] →
 (farV .mul .f64 (fv (σ 49)) (4621819117588971520) = some (some (fv (σ 50))) ∨ (farV .mul .f64 (fv (σ 49)) (4621819117588971520) = some none ∧ Nan64 (fv (σ 50)))) →
 infR [σ 50, vZ, σ 51] →
 ¬ reckRPre [σ 31] →
 bv (σ 51) = true →
 iv (σ 45) ≤ 1 →
 0 < iv (σ 45) →
    False
def dnR_L17 : Prop := ∀ σ : Nat → Value,
 σ 0 = (vS #[82,79,85,78,68,68,79,87,78]) →
 σ 2 = vF →
 σ 3 = vF →
 σ 4 = vO →
 σ 5 = vO →
 σ 7 = vZ →
 σ 8 = vZ →
 σ 9 = vO →
 tF (σ 10) →
 σ 11 = vE →
 σ 12 = vF →
 σ 13 = vZ →
 σ 14 = vF →
 σ 15 = vF →
 σ 16 = vO →
 σ 17 = vO →
 σ 19 = vZ →
 σ 20 = vZ →
 σ 21 = vO →
 tI (σ 22) →
 0 ≤ iv (σ 22) →
 iv (σ 22) ≤ 3 →
 tF (σ 23) →
 σ 24 = vE →
 σ 25 = vF →
 σ 26 = vZ →
 σ 27 = vZ →
 σ 28 = vZ →
 σ 29 = vZ →
 σ 30 = vO →
 tF (σ 31) →
 σ 32 = vE →
 σ 33 = vF →
 σ 34 = vZ →
 σ 35 = vZ →
 σ 36 = vZ →
 σ 37 = vO →
 tI (σ 38) →
 0 ≤ iv (σ 38) →
 iv (σ 38) ≤ 3 →
 tF (σ 39) →
 σ 40 = vE →
 σ 41 = vF →
 σ 42 = vZ →
 tI (σ 43) →
 0 ≤ iv (σ 43) →
 iv (σ 43) ≤ 3 →
 tF (σ 44) →
 tI (σ 45) →
 1 ≤ iv (σ 45) →
 iv (σ 45) ≤ 1 →
 tF (σ 46) →
 tF (σ 49) →
 tF (σ 50) →
 tF (σ 52) →
 tF (σ 53) →
 tF (σ 55) →
 σ 56 = vO →
 tF (σ 57) →
 σ 58 = vE →
 σ 59 = vF →
 σ 60 = vZ →
 fv (σ 23) = FloatKind.f64.nearest (iv (σ 22)) →
 dnRPre [(vS #[82,79,85,78,68,68,79,87,78]), vU, vF, vF, vO, vO, vU, vZ, vZ, vO, σ 10, vE, vF, vZ, vF, vF, vO, vO, vU, vZ, vZ, vO, σ 22, σ 23, vE, vF, vZ] →
 chkR [vO, σ 10, vE, vF, vZ, vZ] →
 chkWR [vO, σ 22, σ 23, vE, vF, vZ, vZ] →
 chkR [vO, σ 10, vE, vF, vZ, vZ] →
 asnR [vO, σ 10, vE, vF, vZ, vO, σ 31, vE, vF, vZ] →
 chkWR [vO, σ 22, σ 23, vE, vF, vZ, vZ] →
 chkWR [vO, σ 22, σ 23, vE, vF, vZ, vZ] →
 fv (σ 39) = FloatKind.f64.nearest (iv (σ 38)) →
 asnWR [vO, σ 22, σ 23, vE, vF, vZ, vO, σ 38, σ 39, vE, vF, vZ] →
 fv (σ 44) = FloatKind.f64.nearest (iv (σ 43)) →
 absWR [σ 38, σ 39, σ 43, σ 44] →
 fv (σ 46) = FloatKind.f64.nearest (iv (σ 45)) →
 absWR [σ 38, σ 39, σ 45, σ 46] →
 absR [σ 31, σ 49] →
 (farV .mul .f64 (fv (σ 49)) (4621819117588971520) = some (some (fv (σ 50))) ∨ (farV .mul .f64 (fv (σ 49)) (4621819117588971520) = some none ∧ Nan64 (fv (σ 50)))) →
 infR [σ 50, vZ, σ 51] →
 extRel .floor [σ 50] (σ 52) →
 (farV .quo .f64 (fv (σ 52)) (4621819117588971520) = some (some (fv (σ 53))) ∨ (farV .quo .f64 (fv (σ 52)) (4621819117588971520) = some none ∧ Nan64 (fv (σ 53)))) →
 unV .neg (σ 53) = some (σ 55) →
 reckR [σ 55, vO, σ 57, vE, vF, vZ] →
 ford (fv (σ 31)) (0) = some .lt →
 bv (σ 51) = false →
 iv (σ 45) ≤ 1 →
 0 < iv (σ 45) →
    dnR [(vS #[82,79,85,78,68,68,79,87,78]), vU, vF, vF, vO, vO, vU, vZ, vZ, vO, σ 10, vE, vF, vZ, vF, vF, vO, vO, vU, vZ, vZ, vO, σ 22, σ 23, vE, vF, vZ, vO, σ 57, vE, vF, vZ, vT]
def dnR_L18 : Prop := ∀ σ : Nat → Value,
 σ 0 = (vS #[82,79,85,78,68,68,79,87,78]) →
 σ 2 = vF →
 σ 3 = vF →
 σ 4 = vO →
 σ 5 = vO →
 σ 7 = vZ →
 σ 8 = vZ →
 σ 9 = vO →
 tF (σ 10) →
 σ 11 = vE →
 σ 12 = vF →
 σ 13 = vZ →
 σ 14 = vF →
 σ 15 = vF →
 σ 16 = vO →
 σ 17 = vO →
 σ 19 = vZ →
 σ 20 = vZ →
 σ 21 = vO →
 tI (σ 22) →
 0 ≤ iv (σ 22) →
 iv (σ 22) ≤ 3 →
 tF (σ 23) →
 σ 24 = vE →
 σ 25 = vF →
 σ 26 = vZ →
 σ 27 = vZ →
 σ 28 = vZ →
 σ 29 = vZ →
 σ 30 = vO →
 tF (σ 31) →
 σ 32 = vE →
 σ 33 = vF →
 σ 34 = vZ →
 σ 35 = vZ →
 σ 36 = vZ →
 σ 37 = vO →
 tI (σ 38) →
 0 ≤ iv (σ 38) →
 iv (σ 38) ≤ 3 →
 tF (σ 39) →
 σ 40 = vE →
 σ 41 = vF →
 σ 42 = vZ →
 tI (σ 43) →
 0 ≤ iv (σ 43) →
 iv (σ 43) ≤ 3 →
 tF (σ 44) →
 tI (σ 45) →
 1 ≤ iv (σ 45) →
 iv (σ 45) ≤ 1 →
 tF (σ 46) →
 tF (σ 49) →
 tF (σ 50) →
 tF (σ 52) →
 tF (σ 53) →
 tF (σ 55) →
 fv (σ 23) = FloatKind.f64.nearest (iv (σ 22)) →
 dnRPre [(vS #[82,79,85,78,68,68,79,87,78]), vU, vF, vF, vO, vO, vU, vZ, vZ, vO, σ 10, vE, vF, vZ, vF, vF, vO, vO, vU, vZ, vZ, vO, σ 22, σ 23, vE, vF, vZ] →
 chkR [vO, σ 10, vE, vF, vZ, vZ] →
 chkWR [vO, σ 22, σ 23, vE, vF, vZ, vZ] →
 chkR [vO, σ 10, vE, vF, vZ, vZ] →
 asnR [vO, σ 10, vE, vF, vZ, vO, σ 31, vE, vF, vZ] →
 chkWR [vO, σ 22, σ 23, vE, vF, vZ, vZ] →
 chkWR [vO, σ 22, σ 23, vE, vF, vZ, vZ] →
 fv (σ 39) = FloatKind.f64.nearest (iv (σ 38)) →
 asnWR [vO, σ 22, σ 23, vE, vF, vZ, vO, σ 38, σ 39, vE, vF, vZ] →
 fv (σ 44) = FloatKind.f64.nearest (iv (σ 43)) →
 absWR [σ 38, σ 39, σ 43, σ 44] →
 fv (σ 46) = FloatKind.f64.nearest (iv (σ 45)) →
 absWR [σ 38, σ 39, σ 45, σ 46] →
 absR [σ 31, σ 49] →
 (farV .mul .f64 (fv (σ 49)) (4621819117588971520) = some (some (fv (σ 50))) ∨ (farV .mul .f64 (fv (σ 49)) (4621819117588971520) = some none ∧ Nan64 (fv (σ 50)))) →
 infR [σ 50, vZ, σ 51] →
 extRel .floor [σ 50] (σ 52) →
 (farV .quo .f64 (fv (σ 52)) (4621819117588971520) = some (some (fv (σ 53))) ∨ (farV .quo .f64 (fv (σ 52)) (4621819117588971520) = some none ∧ Nan64 (fv (σ 53)))) →
 unV .neg (σ 53) = some (σ 55) →
 ¬ reckRPre [σ 55] →
 ford (fv (σ 31)) (0) = some .lt →
 bv (σ 51) = false →
 iv (σ 45) ≤ 1 →
 0 < iv (σ 45) →
    False
def dnR_L19 : Prop := ∀ σ : Nat → Value,
 σ 0 = (vS #[82,79,85,78,68,68,79,87,78]) →
 σ 2 = vF →
 σ 3 = vF →
 σ 4 = vO →
 σ 5 = vO →
 σ 7 = vZ →
 σ 8 = vZ →
 σ 9 = vO →
 tF (σ 10) →
 σ 11 = vE →
 σ 12 = vF →
 σ 13 = vZ →
 σ 14 = vF →
 σ 15 = vF →
 σ 16 = vO →
 σ 17 = vO →
 σ 19 = vZ →
 σ 20 = vZ →
 σ 21 = vO →
 tI (σ 22) →
 0 ≤ iv (σ 22) →
 iv (σ 22) ≤ 3 →
 tF (σ 23) →
 σ 24 = vE →
 σ 25 = vF →
 σ 26 = vZ →
 σ 27 = vZ →
 σ 28 = vZ →
 σ 29 = vZ →
 σ 30 = vO →
 tF (σ 31) →
 σ 32 = vE →
 σ 33 = vF →
 σ 34 = vZ →
 σ 35 = vZ →
 σ 36 = vZ →
 σ 37 = vO →
 tI (σ 38) →
 0 ≤ iv (σ 38) →
 iv (σ 38) ≤ 3 →
 tF (σ 39) →
 σ 40 = vE →
 σ 41 = vF →
 σ 42 = vZ →
 tI (σ 43) →
 0 ≤ iv (σ 43) →
 iv (σ 43) ≤ 3 →
 tF (σ 44) →
 tI (σ 45) →
 1 ≤ iv (σ 45) →
 iv (σ 45) ≤ 1 →
 tF (σ 46) →
 tF (σ 49) →
 tF (σ 50) →
 tF (σ 52) →
 tF (σ 53) →
 σ 55 = vO →
 tF (σ 56) →
 σ 57 = vE →
 σ 58 = vF →
 σ 59 = vZ →
 fv (σ 23) = FloatKind.f64.nearest (iv (σ 22)) →
 dnRPre [(vS #[82,79,85,78,68,68,79,87,78]), vU, vF, vF, vO, vO, vU, vZ, vZ, vO, σ 10, vE, vF, vZ, vF, vF, vO, vO, vU, vZ, vZ, vO, σ 22, σ 23, vE, vF, vZ] →
 chkR [vO, σ 10, vE, vF, vZ, vZ] →
 chkWR [vO, σ 22, σ 23, vE, vF, vZ, vZ] →
 chkR [vO, σ 10, vE, vF, vZ, vZ] →
 asnR [vO, σ 10, vE, vF, vZ, vO, σ 31, vE, vF, vZ] →
 chkWR [vO, σ 22, σ 23, vE, vF, vZ, vZ] →
 chkWR [vO, σ 22, σ 23, vE, vF, vZ, vZ] →
 fv (σ 39) = FloatKind.f64.nearest (iv (σ 38)) →
 asnWR [vO, σ 22, σ 23, vE, vF, vZ, vO, σ 38, σ 39, vE, vF, vZ] →
 fv (σ 44) = FloatKind.f64.nearest (iv (σ 43)) →
 absWR [σ 38, σ 39, σ 43, σ 44] →
 fv (σ 46) = FloatKind.f64.nearest (iv (σ 45)) →
 absWR [σ 38, σ 39, σ 45, σ 46] →
 absR [σ 31, σ 49] →
 (farV .mul .f64 (fv (σ 49)) (4621819117588971520) = some (some (fv (σ 50))) ∨ (farV .mul .f64 (fv (σ 49)) (4621819117588971520) = some none ∧ Nan64 (fv (σ 50)))) →
 infR [σ 50, vZ, σ 51] →
 extRel .floor [σ 50] (σ 52) →
 (farV .quo .f64 (fv (σ 52)) (4621819117588971520) = some (some (fv (σ 53))) ∨ (farV .quo .f64 (fv (σ 52)) (4621819117588971520) = some none ∧ Nan64 (fv (σ 53)))) →
 reckR [σ 53, vO, σ 56, vE, vF, vZ] →
 ford (fv (σ 31)) (0) ≠ some .lt →
 bv (σ 51) = false →
 iv (σ 45) ≤ 1 →
 0 < iv (σ 45) →
    dnR [(vS #[82,79,85,78,68,68,79,87,78]), vU, vF, vF, vO, vO, vU, vZ, vZ, vO, σ 10, vE, vF, vZ, vF, vF, vO, vO, vU, vZ, vZ, vO, σ 22, σ 23, vE, vF, vZ, vO, σ 56, vE, vF, vZ, vT]
def dnR_L20 : Prop := ∀ σ : Nat → Value,
 σ 0 = (vS #[82,79,85,78,68,68,79,87,78]) →
 σ 2 = vF →
 σ 3 = vF →
 σ 4 = vO →
 σ 5 = vO →
 σ 7 = vZ →
 σ 8 = vZ →
 σ 9 = vO →
 tF (σ 10) →
 σ 11 = vE →
 σ 12 = vF →
 σ 13 = vZ →
 σ 14 = vF →
 σ 15 = vF →
 σ 16 = vO →
 σ 17 = vO →
 σ 19 = vZ →
 σ 20 = vZ →
 σ 21 = vO →
 tI (σ 22) →
 0 ≤ iv (σ 22) →
 iv (σ 22) ≤ 3 →
 tF (σ 23) →
 σ 24 = vE →
 σ 25 = vF →
 σ 26 = vZ →
 σ 27 = vZ →
 σ 28 = vZ →
 σ 29 = vZ →
 σ 30 = vO →
 tF (σ 31) →
 σ 32 = vE →
 σ 33 = vF →
 σ 34 = vZ →
 σ 35 = vZ →
 σ 36 = vZ →
 σ 37 = vO →
 tI (σ 38) →
 0 ≤ iv (σ 38) →
 iv (σ 38) ≤ 3 →
 tF (σ 39) →
 σ 40 = vE →
 σ 41 = vF →
 σ 42 = vZ →
 tI (σ 43) →
 0 ≤ iv (σ 43) →
 iv (σ 43) ≤ 3 →
 tF (σ 44) →
 tI (σ 45) →
 1 ≤ iv (σ 45) →
 iv (σ 45) ≤ 1 →
 tF (σ 46) →
 tF (σ 49) →
 tF (σ 50) →
 tF (σ 52) →
 tF (σ 53) →
 fv (σ 23) = FloatKind.f64.nearest (iv (σ 22)) →
 dnRPre [(vS #[82,79,85,78,68,68,79,87,78]), vU, vF, vF, vO, vO, vU, vZ, vZ, vO, σ 10, vE, vF, vZ, vF, vF, vO, vO, vU, vZ, vZ, vO, σ 22, σ 23, vE, vF, vZ] →
 chkR [vO, σ 10, vE, vF, vZ, vZ] →
 chkWR [vO, σ 22, σ 23, vE, vF, vZ, vZ] →
 chkR [vO, σ 10, vE, vF, vZ, vZ] →
 asnR [vO, σ 10, vE, vF, vZ, vO, σ 31, vE, vF, vZ] →
 chkWR [vO, σ 22, σ 23, vE, vF, vZ, vZ] →
 chkWR [vO, σ 22, σ 23, vE, vF, vZ, vZ] →
 fv (σ 39) = FloatKind.f64.nearest (iv (σ 38)) →
 asnWR [vO, σ 22, σ 23, vE, vF, vZ, vO, σ 38, σ 39, vE, vF, vZ] →
 fv (σ 44) = FloatKind.f64.nearest (iv (σ 43)) →
 absWR [σ 38, σ 39, σ 43, σ 44] →
 fv (σ 46) = FloatKind.f64.nearest (iv (σ 45)) →
 absWR [σ 38, σ 39, σ 45, σ 46] →
 absR [σ 31, σ 49] →
 (farV .mul .f64 (fv (σ 49)) (4621819117588971520) = some (some (fv (σ 50))) ∨ (farV .mul .f64 (fv (σ 49)) (4621819117588971520) = some none ∧ Nan64 (fv (σ 50)))) →
 infR [σ 50, vZ, σ 51] →
 extRel .floor [σ 50] (σ 52) →
 (farV .quo .f64 (fv (σ 52)) (4621819117588971520) = some (some (fv (σ 53))) ∨ (farV .quo .f64 (fv (σ 52)) (4621819117588971520) = some none ∧ Nan64 (fv (σ 53)))) →
 ¬ reckRPre [σ 53] →
 ford (fv (σ 31)) (0) ≠ some .lt →
 bv (σ 51) = false →
 iv (σ 45) ≤ 1 →
 0 < iv (σ 45) →
    False
def dnR_L21 : Prop := ∀ σ : Nat → Value,
 σ 0 = (vS #[82,79,85,78,68,68,79,87,78]) →
 σ 2 = vF →
 σ 3 = vF →
 σ 4 = vO →
 σ 5 = vO →
 σ 7 = vZ →
 σ 8 = vZ →
 σ 9 = vO →
 tF (σ 10) →
 σ 11 = vE →
 σ 12 = vF →
 σ 13 = vZ →
 σ 14 = vF →
 σ 15 = vF →
 σ 16 = vO →
 σ 17 = vO →
 σ 19 = vZ →
 σ 20 = vZ →
 σ 21 = vO →
 tI (σ 22) →
 0 ≤ iv (σ 22) →
 iv (σ 22) ≤ 3 →
 tF (σ 23) →
 σ 24 = vE →
 σ 25 = vF →
 σ 26 = vZ →
 σ 27 = vZ →
 σ 28 = vZ →
 σ 29 = vZ →
 σ 30 = vO →
 tF (σ 31) →
 σ 32 = vE →
 σ 33 = vF →
 σ 34 = vZ →
 σ 35 = vZ →
 σ 36 = vZ →
 σ 37 = vO →
 tI (σ 38) →
 0 ≤ iv (σ 38) →
 iv (σ 38) ≤ 3 →
 tF (σ 39) →
 σ 40 = vE →
 σ 41 = vF →
 σ 42 = vZ →
 tI (σ 43) →
 0 ≤ iv (σ 43) →
 iv (σ 43) ≤ 3 →
 tF (σ 44) →
 tI (σ 45) →
 1 ≤ iv (σ 45) →
 iv (σ 45) ≤ 1 →
 tF (σ 46) →
 tF (σ 49) →
 tF (σ 50) →
 fv (σ 23) = FloatKind.f64.nearest (iv (σ 22)) →
 dnRPre [(vS #[82,79,85,78,68,68,79,87,78]), vU, vF, vF, vO, vO, vU, vZ, vZ, vO, σ 10, vE, vF, vZ, vF, vF, vO, vO, vU, vZ, vZ, vO, σ 22, σ 23, vE, vF, vZ] →
 chkR [vO, σ 10, vE, vF, vZ, vZ] →
 chkWR [vO, σ 22, σ 23, vE, vF, vZ, vZ] →
 chkR [vO, σ 10, vE, vF, vZ, vZ] →
 asnR [vO, σ 10, vE, vF, vZ, vO, σ 31, vE, vF, vZ] →
 chkWR [vO, σ 22, σ 23, vE, vF, vZ, vZ] →
 chkWR [vO, σ 22, σ 23, vE, vF, vZ, vZ] →
 fv (σ 39) = FloatKind.f64.nearest (iv (σ 38)) →
 asnWR [vO, σ 22, σ 23, vE, vF, vZ, vO, σ 38, σ 39, vE, vF, vZ] →
 fv (σ 44) = FloatKind.f64.nearest (iv (σ 43)) →
 absWR [σ 38, σ 39, σ 43, σ 44] →
 fv (σ 46) = FloatKind.f64.nearest (iv (σ 45)) →
 absWR [σ 38, σ 39, σ 45, σ 46] →
 absR [σ 31, σ 49] →
 (farV .mul .f64 (fv (σ 49)) (4621819117588971520) = some (some (fv (σ 50))) ∨ (farV .mul .f64 (fv (σ 49)) (4621819117588971520) = some none ∧ Nan64 (fv (σ 50)))) →
 ¬ infRPre [σ 50, vZ] →
 iv (σ 45) ≤ 1 →
 0 < iv (σ 45) →
    False
def dnR_L22 : Prop := ∀ σ : Nat → Value,
 σ 0 = (vS #[82,79,85,78,68,68,79,87,78]) →
 σ 2 = vF →
 σ 3 = vF →
 σ 4 = vO →
 σ 5 = vO →
 σ 7 = vZ →
 σ 8 = vZ →
 σ 9 = vO →
 tF (σ 10) →
 σ 11 = vE →
 σ 12 = vF →
 σ 13 = vZ →
 σ 14 = vF →
 σ 15 = vF →
 σ 16 = vO →
 σ 17 = vO →
 σ 19 = vZ →
 σ 20 = vZ →
 σ 21 = vO →
 tI (σ 22) →
 0 ≤ iv (σ 22) →
 iv (σ 22) ≤ 3 →
 tF (σ 23) →
 σ 24 = vE →
 σ 25 = vF →
 σ 26 = vZ →
 σ 27 = vZ →
 σ 28 = vZ →
 σ 29 = vZ →
 σ 30 = vO →
 tF (σ 31) →
 σ 32 = vE →
 σ 33 = vF →
 σ 34 = vZ →
 σ 35 = vZ →
 σ 36 = vZ →
 σ 37 = vO →
 tI (σ 38) →
 0 ≤ iv (σ 38) →
 iv (σ 38) ≤ 3 →
 tF (σ 39) →
 σ 40 = vE →
 σ 41 = vF →
 σ 42 = vZ →
 tI (σ 43) →
 0 ≤ iv (σ 43) →
 iv (σ 43) ≤ 3 →
 tF (σ 44) →
 tI (σ 45) →
 0 ≤ iv (σ 45) →
 iv (σ 45) ≤ 0 →
 tF (σ 46) →
 tF (σ 48) →
 tF (σ 49) →
 σ 51 = vO →
 tF (σ 52) →
 σ 53 = vE →
 σ 54 = vF →
 σ 55 = vZ →
 fv (σ 23) = FloatKind.f64.nearest (iv (σ 22)) →
 dnRPre [(vS #[82,79,85,78,68,68,79,87,78]), vU, vF, vF, vO, vO, vU, vZ, vZ, vO, σ 10, vE, vF, vZ, vF, vF, vO, vO, vU, vZ, vZ, vO, σ 22, σ 23, vE, vF, vZ] →
 chkR [vO, σ 10, vE, vF, vZ, vZ] →
 chkWR [vO, σ 22, σ 23, vE, vF, vZ, vZ] →
 chkR [vO, σ 10, vE, vF, vZ, vZ] →
 asnR [vO, σ 10, vE, vF, vZ, vO, σ 31, vE, vF, vZ] →
 chkWR [vO, σ 22, σ 23, vE, vF, vZ, vZ] →
 chkWR [vO, σ 22, σ 23, vE, vF, vZ, vZ] →
 fv (σ 39) = FloatKind.f64.nearest (iv (σ 38)) →
 asnWR [vO, σ 22, σ 23, vE, vF, vZ, vO, σ 38, σ 39, vE, vF, vZ] →
 fv (σ 44) = FloatKind.f64.nearest (iv (σ 43)) →
 absWR [σ 38, σ 39, σ 43, σ 44] →
 fv (σ 46) = FloatKind.f64.nearest (iv (σ 45)) →
 absWR [σ 38, σ 39, σ 45, σ 46] →
 absR [σ 31, σ 48] →
 (farV .mul .f64 (fv (σ 48)) (4607182418800017408) = some (some (fv (σ 49))) ∨ (farV .mul .f64 (fv (σ 48)) (4607182418800017408) = some none ∧ Nan64 (fv (σ 49)))) →
 infR [σ 49, vZ, σ 50] →
 reckR [σ 31, vO, σ 52, vE, vF, vZ] →
 bv (σ 50) = true →
 iv (σ 45) ≤ 0 →
    dnR [(vS #[82,79,85,78,68,68,79,87,78]), vU, vF, vF, vO, vO, vU, vZ, vZ, vO, σ 10, vE, vF, vZ, vF, vF, vO, vO, vU, vZ, vZ, vO, σ 22, σ 23, vE, vF, vZ, vO, σ 52, vE, vF, vZ, vT]
def dnR_L23 : Prop := ∀ σ : Nat → Value,
 σ 0 = (vS #[82,79,85,78,68,68,79,87,78]) →
 σ 2 = vF →
 σ 3 = vF →
 σ 4 = vO →
 σ 5 = vO →
 σ 7 = vZ →
 σ 8 = vZ →
 σ 9 = vO →
 tF (σ 10) →
 σ 11 = vE →
 σ 12 = vF →
 σ 13 = vZ →
 σ 14 = vF →
 σ 15 = vF →
 σ 16 = vO →
 σ 17 = vO →
 σ 19 = vZ →
 σ 20 = vZ →
 σ 21 = vO →
 tI (σ 22) →
 0 ≤ iv (σ 22) →
 iv (σ 22) ≤ 3 →
 tF (σ 23) →
 σ 24 = vE →
 σ 25 = vF →
 σ 26 = vZ →
 σ 27 = vZ →
 σ 28 = vZ →
 σ 29 = vZ →
 σ 30 = vO →
 tF (σ 31) →
 σ 32 = vE →
 σ 33 = vF →
 σ 34 = vZ →
 σ 35 = vZ →
 σ 36 = vZ →
 σ 37 = vO →
 tI (σ 38) →
 0 ≤ iv (σ 38) →
 iv (σ 38) ≤ 3 →
 tF (σ 39) →
 σ 40 = vE →
 σ 41 = vF →
 σ 42 = vZ →
 tI (σ 43) →
 0 ≤ iv (σ 43) →
 iv (σ 43) ≤ 3 →
 tF (σ 44) →
 tI (σ 45) →
 0 ≤ iv (σ 45) →
 iv (σ 45) ≤ 0 →
 tF (σ 46) →
 tF (σ 48) →
 tF (σ 49) →
 fv (σ 23) = FloatKind.f64.nearest (iv (σ 22)) →
 dnRPre [(vS #[82,79,85,78,68,68,79,87,78]), vU, vF, vF, vO, vO, vU, vZ, vZ, vO, σ 10, vE, vF, vZ, vF, vF, vO, vO, vU, vZ, vZ, vO, σ 22, σ 23, vE, vF, vZ] →
 chkR [vO, σ 10, vE, vF, vZ, vZ] →
 chkWR [vO, σ 22, σ 23, vE, vF, vZ, vZ] →
 chkR [vO, σ 10, vE, vF, vZ, vZ] →
 asnR [vO, σ 10, vE, vF, vZ, vO, σ 31, vE, vF, vZ] →
 chkWR [vO, σ 22, σ 23, vE, vF, vZ, vZ] →
 chkWR [vO, σ 22, σ 23, vE, vF, vZ, vZ] →
 fv (σ 39) = FloatKind.f64.nearest (iv (σ 38)) →
 asnWR [vO, σ 22, σ 23, vE, vF, vZ, vO, σ 38, σ 39, vE, vF, vZ] →
 fv (σ 44) = FloatKind.f64.nearest (iv (σ 43)) →
 absWR [σ 38, σ 39, σ 43, σ 44] →
 fv (σ 46) = FloatKind.f64.nearest (iv (σ 45)) →
 absWR [σ 38, σ 39, σ 45, σ 46] →
 absR [σ 31, σ 48] →
 (farV .mul .f64 (fv (σ 48)) (4607182418800017408) = some (some (fv (σ 49))) ∨ (farV .mul .f64 (fv (σ 48)) (4607182418800017408) = some none ∧ Nan64 (fv (σ 49)))) →
 infR [σ 49, vZ, σ 50] →
 ¬ reckRPre [σ 31] →
 bv (σ 50) = true →
 iv (σ 45) ≤ 0 →
    False
def dnR_L24 : Prop := ∀ σ : Nat → Value,
 σ 0 = (vS #[82,79,85,78,68,68,79,87,78]) →
 σ 2 = vF →
 σ 3 = vF →
 σ 4 = vO →
 σ 5 = vO →
 σ 7 = vZ →
 σ 8 = vZ →
 σ 9 = vO →
 tF (σ 10) →
 σ 11 = vE →
 σ 12 = vF →
 σ 13 = vZ →
 σ 14 = vF →
 σ 15 = vF →
 σ 16 = vO →
 σ 17 = vO →
 σ 19 = vZ →
 σ 20 = vZ →
 σ 21 = vO →
 tI (σ 22) →
 0 ≤ iv (σ 22) →
 iv (σ 22) ≤ 3 →
 tF (σ 23) →
 σ 24 = vE →
 σ 25 = vF →
 σ 26 = vZ →
 σ 27 = vZ →
 σ 28 = vZ →
 σ 29 = vZ →
 σ 30 = vO →
 tF (σ 31) →
 σ 32 = vE →
 σ 33 = vF →
 σ 34 = vZ →
 σ 35 = vZ →
 σ 36 = vZ →
 σ 37 = vO →
 tI (σ 38) →
 0 ≤ iv (σ 38) →
 iv (σ 38) ≤ 3 →
 tF (σ 39) →
 σ 40 = vE →
 σ 41 = vF →
 σ 42 = vZ →
 tI (σ 43) →
 0 ≤ iv (σ 43) →
 iv (σ 43) ≤ 3 →
 tF (σ 44) →
 tI (σ 45) →
 0 ≤ iv (σ 45) →
 iv (σ 45) ≤ 0 →
 tF (σ 46) →
 tF (σ 48) →
 tF (σ 49) →
 tF (σ 51) →
 tF (σ 52) →
 tF (σ 54) →
 σ 55 = vO →
 tF (σ 56) →
 σ 57 = vE →
 σ 58 = vF →
 σ 59 = vZ →
 fv (σ 23) = FloatKind.f64.nearest (iv (σ 22)) →
 dnRPre [(vS #[82,79,85,78,68,68,79,87,78]), vU, vF, vF, vO, vO, vU, vZ, vZ, vO, σ 10, vE, vF, vZ, vF, vF, vO, vO, vU, vZ, vZ, vO, σ 22, σ 23, vE, vF, vZ] →
 chkR [vO, σ 10, vE, vF, vZ, vZ] →
 chkWR [vO, σ 22, σ 23, vE, vF, vZ, vZ] →
 chkR [vO, σ 10, vE, vF, vZ, vZ] →
 asnR [vO, σ 10, vE, vF, vZ, vO, σ 31, vE, vF, vZ] →
 chkWR [vO, σ 22, σ 23, vE, vF, vZ, vZ] →
 chkWR [vO, σ 22, σ 23, vE, vF, vZ, vZ] →
 fv (σ 39) = FloatKind.f64.nearest (iv (σ 38)) →
 asnWR [vO, σ 22, σ 23, vE, vF, vZ, vO, σ 38, σ 39, vE, vF, vZ] →
 fv (σ 44) = FloatKind.f64.nearest (iv (σ 43)) →
 absWR [σ 38, σ 39, σ 43, σ 44] →
 fv (σ 46) = FloatKind.f64.nearest (iv (σ 45)) →
 absWR [σ 38, σ 39, σ 45, σ 46] →
 absR [σ 31, σ 48] →
 (farV .mul .f64 (fv (σ 48)) (4607182418800017408) = some (some (fv (σ 49))) ∨ (farV .mul .f64 (fv (σ 48)) (4607182418800017408) = some none ∧ Nan64 (fv (σ 49)))) →
 infR [σ 49, vZ, σ 50] →
 extRel .floor [σ 49] (σ 51) →
 (farV .quo .f64 (fv (σ 51)) (4607182418800017408) = some (some (fv (σ 52))) ∨ (farV .quo .f64 (fv (σ 51)) (4607182418800017408) = some none ∧ Nan64 (fv (σ 52)))) →
 unV .neg (σ 52) = some (σ 54) →
 reckR [σ 54, vO, σ 56, vE, vF, vZ] →
 ford (fv (σ 31)) (0) = some .lt →
 bv (σ 50) = false →
 iv (σ 45) ≤ 0 →
    dnR [(vS #[82,79,85,78,68,68,79,87,78]), vU, vF, vF, vO, vO, vU, vZ, vZ, vO, σ 10, vE, vF, vZ, vF, vF, vO, vO, vU, vZ, vZ, vO, σ 22, σ 23, vE, vF, vZ, vO, σ 56, vE, vF, vZ, vT]
def dnR_L25 : Prop := ∀ σ : Nat → Value,
 σ 0 = (vS #[82,79,85,78,68,68,79,87,78]) →
 σ 2 = vF →
 σ 3 = vF →
 σ 4 = vO →
 σ 5 = vO →
 σ 7 = vZ →
 σ 8 = vZ →
 σ 9 = vO →
 tF (σ 10) →
 σ 11 = vE →
 σ 12 = vF →
 σ 13 = vZ →
 σ 14 = vF →
 σ 15 = vF →
 σ 16 = vO →
 σ 17 = vO →
 σ 19 = vZ →
 σ 20 = vZ →
 σ 21 = vO →
 tI (σ 22) →
 0 ≤ iv (σ 22) →
 iv (σ 22) ≤ 3 →
 tF (σ 23) →
 σ 24 = vE →
 σ 25 = vF →
 σ 26 = vZ →
 σ 27 = vZ →
 σ 28 = vZ →
 σ 29 = vZ →
 σ 30 = vO →
 tF (σ 31) →
 σ 32 = vE →
 σ 33 = vF →
 σ 34 = vZ →
 σ 35 = vZ →
 σ 36 = vZ →
 σ 37 = vO →
 tI (σ 38) →
 0 ≤ iv (σ 38) →
 iv (σ 38) ≤ 3 →
 tF (σ 39) →
 σ 40 = vE →
 σ 41 = vF →
 σ 42 = vZ →
 tI (σ 43) →
 0 ≤ iv (σ 43) →
 iv (σ 43) ≤ 3 →
 tF (σ 44) →
 tI (σ 45) →
 0 ≤ iv (σ 45) →
 iv (σ 45) ≤ 0 →
 tF (σ 46) →
 tF (σ 48) →
 tF (σ 49) →
 tF (σ 51) →
 tF (σ 52) →
 tF (σ 54) →
 fv (σ 23) = FloatKind.f64.nearest (iv (σ 22)) →
 dnRPre [(vS #[82,79,85,78,68,68,79,87,78]), vU, vF, vF, vO, vO, vU, vZ, vZ, vO, σ 10, vE, vF, vZ, vF, vF, vO, vO, vU, vZ, vZ, vO, σ 22, σ 23, vE, vF, vZ] →
 chkR [vO, σ 10, vE, vF, vZ, vZ] →
 chkWR [vO, σ 22, σ 23, vE, vF, vZ, vZ] →
 chkR [vO, σ 10, vE, vF, vZ, vZ] →
 asnR [vO, σ 10, vE, vF, vZ, vO, σ 31, vE, vF, vZ] →
 chkWR [vO, σ 22, σ 23, vE, vF, vZ, vZ] →
 chkWR [vO, σ 22, σ 23, vE, vF, vZ, vZ] →
 fv (σ 39) = FloatKind.f64.nearest (iv (σ 38)) →
 asnWR [vO, σ 22, σ 23, vE, vF, vZ, vO, σ 38, σ 39, vE, vF, vZ] →
 fv (σ 44) = FloatKind.f64.nearest (iv (σ 43)) →
 absWR [σ 38, σ 39, σ 43, σ 44] →
 fv (σ 46) = FloatKind.f64.nearest (iv (σ 45)) →
 absWR [σ 38, σ 39, σ 45, σ 46] →
 absR [σ 31, σ 48] →
 (farV .mul .f64 (fv (σ 48)) (4607182418800017408) = some (some (fv (σ 49))) ∨ (farV .mul .f64 (fv (σ 48)) (4607182418800017408) = some none ∧ Nan64 (fv (σ 49)))) →
 infR [σ 49, vZ, σ 50] →
 extRel .floor [σ 49] (σ 51) →
 (farV .quo .f64 (fv (σ 51)) (4607182418800017408) = some (some (fv (σ 52))) ∨ (farV .quo .f64 (fv (σ 51)) (4607182418800017408) = some none ∧ Nan64 (fv (σ 52)))) →
 unV .neg (σ 52) = some (σ 54) →
 ¬ reckRPre [σ 54] →
 ford (fv (σ 31)) (0) = some .lt →
 bv (σ 50) = false →
 iv (σ 45) ≤ 0 →
    False
def dnR_L26 : Prop := ∀ σ : Nat → Value,
 σ 0 = (vS #[82,79,85,78,68,68,79,87,78]) →
 σ 2 = vF →
 σ 3 = vF →
 σ 4 = vO →
 σ 5 = vO →
 σ 7 = vZ →
 σ 8 = vZ →
 σ 9 = vO →
 tF (σ 10) →
 σ 11 = vE →
 σ 12 = vF →
 σ 13 = vZ →
 σ 14 = vF →
 σ 15 = vF →
 σ 16 = vO →
 σ 17 = vO →
 σ 19 = vZ →
 σ 20 = vZ →
 σ 21 = vO →
 tI (σ 22) →
 0 ≤ iv (σ 22) →
 iv (σ 22) ≤ 3 →
 tF (σ 23) →
 σ 24 = vE →
 σ 25 = vF →
 σ 26 = vZ →
 σ 27 = vZ →
 σ 28 = vZ →
 σ 29 = vZ →
 σ 30 = vO →
 tF (σ 31) →
 σ 32 = vE →
 σ 33 = vF →
 σ 34 = vZ →
 σ 35 = vZ →
 σ 36 = vZ →
 σ 37 = vO →
 tI (σ 38) →
 0 ≤ iv (σ 38) →
 iv (σ 38) ≤ 3 →
 tF (σ 39) →
 σ 40 = vE →
 σ 41 = vF →
 σ 42 = vZ →
 tI (σ 43) →
 0 ≤ iv (σ 43) →
 iv (σ 43) ≤ 3 →
 tF (σ 44) →
 tI (σ 45) →
 0 ≤ iv (σ 45) →
 iv (σ 45) ≤ 0 →
 tF (σ 46) →
 tF (σ 48) →
 tF (σ 49) →
 tF (σ 51) →
 tF (σ 52) →
 σ 54 = vO →
 tF (σ 55) →
 σ 56 = vE →
 σ 57 = vF →
 σ 58 = vZ →
 fv (σ 23) = FloatKind.f64.nearest (iv (σ 22)) →
 dnRPre [(vS #[82,79,85,78,68,68,79,87,78]), vU, vF, vF, vO, vO, vU, vZ, vZ, vO, σ 10, vE, vF, vZ, vF, vF, vO, vO, vU, vZ, vZ, vO, σ 22, σ 23, vE, vF, vZ] →
 chkR [vO, σ 10, vE, vF, vZ, vZ] →
 chkWR [vO, σ 22, σ 23, vE, vF, vZ, vZ] →
 chkR [vO, σ 10, vE, vF, vZ, vZ] →
 asnR [vO, σ 10, vE, vF, vZ, vO, σ 31, vE, vF, vZ] →
 chkWR [vO, σ 22, σ 23, vE, vF, vZ, vZ] →
 chkWR [vO, σ 22, σ 23, vE, vF, vZ, vZ] →
 fv (σ 39) = FloatKind.f64.nearest (iv (σ 38)) →
 asnWR [vO, σ 22, σ 23, vE, vF, vZ, vO, σ 38, σ 39, vE, vF, vZ] →
 fv (σ 44) = FloatKind.f64.nearest (iv (σ 43)) →
 absWR [σ 38, σ 39, σ 43, σ 44] →
 fv (σ 46) = FloatKind.f64.nearest (iv (σ 45)) →
 absWR [σ 38, σ 39, σ 45, σ 46] →
 absR [σ 31, σ 48] →
 (farV .mul .f64 (fv (σ 48)) (4607182418800017408) = some (some (fv (σ 49))) ∨ (farV .mul .f64 (fv (σ 48)) (4607182418800017408) = some none ∧ Nan64 (fv (σ 49)))) →
 infR [σ 49, vZ, σ 50] →
 extRel .floor [σ 49] (σ 51) →
 (farV .quo .f64 (fv (σ 51)) (4607182418800017408) = some (some (fv (σ 52))) ∨ (farV .quo .f64 (fv (σ 51)) (4607182418800017408) = some none ∧ Nan64 (fv (σ 52)))) →
 reckR [σ 52, vO, σ 55, vE, vF, vZ] →
 ford (fv (σ 31)) (0) ≠ some .lt →
 bv (σ 50) = false →
 iv (σ 45) ≤ 0 →
    dnR [(vS #[82,79,85,78,68,68,79,87,78]), vU, vF, vF, vO, vO, vU, vZ, vZ, vO, σ 10, vE, vF, vZ, vF, vF, vO, vO, vU, vZ, vZ, vO, σ 22, σ 23, vE, vF, vZ, vO, σ 55, vE, vF, vZ, vT]
def dnR_L27 : Prop := ∀ σ : Nat → Value,
 σ 0 = (vS #[82,79,85,78,68,68,79,87,78]) →
 σ 2 = vF →
 σ 3 = vF →
 σ 4 = vO →
 σ 5 = vO →
 σ 7 = vZ →
 σ 8 = vZ →
 σ 9 = vO →
 tF (σ 10) →
 σ 11 = vE →
 σ 12 = vF →
 σ 13 = vZ →
 σ 14 = vF →
 σ 15 = vF →
 σ 16 = vO →
 σ 17 = vO →
 σ 19 = vZ →
 σ 20 = vZ →
 σ 21 = vO →
 tI (σ 22) →
 0 ≤ iv (σ 22) →
 iv (σ 22) ≤ 3 →
 tF (σ 23) →
 σ 24 = vE →
 σ 25 = vF →
 σ 26 = vZ →
 σ 27 = vZ →
 σ 28 = vZ →
 σ 29 = vZ →
 σ 30 = vO →
 tF (σ 31) →
 σ 32 = vE →
 σ 33 = vF →
 σ 34 = vZ →
 σ 35 = vZ →
 σ 36 = vZ →
 σ 37 = vO →
 tI (σ 38) →
 0 ≤ iv (σ 38) →
 iv (σ 38) ≤ 3 →
 tF (σ 39) →
 σ 40 = vE →
 σ 41 = vF →
 σ 42 = vZ →
 tI (σ 43) →
 0 ≤ iv (σ 43) →
 iv (σ 43) ≤ 3 →
 tF (σ 44) →
 tI (σ 45) →
 0 ≤ iv (σ 45) →
 iv (σ 45) ≤ 0 →
 tF (σ 46) →
 tF (σ 48) →
 tF (σ 49) →
 tF (σ 51) →
 tF (σ 52) →
 fv (σ 23) = FloatKind.f64.nearest (iv (σ 22)) →
 dnRPre [(vS #[82,79,85,78,68,68,79,87,78]), vU, vF, vF, vO, vO, vU, vZ, vZ, vO, σ 10, vE, vF, vZ, vF, vF, vO, vO, vU, vZ, vZ, vO, σ 22, σ 23, vE, vF, vZ] →
 chkR [vO, σ 10, vE, vF, vZ, vZ] →
 chkWR [vO, σ 22, σ 23, vE, vF, vZ, vZ] →
 chkR [vO, σ 10, vE, vF, vZ, vZ] →
 asnR [vO, σ 10, vE, vF, vZ, vO, σ 31, vE, vF, vZ] →
 chkWR [vO, σ 22, σ 23, vE, vF, vZ, vZ] →
 chkWR [vO, σ 22, σ 23, vE, vF, vZ, vZ] →
 fv (σ 39) = FloatKind.f64.nearest (iv (σ 38)) →
 asnWR [vO, σ 22, σ 23, vE, vF, vZ, vO, σ 38, σ 39, vE, vF, vZ] →
 fv (σ 44) = FloatKind.f64.nearest (iv (σ 43)) →
 absWR [σ 38, σ 39, σ 43, σ 44] →
 fv (σ 46) = FloatKind.f64.nearest (iv (σ 45)) →
 absWR [σ 38, σ 39, σ 45, σ 46] →
 absR [σ 31, σ 48] →
 (farV .mul .f64 (fv (σ 48)) (4607182418800017408) = some (some (fv (σ 49))) ∨ (farV .mul .f64 (fv (σ 48)) (4607182418800017408) = some none ∧ Nan64 (fv (σ 49)))) →
 infR [σ 49, vZ, σ 50] →
 extRel .floor [σ 49] (σ 51) →
 (farV .quo .f64 (fv (σ 51)) (4607182418800017408) = some (some (fv (σ 52))) ∨ (farV .quo .f64 (fv (σ 51)) (4607182418800017408) = some none ∧ Nan64 (fv (σ 52)))) →
 ¬ reckRPre [σ 52] →
 ford (fv (σ 31)) (0) ≠ some .lt →
 bv (σ 50) = false →
 iv (σ 45) ≤ 0 →
    False
def dnR_L28 : Prop := ∀ σ : Nat → Value,
 σ 0 = (vS #[82,79,85,78,68,68,79,87,78]) →
 σ 2 = vF →
 σ 3 = vF →
 σ 4 = vO →
 σ 5 = vO →
 σ 7 = vZ →
 σ 8 = vZ →
 σ 9 = vO →
 tF (σ 10) →
 σ 11 = vE →
 σ 12 = vF →
 σ 13 = vZ →
 σ 14 = vF →
 σ 15 = vF →
 σ 16 = vO →
 σ 17 = vO →
 σ 19 = vZ →
 σ 20 = vZ →
 σ 21 = vO →
 tI (σ 22) →
 0 ≤ iv (σ 22) →
 iv (σ 22) ≤ 3 →
 tF (σ 23) →
 σ 24 = vE →
 σ 25 = vF →
 σ 26 = vZ →
 σ 27 = vZ →
 σ 28 = vZ →
 σ 29 = vZ →
 σ 30 = vO →
 tF (σ 31) →
 σ 32 = vE →
 σ 33 = vF →
 σ 34 = vZ →
 σ 35 = vZ →
 σ 36 = vZ →
 σ 37 = vO →
 tI (σ 38) →
 0 ≤ iv (σ 38) →
 iv (σ 38) ≤ 3 →
 tF (σ 39) →
 σ 40 = vE →
 σ 41 = vF →
 σ 42 = vZ →
 tI (σ 43) →
 0 ≤ iv (σ 43) →
 iv (σ 43) ≤ 3 →
 tF (σ 44) →
 tI (σ 45) →
 0 ≤ iv (σ 45) →
 iv (σ 45) ≤ 0 →
 tF (σ 46) →
 tF (σ 48) →
 tF (σ 49) →
 fv (σ 23) = FloatKind.f64.nearest (iv (σ 22)) →
 dnRPre [(vS #[82,79,85,78,68,68,79,87,78]), vU, vF, vF, vO, vO, vU, vZ, vZ, vO, σ 10, vE, vF, vZ, vF, vF, vO, vO, vU, vZ, vZ, vO, σ 22, σ 23, vE, vF, vZ] →
 chkR [vO, σ 10, vE, vF, vZ, vZ] →
 chkWR [vO, σ 22, σ 23, vE, vF, vZ, vZ] →
 chkR [vO, σ 10, vE, vF, vZ, vZ] →
 asnR [vO, σ 10, vE, vF, vZ, vO, σ 31, vE, vF, vZ] →
 chkWR [vO, σ 22, σ 23, vE, vF, vZ, vZ] →
 chkWR [vO, σ 22, σ 23, vE, vF, vZ, vZ] →
 fv (σ 39) = FloatKind.f64.nearest (iv (σ 38)) →
 asnWR [vO, σ 22, σ 23, vE, vF, vZ, vO, σ 38, σ 39, vE, vF, vZ] →
 fv (σ 44) = FloatKind.f64.nearest (iv (σ 43)) →
 absWR [σ 38, σ 39, σ 43, σ 44] →
 fv (σ 46) = FloatKind.f64.nearest (iv (σ 45)) →
 absWR [σ 38, σ 39, σ 45, σ 46] →
 absR [σ 31, σ 48] →
 (farV .mul .f64 (fv (σ 48)) (4607182418800017408) = some (some (fv (σ 49))) ∨ (farV .mul .f64 (fv (σ 48)) (4607182418800017408) = some none ∧ Nan64 (fv (σ 49)))) →
 ¬ infRPre [σ 49, vZ] →
 iv (σ 45) ≤ 0 →
    False
def dnR_L29 : Prop := ∀ σ : Nat → Value,
 σ 0 = (vS #[82,79,85,78,68,68,79,87,78]) →
 σ 2 = vF →
 σ 3 = vF →
 σ 4 = vO →
 σ 5 = vO →
 σ 7 = vZ →
 σ 8 = vZ →
 σ 9 = vO →
 tF (σ 10) →
 σ 11 = vE →
 σ 12 = vF →
 σ 13 = vZ →
 σ 14 = vF →
 σ 15 = vF →
 σ 16 = vO →
 σ 17 = vO →
 σ 19 = vZ →
 σ 20 = vZ →
 σ 21 = vO →
 tI (σ 22) →
 0 ≤ iv (σ 22) →
 iv (σ 22) ≤ 3 →
 tF (σ 23) →
 σ 24 = vE →
 σ 25 = vF →
 σ 26 = vZ →
 σ 27 = vZ →
 σ 28 = vZ →
 σ 29 = vZ →
 fv (σ 23) = FloatKind.f64.nearest (iv (σ 22)) →
 dnRPre [(vS #[82,79,85,78,68,68,79,87,78]), vU, vF, vF, vO, vO, vU, vZ, vZ, vO, σ 10, vE, vF, vZ, vF, vF, vO, vO, vU, vZ, vZ, vO, σ 22, σ 23, vE, vF, vZ] →
 chkR [vO, σ 10, vE, vF, vZ, vZ] →
 chkWR [vO, σ 22, σ 23, vE, vF, vZ, vZ] →
 chkR [vO, σ 10, vE, vF, vZ, vZ] →
 ¬ asnRPre [vO, σ 10, vE, vF, vZ] →
    False
def dnR_L30 : Prop := ∀ σ : Nat → Value,
 σ 0 = (vS #[82,79,85,78,68,68,79,87,78]) →
 σ 2 = vF →
 σ 3 = vF →
 σ 4 = vO →
 σ 5 = vO →
 σ 7 = vZ →
 σ 8 = vZ →
 σ 9 = vO →
 tF (σ 10) →
 σ 11 = vE →
 σ 12 = vF →
 σ 13 = vZ →
 σ 14 = vF →
 σ 15 = vF →
 σ 16 = vO →
 σ 17 = vO →
 σ 19 = vZ →
 σ 20 = vZ →
 σ 21 = vO →
 tI (σ 22) →
 0 ≤ iv (σ 22) →
 iv (σ 22) ≤ 3 →
 tF (σ 23) →
 σ 24 = vE →
 σ 25 = vF →
 σ 26 = vZ →
 σ 27 = vZ →
 σ 28 = vZ →
 fv (σ 23) = FloatKind.f64.nearest (iv (σ 22)) →
 dnRPre [(vS #[82,79,85,78,68,68,79,87,78]), vU, vF, vF, vO, vO, vU, vZ, vZ, vO, σ 10, vE, vF, vZ, vF, vF, vO, vO, vU, vZ, vZ, vO, σ 22, σ 23, vE, vF, vZ] →
 chkR [vO, σ 10, vE, vF, vZ, vZ] →
 chkWR [vO, σ 22, σ 23, vE, vF, vZ, vZ] →
 ¬ chkRPre [vO, σ 10, vE, vF, vZ] →
    False
theorem dnR_tie : dnC.goals (cfgB dnC.base [absWC, absC, infC, chkWC, chkC, asnWC, asnC, reckC]) [] 2000 = (dnR_L0 ∧ dnR_L1 ∧ dnR_L2 ∧ dnR_L3 ∧ dnR_L4 ∧ dnR_L5 ∧ dnR_L6 ∧ dnR_L7 ∧ dnR_L8 ∧ dnR_L9 ∧ dnR_L10 ∧ dnR_L11 ∧ dnR_L12 ∧ dnR_L13 ∧ dnR_L14 ∧ dnR_L15 ∧ dnR_L16 ∧ dnR_L17 ∧ dnR_L18 ∧ dnR_L19 ∧ dnR_L20 ∧ dnR_L21 ∧ dnR_L22 ∧ dnR_L23 ∧ dnR_L24 ∧ dnR_L25 ∧ dnR_L26 ∧ dnR_L27 ∧ dnR_L28 ∧ dnR_L29 ∧ dnR_L30 ∧ True) := by kernel_rfl
theorem dnR_L0_ok : dnR_L0 := by
  intro σ; intros
  have pre_ := ‹dnRPre _›
  have pre : ∃ m, P64 (fv (σ 10)) m := pre_
  have n_ := ‹¬ chkRPre _›
  exact n_ (pre_nice pre)
theorem dnR_L1_ok : dnR_L1 := by
  intro σ; intros
  have pre_ := ‹dnRPre _›
  have pre : ∃ m, P64 (fv (σ 10)) m := pre_
  have e1_ := ‹asnWR _›
  have e1 : iv (σ 38) = iv (σ 22) := e1_
  have e2_ := ‹absWR [σ 38, σ 39, σ 45, σ 46]›
  have e2 : iv (σ 45) = iv (σ 38) := e2_
  have hq : iv (σ 22) = 3 := by omega
  have ea_ := ‹asnR _›
  have ea : fv (σ 31) = fv (σ 10) := ea_
  have ha_ := ‹absR [σ 31, σ 50]›
  have ha : fv (σ 50) = fv (σ 31) % 2 ^ 63 := ha_
  have i0_ := ‹infR _›
  have i0 : bv (σ 52) = false := i0_
  have i1 := ‹bv (σ 52) = true›
  rw [i0] at i1
  cases i1
theorem dnR_L2_ok : dnR_L2 := by
  intro σ; intros
  have pre_ := ‹dnRPre _›
  have pre : ∃ m, P64 (fv (σ 10)) m := pre_
  have e1_ := ‹asnWR _›
  have e1 : iv (σ 38) = iv (σ 22) := e1_
  have e2_ := ‹absWR [σ 38, σ 39, σ 45, σ 46]›
  have e2 : iv (σ 45) = iv (σ 38) := e2_
  have hq : iv (σ 22) = 3 := by omega
  have ea_ := ‹asnR _›
  have ea : fv (σ 31) = fv (σ 10) := ea_
  have ha_ := ‹absR [σ 31, σ 50]›
  have ha : fv (σ 50) = fv (σ 31) % 2 ^ 63 := ha_
  have i0_ := ‹infR _›
  have i0 : bv (σ 52) = false := i0_
  have i1 := ‹bv (σ 52) = true›
  rw [i0] at i1
  cases i1
theorem dnR_L3_ok : dnR_L3 := by
  intro σ; intros
  have pre_ := ‹dnRPre _›
  have pre : ∃ m, P64 (fv (σ 10)) m := pre_
  have e1_ := ‹asnWR _›
  have e1 : iv (σ 38) = iv (σ 22) := e1_
  have e2_ := ‹absWR [σ 38, σ 39, σ 45, σ 46]›
  have e2 : iv (σ 45) = iv (σ 38) := e2_
  have hq : iv (σ 22) = 3 := by omega
  have ea_ := ‹asnR _›
  have ea : fv (σ 31) = fv (σ 10) := ea_
  have ha_ := ‹absR [σ 31, σ 50]›
  have ha : fv (σ 50) = fv (σ 31) % 2 ^ 63 := ha_
  have R := dn_leaf (y := σ 51) (k := σ 53) (w := σ 54) (v := σ 56) pre ea ha (ten3 hq) ‹farV .mul .f64 _ _ = _ ∨ _› ‹_› ‹extRel .floor _ _› ‹farV .quo .f64 _ _ = _ ∨ _› (.inl ⟨‹_›, neg_fv ‹_› ‹unV .neg _ = some _›⟩)
  have r0 := ‹reckR _›
  exact R.2 (σ 58) r0
theorem dnR_L4_ok : dnR_L4 := by
  intro σ; intros
  have pre_ := ‹dnRPre _›
  have pre : ∃ m, P64 (fv (σ 10)) m := pre_
  have e1_ := ‹asnWR _›
  have e1 : iv (σ 38) = iv (σ 22) := e1_
  have e2_ := ‹absWR [σ 38, σ 39, σ 45, σ 46]›
  have e2 : iv (σ 45) = iv (σ 38) := e2_
  have hq : iv (σ 22) = 3 := by omega
  have ea_ := ‹asnR _›
  have ea : fv (σ 31) = fv (σ 10) := ea_
  have ha_ := ‹absR [σ 31, σ 50]›
  have ha : fv (σ 50) = fv (σ 31) % 2 ^ 63 := ha_
  have R := dn_leaf (y := σ 51) (k := σ 53) (w := σ 54) (v := σ 56) pre ea ha (ten3 hq) ‹farV .mul .f64 _ _ = _ ∨ _› ‹_› ‹extRel .floor _ _› ‹farV .quo .f64 _ _ = _ ∨ _› (.inl ⟨‹_›, neg_fv ‹_› ‹unV .neg _ = some _›⟩)
  have n_ := ‹¬ reckRPre _›
  exact n_ R.1
theorem dnR_L5_ok : dnR_L5 := by
  intro σ; intros
  have pre_ := ‹dnRPre _›
  have pre : ∃ m, P64 (fv (σ 10)) m := pre_
  have e1_ := ‹asnWR _›
  have e1 : iv (σ 38) = iv (σ 22) := e1_
  have e2_ := ‹absWR [σ 38, σ 39, σ 45, σ 46]›
  have e2 : iv (σ 45) = iv (σ 38) := e2_
  have hq : iv (σ 22) = 3 := by omega
  have ea_ := ‹asnR _›
  have ea : fv (σ 31) = fv (σ 10) := ea_
  have ha_ := ‹absR [σ 31, σ 50]›
  have ha : fv (σ 50) = fv (σ 31) % 2 ^ 63 := ha_
  have R := dn_leaf (y := σ 51) (k := σ 53) (w := σ 54) (v := σ 54) pre ea ha (ten3 hq) ‹farV .mul .f64 _ _ = _ ∨ _› ‹_› ‹extRel .floor _ _› ‹farV .quo .f64 _ _ = _ ∨ _› (.inr ⟨‹_›, rfl⟩)
  have r0 := ‹reckR _›
  exact R.2 (σ 57) r0
theorem dnR_L6_ok : dnR_L6 := by
  intro σ; intros
  have pre_ := ‹dnRPre _›
  have pre : ∃ m, P64 (fv (σ 10)) m := pre_
  have e1_ := ‹asnWR _›
  have e1 : iv (σ 38) = iv (σ 22) := e1_
  have e2_ := ‹absWR [σ 38, σ 39, σ 45, σ 46]›
  have e2 : iv (σ 45) = iv (σ 38) := e2_
  have hq : iv (σ 22) = 3 := by omega
  have ea_ := ‹asnR _›
  have ea : fv (σ 31) = fv (σ 10) := ea_
  have ha_ := ‹absR [σ 31, σ 50]›
  have ha : fv (σ 50) = fv (σ 31) % 2 ^ 63 := ha_
  have R := dn_leaf (y := σ 51) (k := σ 53) (w := σ 54) (v := σ 54) pre ea ha (ten3 hq) ‹farV .mul .f64 _ _ = _ ∨ _› ‹_› ‹extRel .floor _ _› ‹farV .quo .f64 _ _ = _ ∨ _› (.inr ⟨‹_›, rfl⟩)
  have n_ := ‹¬ reckRPre _›
  exact n_ R.1
theorem dnR_L7_ok : dnR_L7 := by
  intro σ; intros
  have pre_ := ‹dnRPre _›
  have pre : ∃ m, P64 (fv (σ 10)) m := pre_
  have e1_ := ‹asnWR _›
  have e1 : iv (σ 38) = iv (σ 22) := e1_
  have e2_ := ‹absWR [σ 38, σ 39, σ 45, σ 46]›
  have e2 : iv (σ 45) = iv (σ 38) := e2_
  have hq : iv (σ 22) = 3 := by omega
  have ea_ := ‹asnR _›
  have ea : fv (σ 31) = fv (σ 10) := ea_
  have ha_ := ‹absR [σ 31, σ 50]›
  have ha : fv (σ 50) = fv (σ 31) % 2 ^ 63 := ha_
  have n_ := ‹¬ infRPre _›
  exact n_ (y_fin (y := σ 51) pre ea ha (ten3 hq) ‹farV .mul .f64 _ _ = _ ∨ _›)
theorem dnR_L8_ok : dnR_L8 := by
  intro σ; intros
  have pre_ := ‹dnRPre _›
  have pre : ∃ m, P64 (fv (σ 10)) m := pre_
  have e1_ := ‹asnWR _›
  have e1 : iv (σ 38) = iv (σ 22) := e1_
  have e2_ := ‹absWR [σ 38, σ 39, σ 45, σ 46]›
  have e2 : iv (σ 45) = iv (σ 38) := e2_
  have hq : iv (σ 22) = 2 := by omega
  have ea_ := ‹asnR _›
  have ea : fv (σ 31) = fv (σ 10) := ea_
  have ha_ := ‹absR [σ 31, σ 50]›
  have ha : fv (σ 50) = fv (σ 31) % 2 ^ 63 := ha_
  have i0_ := ‹infR _›
  have i0 : bv (σ 52) = false := i0_
  have i1 := ‹bv (σ 52) = true›
  rw [i0] at i1
  cases i1
theorem dnR_L9_ok : dnR_L9 := by
  intro σ; intros
  have pre_ := ‹dnRPre _›
  have pre : ∃ m, P64 (fv (σ 10)) m := pre_
  have e1_ := ‹asnWR _›
  have e1 : iv (σ 38) = iv (σ 22) := e1_
  have e2_ := ‹absWR [σ 38, σ 39, σ 45, σ 46]›
  have e2 : iv (σ 45) = iv (σ 38) := e2_
  have hq : iv (σ 22) = 2 := by omega
  have ea_ := ‹asnR _›
  have ea : fv (σ 31) = fv (σ 10) := ea_
  have ha_ := ‹absR [σ 31, σ 50]›
  have ha : fv (σ 50) = fv (σ 31) % 2 ^ 63 := ha_
  have i0_ := ‹infR _›
  have i0 : bv (σ 52) = false := i0_
  have i1 := ‹bv (σ 52) = true›
  rw [i0] at i1
  cases i1
theorem dnR_L10_ok : dnR_L10 := by
  intro σ; intros
  have pre_ := ‹dnRPre _›
  have pre : ∃ m, P64 (fv (σ 10)) m := pre_
  have e1_ := ‹asnWR _›
  have e1 : iv (σ 38) = iv (σ 22) := e1_
  have e2_ := ‹absWR [σ 38, σ 39, σ 45, σ 46]›
  have e2 : iv (σ 45) = iv (σ 38) := e2_
  have hq : iv (σ 22) = 2 := by omega
  have ea_ := ‹asnR _›
  have ea : fv (σ 31) = fv (σ 10) := ea_
  have ha_ := ‹absR [σ 31, σ 50]›
  have ha : fv (σ 50) = fv (σ 31) % 2 ^ 63 := ha_
  have R := dn_leaf (y := σ 51) (k := σ 53) (w := σ 54) (v := σ 56) pre ea ha (ten2 hq) ‹farV .mul .f64 _ _ = _ ∨ _› ‹_› ‹extRel .floor _ _› ‹farV .quo .f64 _ _ = _ ∨ _› (.inl ⟨‹_›, neg_fv ‹_› ‹unV .neg _ = some _›⟩)
  have r0 := ‹reckR _›
  exact R.2 (σ 58) r0
theorem dnR_L11_ok : dnR_L11 := by
  intro σ; intros
  have pre_ := ‹dnRPre _›
  have pre : ∃ m, P64 (fv (σ 10)) m := pre_
  have e1_ := ‹asnWR _›
  have e1 : iv (σ 38) = iv (σ 22) := e1_
  have e2_ := ‹absWR [σ 38, σ 39, σ 45, σ 46]›
  have e2 : iv (σ 45) = iv (σ 38) := e2_
  have hq : iv (σ 22) = 2 := by omega
  have ea_ := ‹asnR _›
  have ea : fv (σ 31) = fv (σ 10) := ea_
  have ha_ := ‹absR [σ 31, σ 50]›
  have ha : fv (σ 50) = fv (σ 31) % 2 ^ 63 := ha_
  have R := dn_leaf (y := σ 51) (k := σ 53) (w := σ 54) (v := σ 56) pre ea ha (ten2 hq) ‹farV .mul .f64 _ _ = _ ∨ _› ‹_› ‹extRel .floor _ _› ‹farV .quo .f64 _ _ = _ ∨ _› (.inl ⟨‹_›, neg_fv ‹_› ‹unV .neg _ = some _›⟩)
  have n_ := ‹¬ reckRPre _›
  exact n_ R.1
theorem dnR_L12_ok : dnR_L12 := by
  intro σ; intros
  have pre_ := ‹dnRPre _›
  have pre : ∃ m, P64 (fv (σ 10)) m := pre_
  have e1_ := ‹asnWR _›
  have e1 : iv (σ 38) = iv (σ 22) := e1_
  have e2_ := ‹absWR [σ 38, σ 39, σ 45, σ 46]›
  have e2 : iv (σ 45) = iv (σ 38) := e2_
  have hq : iv (σ 22) = 2 := by omega
  have ea_ := ‹asnR _›
  have ea : fv (σ 31) = fv (σ 10) := ea_
  have ha_ := ‹absR [σ 31, σ 50]›
  have ha : fv (σ 50) = fv (σ 31) % 2 ^ 63 := ha_
  have R := dn_leaf (y := σ 51) (k := σ 53) (w := σ 54) (v := σ 54) pre ea ha (ten2 hq) ‹farV .mul .f64 _ _ = _ ∨ _› ‹_› ‹extRel .floor _ _› ‹farV .quo .f64 _ _ = _ ∨ _› (.inr ⟨‹_›, rfl⟩)
  have r0 := ‹reckR _›
  exact R.2 (σ 57) r0
theorem dnR_L13_ok : dnR_L13 := by
  intro σ; intros
  have pre_ := ‹dnRPre _›
  have pre : ∃ m, P64 (fv (σ 10)) m := pre_
  have e1_ := ‹asnWR _›
  have e1 : iv (σ 38) = iv (σ 22) := e1_
  have e2_ := ‹absWR [σ 38, σ 39, σ 45, σ 46]›
  have e2 : iv (σ 45) = iv (σ 38) := e2_
  have hq : iv (σ 22) = 2 := by omega
  have ea_ := ‹asnR _›
  have ea : fv (σ 31) = fv (σ 10) := ea_
  have ha_ := ‹absR [σ 31, σ 50]›
  have ha : fv (σ 50) = fv (σ 31) % 2 ^ 63 := ha_
  have R := dn_leaf (y := σ 51) (k := σ 53) (w := σ 54) (v := σ 54) pre ea ha (ten2 hq) ‹farV .mul .f64 _ _ = _ ∨ _› ‹_› ‹extRel .floor _ _› ‹farV .quo .f64 _ _ = _ ∨ _› (.inr ⟨‹_›, rfl⟩)
  have n_ := ‹¬ reckRPre _›
  exact n_ R.1
theorem dnR_L14_ok : dnR_L14 := by
  intro σ; intros
  have pre_ := ‹dnRPre _›
  have pre : ∃ m, P64 (fv (σ 10)) m := pre_
  have e1_ := ‹asnWR _›
  have e1 : iv (σ 38) = iv (σ 22) := e1_
  have e2_ := ‹absWR [σ 38, σ 39, σ 45, σ 46]›
  have e2 : iv (σ 45) = iv (σ 38) := e2_
  have hq : iv (σ 22) = 2 := by omega
  have ea_ := ‹asnR _›
  have ea : fv (σ 31) = fv (σ 10) := ea_
  have ha_ := ‹absR [σ 31, σ 50]›
  have ha : fv (σ 50) = fv (σ 31) % 2 ^ 63 := ha_
  have n_ := ‹¬ infRPre _›
  exact n_ (y_fin (y := σ 51) pre ea ha (ten2 hq) ‹farV .mul .f64 _ _ = _ ∨ _›)
theorem dnR_L15_ok : dnR_L15 := by
  intro σ; intros
  have pre_ := ‹dnRPre _›
  have pre : ∃ m, P64 (fv (σ 10)) m := pre_
  have e1_ := ‹asnWR _›
  have e1 : iv (σ 38) = iv (σ 22) := e1_
  have e2_ := ‹absWR [σ 38, σ 39, σ 45, σ 46]›
  have e2 : iv (σ 45) = iv (σ 38) := e2_
  have hq : iv (σ 22) = 1 := by omega
  have ea_ := ‹asnR _›
  have ea : fv (σ 31) = fv (σ 10) := ea_
  have ha_ := ‹absR [σ 31, σ 49]›
  have ha : fv (σ 49) = fv (σ 31) % 2 ^ 63 := ha_
  have i0_ := ‹infR _›
  have i0 : bv (σ 51) = false := i0_
  have i1 := ‹bv (σ 51) = true›
  rw [i0] at i1
  cases i1
theorem dnR_L16_ok : dnR_L16 := by
  intro σ; intros
  have pre_ := ‹dnRPre _›
  have pre : ∃ m, P64 (fv (σ 10)) m := pre_
  have e1_ := ‹asnWR _›
  have e1 : iv (σ 38) = iv (σ 22) := e1_
  have e2_ := ‹absWR [σ 38, σ 39, σ 45, σ 46]›
  have e2 : iv (σ 45) = iv (σ 38) := e2_
  have hq : iv (σ 22) = 1 := by omega
  have ea_ := ‹asnR _›
  have ea : fv (σ 31) = fv (σ 10) := ea_
  have ha_ := ‹absR [σ 31, σ 49]›
  have ha : fv (σ 49) = fv (σ 31) % 2 ^ 63 := ha_
  have i0_ := ‹infR _›
  have i0 : bv (σ 51) = false := i0_
  have i1 := ‹bv (σ 51) = true›
  rw [i0] at i1
  cases i1
theorem dnR_L17_ok : dnR_L17 := by
  intro σ; intros
  have pre_ := ‹dnRPre _›
  have pre : ∃ m, P64 (fv (σ 10)) m := pre_
  have e1_ := ‹asnWR _›
  have e1 : iv (σ 38) = iv (σ 22) := e1_
  have e2_ := ‹absWR [σ 38, σ 39, σ 45, σ 46]›
  have e2 : iv (σ 45) = iv (σ 38) := e2_
  have hq : iv (σ 22) = 1 := by omega
  have ea_ := ‹asnR _›
  have ea : fv (σ 31) = fv (σ 10) := ea_
  have ha_ := ‹absR [σ 31, σ 49]›
  have ha : fv (σ 49) = fv (σ 31) % 2 ^ 63 := ha_
  have R := dn_leaf (y := σ 50) (k := σ 52) (w := σ 53) (v := σ 55) pre ea ha (ten1 hq) ‹farV .mul .f64 _ _ = _ ∨ _› ‹_› ‹extRel .floor _ _› ‹farV .quo .f64 _ _ = _ ∨ _› (.inl ⟨‹_›, neg_fv ‹_› ‹unV .neg _ = some _›⟩)
  have r0 := ‹reckR _›
  exact R.2 (σ 57) r0
theorem dnR_L18_ok : dnR_L18 := by
  intro σ; intros
  have pre_ := ‹dnRPre _›
  have pre : ∃ m, P64 (fv (σ 10)) m := pre_
  have e1_ := ‹asnWR _›
  have e1 : iv (σ 38) = iv (σ 22) := e1_
  have e2_ := ‹absWR [σ 38, σ 39, σ 45, σ 46]›
  have e2 : iv (σ 45) = iv (σ 38) := e2_
  have hq : iv (σ 22) = 1 := by omega
  have ea_ := ‹asnR _›
  have ea : fv (σ 31) = fv (σ 10) := ea_
  have ha_ := ‹absR [σ 31, σ 49]›
  have ha : fv (σ 49) = fv (σ 31) % 2 ^ 63 := ha_
  have R := dn_leaf (y := σ 50) (k := σ 52) (w := σ 53) (v := σ 55) pre ea ha (ten1 hq) ‹farV .mul .f64 _ _ = _ ∨ _› ‹_› ‹extRel .floor _ _› ‹farV .quo .f64 _ _ = _ ∨ _› (.inl ⟨‹_›, neg_fv ‹_› ‹unV .neg _ = some _›⟩)
  have n_ := ‹¬ reckRPre _›
  exact n_ R.1
theorem dnR_L19_ok : dnR_L19 := by
  intro σ; intros
  have pre_ := ‹dnRPre _›
  have pre : ∃ m, P64 (fv (σ 10)) m := pre_
  have e1_ := ‹asnWR _›
  have e1 : iv (σ 38) = iv (σ 22) := e1_
  have e2_ := ‹absWR [σ 38, σ 39, σ 45, σ 46]›
  have e2 : iv (σ 45) = iv (σ 38) := e2_
  have hq : iv (σ 22) = 1 := by omega
  have ea_ := ‹asnR _›
  have ea : fv (σ 31) = fv (σ 10) := ea_
  have ha_ := ‹absR [σ 31, σ 49]›
  have ha : fv (σ 49) = fv (σ 31) % 2 ^ 63 := ha_
  have R := dn_leaf (y := σ 50) (k := σ 52) (w := σ 53) (v := σ 53) pre ea ha (ten1 hq) ‹farV .mul .f64 _ _ = _ ∨ _› ‹_› ‹extRel .floor _ _› ‹farV .quo .f64 _ _ = _ ∨ _› (.inr ⟨‹_›, rfl⟩)
  have r0 := ‹reckR _›
  exact R.2 (σ 56) r0
theorem dnR_L20_ok : dnR_L20 := by
  intro σ; intros
  have pre_ := ‹dnRPre _›
  have pre : ∃ m, P64 (fv (σ 10)) m := pre_
  have e1_ := ‹asnWR _›
  have e1 : iv (σ 38) = iv (σ 22) := e1_
  have e2_ := ‹absWR [σ 38, σ 39, σ 45, σ 46]›
  have e2 : iv (σ 45) = iv (σ 38) := e2_
  have hq : iv (σ 22) = 1 := by omega
  have ea_ := ‹asnR _›
  have ea : fv (σ 31) = fv (σ 10) := ea_
  have ha_ := ‹absR [σ 31, σ 49]›
  have ha : fv (σ 49) = fv (σ 31) % 2 ^ 63 := ha_
  have R := dn_leaf (y := σ 50) (k := σ 52) (w := σ 53) (v := σ 53) pre ea ha (ten1 hq) ‹farV .mul .f64 _ _ = _ ∨ _› ‹_› ‹extRel .floor _ _› ‹farV .quo .f64 _ _ = _ ∨ _› (.inr ⟨‹_›, rfl⟩)
  have n_ := ‹¬ reckRPre _›
  exact n_ R.1
theorem dnR_L21_ok : dnR_L21 := by
  intro σ; intros
  have pre_ := ‹dnRPre _›
  have pre : ∃ m, P64 (fv (σ 10)) m := pre_
  have e1_ := ‹asnWR _›
  have e1 : iv (σ 38) = iv (σ 22) := e1_
  have e2_ := ‹absWR [σ 38, σ 39, σ 45, σ 46]›
  have e2 : iv (σ 45) = iv (σ 38) := e2_
  have hq : iv (σ 22) = 1 := by omega
  have ea_ := ‹asnR _›
  have ea : fv (σ 31) = fv (σ 10) := ea_
  have ha_ := ‹absR [σ 31, σ 49]›
  have ha : fv (σ 49) = fv (σ 31) % 2 ^ 63 := ha_
  have n_ := ‹¬ infRPre _›
  exact n_ (y_fin (y := σ 50) pre ea ha (ten1 hq) ‹farV .mul .f64 _ _ = _ ∨ _›)
theorem dnR_L22_ok : dnR_L22 := by
  intro σ; intros
  have pre_ := ‹dnRPre _›
  have pre : ∃ m, P64 (fv (σ 10)) m := pre_
  have e1_ := ‹asnWR _›
  have e1 : iv (σ 38) = iv (σ 22) := e1_
  have e2_ := ‹absWR [σ 38, σ 39, σ 45, σ 46]›
  have e2 : iv (σ 45) = iv (σ 38) := e2_
  have hq : iv (σ 22) = 0 := by omega
  have ea_ := ‹asnR _›
  have ea : fv (σ 31) = fv (σ 10) := ea_
  have ha_ := ‹absR [σ 31, σ 48]›
  have ha : fv (σ 48) = fv (σ 31) % 2 ^ 63 := ha_
  have i0_ := ‹infR _›
  have i0 : bv (σ 50) = false := i0_
  have i1 := ‹bv (σ 50) = true›
  rw [i0] at i1
  cases i1
theorem dnR_L23_ok : dnR_L23 := by
  intro σ; intros
  have pre_ := ‹dnRPre _›
  have pre : ∃ m, P64 (fv (σ 10)) m := pre_
  have e1_ := ‹asnWR _›
  have e1 : iv (σ 38) = iv (σ 22) := e1_
  have e2_ := ‹absWR [σ 38, σ 39, σ 45, σ 46]›
  have e2 : iv (σ 45) = iv (σ 38) := e2_
  have hq : iv (σ 22) = 0 := by omega
  have ea_ := ‹asnR _›
  have ea : fv (σ 31) = fv (σ 10) := ea_
  have ha_ := ‹absR [σ 31, σ 48]›
  have ha : fv (σ 48) = fv (σ 31) % 2 ^ 63 := ha_
  have i0_ := ‹infR _›
  have i0 : bv (σ 50) = false := i0_
  have i1 := ‹bv (σ 50) = true›
  rw [i0] at i1
  cases i1
theorem dnR_L24_ok : dnR_L24 := by
  intro σ; intros
  have pre_ := ‹dnRPre _›
  have pre : ∃ m, P64 (fv (σ 10)) m := pre_
  have e1_ := ‹asnWR _›
  have e1 : iv (σ 38) = iv (σ 22) := e1_
  have e2_ := ‹absWR [σ 38, σ 39, σ 45, σ 46]›
  have e2 : iv (σ 45) = iv (σ 38) := e2_
  have hq : iv (σ 22) = 0 := by omega
  have ea_ := ‹asnR _›
  have ea : fv (σ 31) = fv (σ 10) := ea_
  have ha_ := ‹absR [σ 31, σ 48]›
  have ha : fv (σ 48) = fv (σ 31) % 2 ^ 63 := ha_
  have R := dn_leaf (y := σ 49) (k := σ 51) (w := σ 52) (v := σ 54) pre ea ha (ten0 hq) ‹farV .mul .f64 _ _ = _ ∨ _› ‹_› ‹extRel .floor _ _› ‹farV .quo .f64 _ _ = _ ∨ _› (.inl ⟨‹_›, neg_fv ‹_› ‹unV .neg _ = some _›⟩)
  have r0 := ‹reckR _›
  exact R.2 (σ 56) r0
theorem dnR_L25_ok : dnR_L25 := by
  intro σ; intros
  have pre_ := ‹dnRPre _›
  have pre : ∃ m, P64 (fv (σ 10)) m := pre_
  have e1_ := ‹asnWR _›
  have e1 : iv (σ 38) = iv (σ 22) := e1_
  have e2_ := ‹absWR [σ 38, σ 39, σ 45, σ 46]›
  have e2 : iv (σ 45) = iv (σ 38) := e2_
  have hq : iv (σ 22) = 0 := by omega
  have ea_ := ‹asnR _›
  have ea : fv (σ 31) = fv (σ 10) := ea_
  have ha_ := ‹absR [σ 31, σ 48]›
  have ha : fv (σ 48) = fv (σ 31) % 2 ^ 63 := ha_
  have R := dn_leaf (y := σ 49) (k := σ 51) (w := σ 52) (v := σ 54) pre ea ha (ten0 hq) ‹farV .mul .f64 _ _ = _ ∨ _› ‹_› ‹extRel .floor _ _› ‹farV .quo .f64 _ _ = _ ∨ _› (.inl ⟨‹_›, neg_fv ‹_› ‹unV .neg _ = some _›⟩)
  have n_ := ‹¬ reckRPre _›
  exact n_ R.1
theorem dnR_L26_ok : dnR_L26 := by
  intro σ; intros
  have pre_ := ‹dnRPre _›
  have pre : ∃ m, P64 (fv (σ 10)) m := pre_
  have e1_ := ‹asnWR _›
  have e1 : iv (σ 38) = iv (σ 22) := e1_
  have e2_ := ‹absWR [σ 38, σ 39, σ 45, σ 46]›
  have e2 : iv (σ 45) = iv (σ 38) := e2_
  have hq : iv (σ 22) = 0 := by omega
  have ea_ := ‹asnR _›
  have ea : fv (σ 31) = fv (σ 10) := ea_
  have ha_ := ‹absR [σ 31, σ 48]›
  have ha : fv (σ 48) = fv (σ 31) % 2 ^ 63 := ha_
  have R := dn_leaf (y := σ 49) (k := σ 51) (w := σ 52) (v := σ 52) pre ea ha (ten0 hq) ‹farV .mul .f64 _ _ = _ ∨ _› ‹_› ‹extRel .floor _ _› ‹farV .quo .f64 _ _ = _ ∨ _› (.inr ⟨‹_›, rfl⟩)
  have r0 := ‹reckR _›
  exact R.2 (σ 55) r0
theorem dnR_L27_ok : dnR_L27 := by
  intro σ; intros
  have pre_ := ‹dnRPre _›
  have pre : ∃ m, P64 (fv (σ 10)) m := pre_
  have e1_ := ‹asnWR _›
  have e1 : iv (σ 38) = iv (σ 22) := e1_
  have e2_ := ‹absWR [σ 38, σ 39, σ 45, σ 46]›
  have e2 : iv (σ 45) = iv (σ 38) := e2_
  have hq : iv (σ 22) = 0 := by omega
  have ea_ := ‹asnR _›
  have ea : fv (σ 31) = fv (σ 10) := ea_
  have ha_ := ‹absR [σ 31, σ 48]›
  have ha : fv (σ 48) = fv (σ 31) % 2 ^ 63 := ha_
  have R := dn_leaf (y := σ 49) (k := σ 51) (w := σ 52) (v := σ 52) pre ea ha (ten0 hq) ‹farV .mul .f64 _ _ = _ ∨ _› ‹_› ‹extRel .floor _ _› ‹farV .quo .f64 _ _ = _ ∨ _› (.inr ⟨‹_›, rfl⟩)
  have n_ := ‹¬ reckRPre _›
  exact n_ R.1
theorem dnR_L28_ok : dnR_L28 := by
  intro σ; intros
  have pre_ := ‹dnRPre _›
  have pre : ∃ m, P64 (fv (σ 10)) m := pre_
  have e1_ := ‹asnWR _›
  have e1 : iv (σ 38) = iv (σ 22) := e1_
  have e2_ := ‹absWR [σ 38, σ 39, σ 45, σ 46]›
  have e2 : iv (σ 45) = iv (σ 38) := e2_
  have hq : iv (σ 22) = 0 := by omega
  have ea_ := ‹asnR _›
  have ea : fv (σ 31) = fv (σ 10) := ea_
  have ha_ := ‹absR [σ 31, σ 48]›
  have ha : fv (σ 48) = fv (σ 31) % 2 ^ 63 := ha_
  have n_ := ‹¬ infRPre _›
  exact n_ (y_fin (y := σ 49) pre ea ha (ten0 hq) ‹farV .mul .f64 _ _ = _ ∨ _›)
theorem dnR_L29_ok : dnR_L29 := by
  intro σ; intros
  have pre_ := ‹dnRPre _›
  have pre : ∃ m, P64 (fv (σ 10)) m := pre_
  have n_ := ‹¬ asnRPre _›
  exact n_ (pre_nice pre)
theorem dnR_L30_ok : dnR_L30 := by
  intro σ; intros
  have pre_ := ‹dnRPre _›
  have pre : ∃ m, P64 (fv (σ 10)) m := pre_
  have n_ := ‹¬ chkRPre _›
  exact n_ (pre_nice pre)
theorem dn_ok : dnC.ok Tryz.prog All :=
  by_tie dnR_tie (by kernel_rfl) (all_cons absW_ok (all_cons abs_ok (all_cons inf_ok (all_cons chkW_ok (all_cons chk_ok (all_cons asnW_ok (all_cons asn_ok (all_cons reck_ok all_nil)))))))) ⟨dnR_L0_ok, dnR_L1_ok, dnR_L2_ok, dnR_L3_ok, dnR_L4_ok, dnR_L5_ok, dnR_L6_ok, dnR_L7_ok, dnR_L8_ok, dnR_L9_ok, dnR_L10_ok, dnR_L11_ok, dnR_L12_ok, dnR_L13_ok, dnR_L14_ok, dnR_L15_ok, dnR_L16_ok, dnR_L17_ok, dnR_L18_ok, dnR_L19_ok, dnR_L20_ok, dnR_L21_ok, dnR_L22_ok, dnR_L23_ok, dnR_L24_ok, dnR_L25_ok, dnR_L26_ok, dnR_L27_ok, dnR_L28_ok, dnR_L29_ok, dnR_L30_ok, trivial⟩
end Go.Proofs.Rnd
