/- LCM of two whole numbers. -/
import Derived.Test.YtgfoocnnidhepaaGreatDoorDivC
import Derived.Test.YtgfoocnnidhepaaGreatDoorFMod3
namespace Go.Proofs.Dv
open Go.Ev Go.RowKit Ieee Go.Proofs.YtgfoocnnidhepaaGreatDoor
set_option maxRecDepth 1000000
theorem lcm_is (x y : Nat) (h : Nat.gcd x y ≠ 0) : Nat.lcm x y = x / Nat.gcd x y * y := by
  obtain ⟨k, hk⟩ := Nat.gcd_dvd_left x y
  have e : x / Nat.gcd x y = k := by
    have h2 : x / Nat.gcd x y = Nat.gcd x y * k / Nat.gcd x y := congrArg (· / Nat.gcd x y) hk
    rw [h2, Nat.mul_div_cancel_left k (by omega)]
  rw [e]
  unfold Nat.lcm
  have h3 : x * y / Nat.gcd x y = Nat.gcd x y * (k * y) / Nat.gcd x y := congrArg (· / Nat.gcd x y) (by rw [← Nat.mul_assoc, ← hk])
  rw [h3, Nat.mul_div_cancel_left _ (by omega)]
theorem one_nr : (4607182418800017408 : Nat) = nr 1 := one_word.symm
def lR_L0 : Prop := ∀ σ : Nat → Value,
 σ 0 = (vS #[76,67,77]) →
 σ 2 = vF →
 σ 3 = vF →
 σ 4 = vO →
 σ 5 = vO →
 σ 7 = vZ →
 σ 8 = vZ →
 σ 9 = vO →
 tI (σ 10) →
 0 ≤ iv (σ 10) →
 iv (σ 10) ≤ 0 →
 tF (σ 11) →
 σ 12 = vE →
 σ 13 = vF →
 σ 14 = vZ →
 σ 15 = vF →
 σ 16 = vF →
 σ 17 = vO →
 σ 18 = vO →
 σ 20 = vZ →
 σ 21 = vZ →
 σ 22 = vO →
 tI (σ 23) →
 1 ≤ iv (σ 23) →
 iv (σ 23) ≤ 4294967295 →
 tF (σ 24) →
 σ 25 = vE →
 σ 26 = vF →
 σ 27 = vZ →
 σ 28 = .int .u64 (iv (σ 28)) →
 σ 29 = .int .u64 (iv (σ 29)) →
 σ 31 = .int .u64 (iv (σ 31)) →
 σ 32 = .int .u64 (iv (σ 32)) →
 σ 33 = vO →
 tI (σ 34) →
 0 ≤ iv (σ 34) →
 iv (σ 34) ≤ 0 →
 tF (σ 35) →
 σ 36 = vE →
 σ 37 = vF →
 σ 38 = vZ →
 σ 39 = vO →
 tI (σ 40) →
 0 ≤ iv (σ 40) →
 iv (σ 40) ≤ 4294967295 →
 tF (σ 41) →
 σ 42 = vE →
 σ 43 = vF →
 σ 44 = vZ →
 σ 46 = vO →
 tI (σ 47) →
 0 ≤ iv (σ 47) →
 iv (σ 47) ≤ 4294967295 →
 tF (σ 48) →
 σ 49 = vE →
 σ 50 = vF →
 σ 51 = vZ →
 fv (σ 24) = FloatKind.f64.nearest (iv (σ 23)) →
 fv (σ 11) = FloatKind.f64.nearest (iv (σ 10)) →
 extRel .fbits [σ 11] (σ 28) →
 ibin .andNot IntKind.u64 (iv (σ 28)) (9223372036854775808) = some (.int IntKind.u64 (iv (σ 29))) →
 extRel .fbits [σ 24] (σ 31) →
 ibin .andNot IntKind.u64 (iv (σ 31)) (9223372036854775808) = some (.int IntKind.u64 (iv (σ 32))) →
 fv (σ 35) = FloatKind.f64.nearest (iv (σ 34)) →
 reckWR [σ 10, σ 11, vO, σ 34, σ 35, vE, vF, vZ] →
 fv (σ 41) = FloatKind.f64.nearest (iv (σ 40)) →
 reckWR [σ 23, σ 24, vO, σ 40, σ 41, vE, vF, vZ] →
 fv (σ 48) = FloatKind.f64.nearest (iv (σ 47)) →
 reckWR [vZ, (vG 0), vO, σ 47, σ 48, vE, vF, vZ] →
 iv (σ 34) = 0 →
 iv (σ 10) = 0 →
    lR [(vS #[76,67,77]), vU, vF, vF, vO, vO, vU, vZ, vZ, vO, σ 10, σ 11, vE, vF, vZ, vF, vF, vO, vO, vU, vZ, vZ, vO, σ 23, σ 24, vE, vF, vZ, vO, σ 48, vE, vF, vZ, vT]
def lR_L1 : Prop := ∀ σ : Nat → Value,
 σ 0 = (vS #[76,67,77]) →
 σ 2 = vF →
 σ 3 = vF →
 σ 4 = vO →
 σ 5 = vO →
 σ 7 = vZ →
 σ 8 = vZ →
 σ 9 = vO →
 tI (σ 10) →
 0 ≤ iv (σ 10) →
 iv (σ 10) ≤ 0 →
 tF (σ 11) →
 σ 12 = vE →
 σ 13 = vF →
 σ 14 = vZ →
 σ 15 = vF →
 σ 16 = vF →
 σ 17 = vO →
 σ 18 = vO →
 σ 20 = vZ →
 σ 21 = vZ →
 σ 22 = vO →
 tI (σ 23) →
 1 ≤ iv (σ 23) →
 iv (σ 23) ≤ 4294967295 →
 tF (σ 24) →
 σ 25 = vE →
 σ 26 = vF →
 σ 27 = vZ →
 σ 28 = .int .u64 (iv (σ 28)) →
 σ 29 = .int .u64 (iv (σ 29)) →
 σ 31 = .int .u64 (iv (σ 31)) →
 σ 32 = .int .u64 (iv (σ 32)) →
 σ 33 = vO →
 tI (σ 34) →
 1 ≤ iv (σ 34) →
 iv (σ 34) ≤ 4294967295 →
 tF (σ 35) →
 σ 36 = vE →
 σ 37 = vF →
 σ 38 = vZ →
 σ 39 = vO →
 tI (σ 40) →
 0 ≤ iv (σ 40) →
 iv (σ 40) ≤ 4294967295 →
 tF (σ 41) →
 σ 42 = vE →
 σ 43 = vF →
 σ 44 = vZ →
 tF (σ 46) →
 tF (σ 47) →
 tF (σ 48) →
 tF (σ 49) →
 fv (σ 24) = FloatKind.f64.nearest (iv (σ 23)) →
 fv (σ 11) = FloatKind.f64.nearest (iv (σ 10)) →
 extRel .fbits [σ 11] (σ 28) →
 ibin .andNot IntKind.u64 (iv (σ 28)) (9223372036854775808) = some (.int IntKind.u64 (iv (σ 29))) →
 extRel .fbits [σ 24] (σ 31) →
 ibin .andNot IntKind.u64 (iv (σ 31)) (9223372036854775808) = some (.int IntKind.u64 (iv (σ 32))) →
 fv (σ 35) = FloatKind.f64.nearest (iv (σ 34)) →
 reckWR [σ 10, σ 11, vO, σ 34, σ 35, vE, vF, vZ] →
 fv (σ 41) = FloatKind.f64.nearest (iv (σ 40)) →
 reckWR [σ 23, σ 24, vO, σ 40, σ 41, vE, vF, vZ] →
 gcdR [(vG 4607182418800017408), σ 35, σ 46] →
 (farV .quo .f64 (4607182418800017408) (fv (σ 46)) = some (some (fv (σ 47))) ∨ (farV .quo .f64 (4607182418800017408) (fv (σ 46)) = some none ∧ Nan64 (fv (σ 47)))) →
 (farV .quo .f64 (4845873199050653696) (fv (σ 35)) = some (some (fv (σ 48))) ∨ (farV .quo .f64 (4845873199050653696) (fv (σ 35)) = some none ∧ Nan64 (fv (σ 48)))) →
 extRel .floor [σ 48] (σ 49) →
 ford (fv (σ 47)) (fv (σ 49)) ≠ some .lt ∧ ford (fv (σ 47)) (fv (σ 49)) ≠ some .eq →
 bv (σ 50) = !true →
 iv (σ 34) ≠ 0 →
 iv (σ 10) = 0 →
    lR [(vS #[76,67,77]), vU, vF, vF, vO, vO, vU, vZ, vZ, vO, σ 10, σ 11, vE, vF, vZ, vF, vF, vO, vO, vU, vZ, vZ, vO, σ 23, σ 24, vE, vF, vZ, (vI 4), (vG 0), vE, vF, (vI 6), vT]
def lR_L2 : Prop := ∀ σ : Nat → Value,
 σ 0 = (vS #[76,67,77]) →
 σ 2 = vF →
 σ 3 = vF →
 σ 4 = vO →
 σ 5 = vO →
 σ 7 = vZ →
 σ 8 = vZ →
 σ 9 = vO →
 tI (σ 10) →
 0 ≤ iv (σ 10) →
 iv (σ 10) ≤ 0 →
 tF (σ 11) →
 σ 12 = vE →
 σ 13 = vF →
 σ 14 = vZ →
 σ 15 = vF →
 σ 16 = vF →
 σ 17 = vO →
 σ 18 = vO →
 σ 20 = vZ →
 σ 21 = vZ →
 σ 22 = vO →
 tI (σ 23) →
 1 ≤ iv (σ 23) →
 iv (σ 23) ≤ 4294967295 →
 tF (σ 24) →
 σ 25 = vE →
 σ 26 = vF →
 σ 27 = vZ →
 σ 28 = .int .u64 (iv (σ 28)) →
 σ 29 = .int .u64 (iv (σ 29)) →
 σ 31 = .int .u64 (iv (σ 31)) →
 σ 32 = .int .u64 (iv (σ 32)) →
 σ 33 = vO →
 tI (σ 34) →
 1 ≤ iv (σ 34) →
 iv (σ 34) ≤ 4294967295 →
 tF (σ 35) →
 σ 36 = vE →
 σ 37 = vF →
 σ 38 = vZ →
 σ 39 = vO →
 tI (σ 40) →
 0 ≤ iv (σ 40) →
 iv (σ 40) ≤ 4294967295 →
 tF (σ 41) →
 σ 42 = vE →
 σ 43 = vF →
 σ 44 = vZ →
 tF (σ 46) →
 tF (σ 47) →
 tF (σ 48) →
 tF (σ 49) →
 tF (σ 52) →
 σ 54 = vO →
 tI (σ 55) →
 0 ≤ iv (σ 55) →
 iv (σ 55) ≤ 4294967295 →
 tF (σ 56) →
 σ 57 = vE →
 σ 58 = vF →
 σ 59 = vZ →
 fv (σ 24) = FloatKind.f64.nearest (iv (σ 23)) →
 fv (σ 11) = FloatKind.f64.nearest (iv (σ 10)) →
 extRel .fbits [σ 11] (σ 28) →
 ibin .andNot IntKind.u64 (iv (σ 28)) (9223372036854775808) = some (.int IntKind.u64 (iv (σ 29))) →
 extRel .fbits [σ 24] (σ 31) →
 ibin .andNot IntKind.u64 (iv (σ 31)) (9223372036854775808) = some (.int IntKind.u64 (iv (σ 32))) →
 fv (σ 35) = FloatKind.f64.nearest (iv (σ 34)) →
 reckWR [σ 10, σ 11, vO, σ 34, σ 35, vE, vF, vZ] →
 fv (σ 41) = FloatKind.f64.nearest (iv (σ 40)) →
 reckWR [σ 23, σ 24, vO, σ 40, σ 41, vE, vF, vZ] →
 gcdR [(vG 4607182418800017408), σ 35, σ 46] →
 (farV .quo .f64 (4607182418800017408) (fv (σ 46)) = some (some (fv (σ 47))) ∨ (farV .quo .f64 (4607182418800017408) (fv (σ 46)) = some none ∧ Nan64 (fv (σ 47)))) →
 (farV .quo .f64 (4845873199050653696) (fv (σ 35)) = some (some (fv (σ 48))) ∨ (farV .quo .f64 (4845873199050653696) (fv (σ 35)) = some none ∧ Nan64 (fv (σ 48)))) →
 extRel .floor [σ 48] (σ 49) →
 (farV .mul .f64 (fv (σ 47)) (fv (σ 35)) = some (some (fv (σ 52))) ∨ (farV .mul .f64 (fv (σ 47)) (fv (σ 35)) = some none ∧ Nan64 (fv (σ 52)))) →
 fv (σ 56) = FloatKind.f64.nearest (iv (σ 55)) →
 reckWR [vZ, (vG 0), vO, σ 55, σ 56, vE, vF, vZ] →
 ford (fv (σ 52)) (0) = some .eq →
 ford (fv (σ 47)) (fv (σ 49)) = some .lt ∨ ford (fv (σ 47)) (fv (σ 49)) = some .eq →
 bv (σ 50) = !false →
 iv (σ 34) ≠ 0 →
 iv (σ 10) = 0 →
    lR [(vS #[76,67,77]), vU, vF, vF, vO, vO, vU, vZ, vZ, vO, σ 10, σ 11, vE, vF, vZ, vF, vF, vO, vO, vU, vZ, vZ, vO, σ 23, σ 24, vE, vF, vZ, vO, σ 56, vE, vF, vZ, vT]
def lR_L3 : Prop := ∀ σ : Nat → Value,
 σ 0 = (vS #[76,67,77]) →
 σ 2 = vF →
 σ 3 = vF →
 σ 4 = vO →
 σ 5 = vO →
 σ 7 = vZ →
 σ 8 = vZ →
 σ 9 = vO →
 tI (σ 10) →
 0 ≤ iv (σ 10) →
 iv (σ 10) ≤ 0 →
 tF (σ 11) →
 σ 12 = vE →
 σ 13 = vF →
 σ 14 = vZ →
 σ 15 = vF →
 σ 16 = vF →
 σ 17 = vO →
 σ 18 = vO →
 σ 20 = vZ →
 σ 21 = vZ →
 σ 22 = vO →
 tI (σ 23) →
 1 ≤ iv (σ 23) →
 iv (σ 23) ≤ 4294967295 →
 tF (σ 24) →
 σ 25 = vE →
 σ 26 = vF →
 σ 27 = vZ →
 σ 28 = .int .u64 (iv (σ 28)) →
 σ 29 = .int .u64 (iv (σ 29)) →
 σ 31 = .int .u64 (iv (σ 31)) →
 σ 32 = .int .u64 (iv (σ 32)) →
 σ 33 = vO →
 tI (σ 34) →
 1 ≤ iv (σ 34) →
 iv (σ 34) ≤ 4294967295 →
 tF (σ 35) →
 σ 36 = vE →
 σ 37 = vF →
 σ 38 = vZ →
 σ 39 = vO →
 tI (σ 40) →
 0 ≤ iv (σ 40) →
 iv (σ 40) ≤ 0 →
 tF (σ 41) →
 σ 42 = vE →
 σ 43 = vF →
 σ 44 = vZ →
 tF (σ 46) →
 tF (σ 47) →
 tF (σ 48) →
 tF (σ 49) →
 tF (σ 52) →
 σ 55 = vO →
 tI (σ 56) →
 0 ≤ iv (σ 56) →
 iv (σ 56) ≤ 4294967295 →
 tF (σ 57) →
 σ 58 = vE →
 σ 59 = vF →
 σ 60 = vZ →
 fv (σ 24) = FloatKind.f64.nearest (iv (σ 23)) →
 fv (σ 11) = FloatKind.f64.nearest (iv (σ 10)) →
 extRel .fbits [σ 11] (σ 28) →
 ibin .andNot IntKind.u64 (iv (σ 28)) (9223372036854775808) = some (.int IntKind.u64 (iv (σ 29))) →
 extRel .fbits [σ 24] (σ 31) →
 ibin .andNot IntKind.u64 (iv (σ 31)) (9223372036854775808) = some (.int IntKind.u64 (iv (σ 32))) →
 fv (σ 35) = FloatKind.f64.nearest (iv (σ 34)) →
 reckWR [σ 10, σ 11, vO, σ 34, σ 35, vE, vF, vZ] →
 fv (σ 41) = FloatKind.f64.nearest (iv (σ 40)) →
 reckWR [σ 23, σ 24, vO, σ 40, σ 41, vE, vF, vZ] →
 gcdR [(vG 4607182418800017408), σ 35, σ 46] →
 (farV .quo .f64 (4607182418800017408) (fv (σ 46)) = some (some (fv (σ 47))) ∨ (farV .quo .f64 (4607182418800017408) (fv (σ 46)) = some none ∧ Nan64 (fv (σ 47)))) →
 (farV .quo .f64 (4845873199050653696) (fv (σ 35)) = some (some (fv (σ 48))) ∨ (farV .quo .f64 (4845873199050653696) (fv (σ 35)) = some none ∧ Nan64 (fv (σ 48)))) →
 extRel .floor [σ 48] (σ 49) →
 (farV .mul .f64 (fv (σ 47)) (fv (σ 35)) = some (some (fv (σ 52))) ∨ (farV .mul .f64 (fv (σ 47)) (fv (σ 35)) = some none ∧ Nan64 (fv (σ 52)))) →
 fv (σ 57) = FloatKind.f64.nearest (iv (σ 56)) →
 reckWR [vZ, (vG 0), vO, σ 56, σ 57, vE, vF, vZ] →
 iv (σ 40) = 0 →
 ford (fv (σ 52)) (0) ≠ some .eq →
 ford (fv (σ 47)) (fv (σ 49)) = some .lt ∨ ford (fv (σ 47)) (fv (σ 49)) = some .eq →
 bv (σ 50) = !false →
 iv (σ 34) ≠ 0 →
 iv (σ 10) = 0 →
    lR [(vS #[76,67,77]), vU, vF, vF, vO, vO, vU, vZ, vZ, vO, σ 10, σ 11, vE, vF, vZ, vF, vF, vO, vO, vU, vZ, vZ, vO, σ 23, σ 24, vE, vF, vZ, vO, σ 57, vE, vF, vZ, vT]
def lR_L4 : Prop := ∀ σ : Nat → Value,
 σ 0 = (vS #[76,67,77]) →
 σ 2 = vF →
 σ 3 = vF →
 σ 4 = vO →
 σ 5 = vO →
 σ 7 = vZ →
 σ 8 = vZ →
 σ 9 = vO →
 tI (σ 10) →
 0 ≤ iv (σ 10) →
 iv (σ 10) ≤ 0 →
 tF (σ 11) →
 σ 12 = vE →
 σ 13 = vF →
 σ 14 = vZ →
 σ 15 = vF →
 σ 16 = vF →
 σ 17 = vO →
 σ 18 = vO →
 σ 20 = vZ →
 σ 21 = vZ →
 σ 22 = vO →
 tI (σ 23) →
 1 ≤ iv (σ 23) →
 iv (σ 23) ≤ 4294967295 →
 tF (σ 24) →
 σ 25 = vE →
 σ 26 = vF →
 σ 27 = vZ →
 σ 28 = .int .u64 (iv (σ 28)) →
 σ 29 = .int .u64 (iv (σ 29)) →
 σ 31 = .int .u64 (iv (σ 31)) →
 σ 32 = .int .u64 (iv (σ 32)) →
 σ 33 = vO →
 tI (σ 34) →
 1 ≤ iv (σ 34) →
 iv (σ 34) ≤ 4294967295 →
 tF (σ 35) →
 σ 36 = vE →
 σ 37 = vF →
 σ 38 = vZ →
 σ 39 = vO →
 tI (σ 40) →
 1 ≤ iv (σ 40) →
 iv (σ 40) ≤ 4294967295 →
 tF (σ 41) →
 σ 42 = vE →
 σ 43 = vF →
 σ 44 = vZ →
 tF (σ 46) →
 tF (σ 47) →
 tF (σ 48) →
 tF (σ 49) →
 tF (σ 52) →
 tF (σ 55) →
 tF (σ 56) →
 tF (σ 57) →
 tF (σ 58) →
 fv (σ 24) = FloatKind.f64.nearest (iv (σ 23)) →
 fv (σ 11) = FloatKind.f64.nearest (iv (σ 10)) →
 extRel .fbits [σ 11] (σ 28) →
 ibin .andNot IntKind.u64 (iv (σ 28)) (9223372036854775808) = some (.int IntKind.u64 (iv (σ 29))) →
 extRel .fbits [σ 24] (σ 31) →
 ibin .andNot IntKind.u64 (iv (σ 31)) (9223372036854775808) = some (.int IntKind.u64 (iv (σ 32))) →
 fv (σ 35) = FloatKind.f64.nearest (iv (σ 34)) →
 reckWR [σ 10, σ 11, vO, σ 34, σ 35, vE, vF, vZ] →
 fv (σ 41) = FloatKind.f64.nearest (iv (σ 40)) →
 reckWR [σ 23, σ 24, vO, σ 40, σ 41, vE, vF, vZ] →
 gcdR [(vG 4607182418800017408), σ 35, σ 46] →
 (farV .quo .f64 (4607182418800017408) (fv (σ 46)) = some (some (fv (σ 47))) ∨ (farV .quo .f64 (4607182418800017408) (fv (σ 46)) = some none ∧ Nan64 (fv (σ 47)))) →
 (farV .quo .f64 (4845873199050653696) (fv (σ 35)) = some (some (fv (σ 48))) ∨ (farV .quo .f64 (4845873199050653696) (fv (σ 35)) = some none ∧ Nan64 (fv (σ 48)))) →
 extRel .floor [σ 48] (σ 49) →
 (farV .mul .f64 (fv (σ 47)) (fv (σ 35)) = some (some (fv (σ 52))) ∨ (farV .mul .f64 (fv (σ 47)) (fv (σ 35)) = some none ∧ Nan64 (fv (σ 52)))) →
 gcdR [σ 52, σ 41, σ 55] →
 (farV .quo .f64 (fv (σ 52)) (fv (σ 55)) = some (some (fv (σ 56))) ∨ (farV .quo .f64 (fv (σ 52)) (fv (σ 55)) = some none ∧ Nan64 (fv (σ 56)))) →
 (farV .quo .f64 (4845873199050653696) (fv (σ 41)) = some (some (fv (σ 57))) ∨ (farV .quo .f64 (4845873199050653696) (fv (σ 41)) = some none ∧ Nan64 (fv (σ 57)))) →
 extRel .floor [σ 57] (σ 58) →
 ford (fv (σ 56)) (fv (σ 58)) ≠ some .lt ∧ ford (fv (σ 56)) (fv (σ 58)) ≠ some .eq →
 bv (σ 59) = !true →
 iv (σ 40) ≠ 0 →
 ford (fv (σ 52)) (0) ≠ some .eq →
 ford (fv (σ 47)) (fv (σ 49)) = some .lt ∨ ford (fv (σ 47)) (fv (σ 49)) = some .eq →
 bv (σ 50) = !false →
 iv (σ 34) ≠ 0 →
 iv (σ 10) = 0 →
    lR [(vS #[76,67,77]), vU, vF, vF, vO, vO, vU, vZ, vZ, vO, σ 10, σ 11, vE, vF, vZ, vF, vF, vO, vO, vU, vZ, vZ, vO, σ 23, σ 24, vE, vF, vZ, (vI 4), (vG 0), vE, vF, (vI 6), vT]
def lR_L5 : Prop := ∀ σ : Nat → Value,
 σ 0 = (vS #[76,67,77]) →
 σ 2 = vF →
 σ 3 = vF →
 σ 4 = vO →
 σ 5 = vO →
 σ 7 = vZ →
 σ 8 = vZ →
 σ 9 = vO →
 tI (σ 10) →
 0 ≤ iv (σ 10) →
 iv (σ 10) ≤ 0 →
 tF (σ 11) →
 σ 12 = vE →
 σ 13 = vF →
 σ 14 = vZ →
 σ 15 = vF →
 σ 16 = vF →
 σ 17 = vO →
 σ 18 = vO →
 σ 20 = vZ →
 σ 21 = vZ →
 σ 22 = vO →
 tI (σ 23) →
 1 ≤ iv (σ 23) →
 iv (σ 23) ≤ 4294967295 →
 tF (σ 24) →
 σ 25 = vE →
 σ 26 = vF →
 σ 27 = vZ →
 σ 28 = .int .u64 (iv (σ 28)) →
 σ 29 = .int .u64 (iv (σ 29)) →
 σ 31 = .int .u64 (iv (σ 31)) →
 σ 32 = .int .u64 (iv (σ 32)) →
 σ 33 = vO →
 tI (σ 34) →
 1 ≤ iv (σ 34) →
 iv (σ 34) ≤ 4294967295 →
 tF (σ 35) →
 σ 36 = vE →
 σ 37 = vF →
 σ 38 = vZ →
 σ 39 = vO →
 tI (σ 40) →
 1 ≤ iv (σ 40) →
 iv (σ 40) ≤ 4294967295 →
 tF (σ 41) →
 σ 42 = vE →
 σ 43 = vF →
 σ 44 = vZ →
 tF (σ 46) →
 tF (σ 47) →
 tF (σ 48) →
 tF (σ 49) →
 tF (σ 52) →
 tF (σ 55) →
 tF (σ 56) →
 tF (σ 57) →
 tF (σ 58) →
 tF (σ 61) →
 σ 62 = vO →
 tF (σ 63) →
 σ 64 = vE →
 σ 65 = vF →
 σ 66 = vZ →
 fv (σ 24) = FloatKind.f64.nearest (iv (σ 23)) →
 fv (σ 11) = FloatKind.f64.nearest (iv (σ 10)) →
 extRel .fbits [σ 11] (σ 28) →
 ibin .andNot IntKind.u64 (iv (σ 28)) (9223372036854775808) = some (.int IntKind.u64 (iv (σ 29))) →
 extRel .fbits [σ 24] (σ 31) →
 ibin .andNot IntKind.u64 (iv (σ 31)) (9223372036854775808) = some (.int IntKind.u64 (iv (σ 32))) →
 fv (σ 35) = FloatKind.f64.nearest (iv (σ 34)) →
 reckWR [σ 10, σ 11, vO, σ 34, σ 35, vE, vF, vZ] →
 fv (σ 41) = FloatKind.f64.nearest (iv (σ 40)) →
 reckWR [σ 23, σ 24, vO, σ 40, σ 41, vE, vF, vZ] →
 gcdR [(vG 4607182418800017408), σ 35, σ 46] →
 (farV .quo .f64 (4607182418800017408) (fv (σ 46)) = some (some (fv (σ 47))) ∨ (farV .quo .f64 (4607182418800017408) (fv (σ 46)) = some none ∧ Nan64 (fv (σ 47)))) →
 (farV .quo .f64 (4845873199050653696) (fv (σ 35)) = some (some (fv (σ 48))) ∨ (farV .quo .f64 (4845873199050653696) (fv (σ 35)) = some none ∧ Nan64 (fv (σ 48)))) →
 extRel .floor [σ 48] (σ 49) →
 (farV .mul .f64 (fv (σ 47)) (fv (σ 35)) = some (some (fv (σ 52))) ∨ (farV .mul .f64 (fv (σ 47)) (fv (σ 35)) = some none ∧ Nan64 (fv (σ 52)))) →
 gcdR [σ 52, σ 41, σ 55] →
 (farV .quo .f64 (fv (σ 52)) (fv (σ 55)) = some (some (fv (σ 56))) ∨ (farV .quo .f64 (fv (σ 52)) (fv (σ 55)) = some none ∧ Nan64 (fv (σ 56)))) →
 (farV .quo .f64 (4845873199050653696) (fv (σ 41)) = some (some (fv (σ 57))) ∨ (farV .quo .f64 (4845873199050653696) (fv (σ 41)) = some none ∧ Nan64 (fv (σ 57)))) →
 extRel .floor [σ 57] (σ 58) →
 (farV .mul .f64 (fv (σ 56)) (fv (σ 41)) = some (some (fv (σ 61))) ∨ (farV .mul .f64 (fv (σ 56)) (fv (σ 41)) = some none ∧ Nan64 (fv (σ 61)))) →
 reckR [σ 61, vO, σ 63, vE, vF, vZ] →
 ford (fv (σ 56)) (fv (σ 58)) = some .lt ∨ ford (fv (σ 56)) (fv (σ 58)) = some .eq →
 bv (σ 59) = !false →
 iv (σ 40) ≠ 0 →
 ford (fv (σ 52)) (0) ≠ some .eq →
 ford (fv (σ 47)) (fv (σ 49)) = some .lt ∨ ford (fv (σ 47)) (fv (σ 49)) = some .eq →
 bv (σ 50) = !false →
 iv (σ 34) ≠ 0 →
 iv (σ 10) = 0 →
    lR [(vS #[76,67,77]), vU, vF, vF, vO, vO, vU, vZ, vZ, vO, σ 10, σ 11, vE, vF, vZ, vF, vF, vO, vO, vU, vZ, vZ, vO, σ 23, σ 24, vE, vF, vZ, vO, σ 63, vE, vF, vZ, vT]
def lR_L6 : Prop := ∀ σ : Nat → Value,
 σ 0 = (vS #[76,67,77]) →
 σ 2 = vF →
 σ 3 = vF →
 σ 4 = vO →
 σ 5 = vO →
 σ 7 = vZ →
 σ 8 = vZ →
 σ 9 = vO →
 tI (σ 10) →
 0 ≤ iv (σ 10) →
 iv (σ 10) ≤ 0 →
 tF (σ 11) →
 σ 12 = vE →
 σ 13 = vF →
 σ 14 = vZ →
 σ 15 = vF →
 σ 16 = vF →
 σ 17 = vO →
 σ 18 = vO →
 σ 20 = vZ →
 σ 21 = vZ →
 σ 22 = vO →
 tI (σ 23) →
 1 ≤ iv (σ 23) →
 iv (σ 23) ≤ 4294967295 →
 tF (σ 24) →
 σ 25 = vE →
 σ 26 = vF →
 σ 27 = vZ →
 σ 28 = .int .u64 (iv (σ 28)) →
 σ 29 = .int .u64 (iv (σ 29)) →
 σ 31 = .int .u64 (iv (σ 31)) →
 σ 32 = .int .u64 (iv (σ 32)) →
 σ 33 = vO →
 tI (σ 34) →
 1 ≤ iv (σ 34) →
 iv (σ 34) ≤ 4294967295 →
 tF (σ 35) →
 σ 36 = vE →
 σ 37 = vF →
 σ 38 = vZ →
 σ 39 = vO →
 tI (σ 40) →
 1 ≤ iv (σ 40) →
 iv (σ 40) ≤ 4294967295 →
 tF (σ 41) →
 σ 42 = vE →
 σ 43 = vF →
 σ 44 = vZ →
 tF (σ 46) →
 tF (σ 47) →
 tF (σ 48) →
 tF (σ 49) →
 tF (σ 52) →
 tF (σ 55) →
 tF (σ 56) →
 tF (σ 57) →
 tF (σ 58) →
 tF (σ 61) →
 fv (σ 24) = FloatKind.f64.nearest (iv (σ 23)) →
 fv (σ 11) = FloatKind.f64.nearest (iv (σ 10)) →
 extRel .fbits [σ 11] (σ 28) →
 ibin .andNot IntKind.u64 (iv (σ 28)) (9223372036854775808) = some (.int IntKind.u64 (iv (σ 29))) →
 extRel .fbits [σ 24] (σ 31) →
 ibin .andNot IntKind.u64 (iv (σ 31)) (9223372036854775808) = some (.int IntKind.u64 (iv (σ 32))) →
 fv (σ 35) = FloatKind.f64.nearest (iv (σ 34)) →
 reckWR [σ 10, σ 11, vO, σ 34, σ 35, vE, vF, vZ] →
 fv (σ 41) = FloatKind.f64.nearest (iv (σ 40)) →
 reckWR [σ 23, σ 24, vO, σ 40, σ 41, vE, vF, vZ] →
 gcdR [(vG 4607182418800017408), σ 35, σ 46] →
 (farV .quo .f64 (4607182418800017408) (fv (σ 46)) = some (some (fv (σ 47))) ∨ (farV .quo .f64 (4607182418800017408) (fv (σ 46)) = some none ∧ Nan64 (fv (σ 47)))) →
 (farV .quo .f64 (4845873199050653696) (fv (σ 35)) = some (some (fv (σ 48))) ∨ (farV .quo .f64 (4845873199050653696) (fv (σ 35)) = some none ∧ Nan64 (fv (σ 48)))) →
 extRel .floor [σ 48] (σ 49) →
 (farV .mul .f64 (fv (σ 47)) (fv (σ 35)) = some (some (fv (σ 52))) ∨ (farV .mul .f64 (fv (σ 47)) (fv (σ 35)) = some none ∧ Nan64 (fv (σ 52)))) →
 gcdR [σ 52, σ 41, σ 55] →
 (farV .quo .f64 (fv (σ 52)) (fv (σ 55)) = some (some (fv (σ 56))) ∨ (farV .quo .f64 (fv (σ 52)) (fv (σ 55)) = some none ∧ Nan64 (fv (σ 56)))) →
 (farV .quo .f64 (4845873199050653696) (fv (σ 41)) = some (some (fv (σ 57))) ∨ (farV .quo .f64 (4845873199050653696) (fv (σ 41)) = some none ∧ Nan64 (fv (σ 57)))) →
 extRel .floor [σ 57] (σ 58) →
 (farV .mul .f64 (fv (σ 56)) (fv (σ 41)) = some (some (fv (σ 61))) ∨ (farV .mul .f64 (fv (σ 56)) (fv (σ 41)) = some none ∧ Nan64 (fv (σ 61)))) →
 ¬ reckRPre [σ 61] →
 ford (fv (σ 56)) (fv (σ 58)) = some .lt ∨ ford (fv (σ 56)) (fv (σ 58)) = some .eq →
 bv (σ 59) = !false →
 iv (σ 40) ≠ 0 →
 ford (fv (σ 52)) (0) ≠ some .eq →
 ford (fv (σ 47)) (fv (σ 49)) = some .lt ∨ ford (fv (σ 47)) (fv (σ 49)) = some .eq →
 bv (σ 50) = !false →
 iv (σ 34) ≠ 0 →
 iv (σ 10) = 0 →
    False
def lR_L7 : Prop := ∀ σ : Nat → Value,
 σ 0 = (vS #[76,67,77]) →
 σ 2 = vF →
 σ 3 = vF →
 σ 4 = vO →
 σ 5 = vO →
 σ 7 = vZ →
 σ 8 = vZ →
 σ 9 = vO →
 tI (σ 10) →
 0 ≤ iv (σ 10) →
 iv (σ 10) ≤ 0 →
 tF (σ 11) →
 σ 12 = vE →
 σ 13 = vF →
 σ 14 = vZ →
 σ 15 = vF →
 σ 16 = vF →
 σ 17 = vO →
 σ 18 = vO →
 σ 20 = vZ →
 σ 21 = vZ →
 σ 22 = vO →
 tI (σ 23) →
 1 ≤ iv (σ 23) →
 iv (σ 23) ≤ 4294967295 →
 tF (σ 24) →
 σ 25 = vE →
 σ 26 = vF →
 σ 27 = vZ →
 σ 28 = .int .u64 (iv (σ 28)) →
 σ 29 = .int .u64 (iv (σ 29)) →
 σ 31 = .int .u64 (iv (σ 31)) →
 σ 32 = .int .u64 (iv (σ 32)) →
 σ 33 = vO →
 tI (σ 34) →
 1 ≤ iv (σ 34) →
 iv (σ 34) ≤ 4294967295 →
 tF (σ 35) →
 σ 36 = vE →
 σ 37 = vF →
 σ 38 = vZ →
 σ 39 = vO →
 tI (σ 40) →
 1 ≤ iv (σ 40) →
 iv (σ 40) ≤ 4294967295 →
 tF (σ 41) →
 σ 42 = vE →
 σ 43 = vF →
 σ 44 = vZ →
 tF (σ 46) →
 tF (σ 47) →
 tF (σ 48) →
 tF (σ 49) →
 tF (σ 52) →
 fv (σ 24) = FloatKind.f64.nearest (iv (σ 23)) →
 fv (σ 11) = FloatKind.f64.nearest (iv (σ 10)) →
 extRel .fbits [σ 11] (σ 28) →
 ibin .andNot IntKind.u64 (iv (σ 28)) (9223372036854775808) = some (.int IntKind.u64 (iv (σ 29))) →
 extRel .fbits [σ 24] (σ 31) →
 ibin .andNot IntKind.u64 (iv (σ 31)) (9223372036854775808) = some (.int IntKind.u64 (iv (σ 32))) →
 fv (σ 35) = FloatKind.f64.nearest (iv (σ 34)) →
 reckWR [σ 10, σ 11, vO, σ 34, σ 35, vE, vF, vZ] →
 fv (σ 41) = FloatKind.f64.nearest (iv (σ 40)) →
 reckWR [σ 23, σ 24, vO, σ 40, σ 41, vE, vF, vZ] →
 gcdR [(vG 4607182418800017408), σ 35, σ 46] →
 (farV .quo .f64 (4607182418800017408) (fv (σ 46)) = some (some (fv (σ 47))) ∨ (farV .quo .f64 (4607182418800017408) (fv (σ 46)) = some none ∧ Nan64 (fv (σ 47)))) →
 (farV .quo .f64 (4845873199050653696) (fv (σ 35)) = some (some (fv (σ 48))) ∨ (farV .quo .f64 (4845873199050653696) (fv (σ 35)) = some none ∧ Nan64 (fv (σ 48)))) →
 extRel .floor [σ 48] (σ 49) →
 (farV .mul .f64 (fv (σ 47)) (fv (σ 35)) = some (some (fv (σ 52))) ∨ (farV .mul .f64 (fv (σ 47)) (fv (σ 35)) = some none ∧ Nan64 (fv (σ 52)))) →
 ¬ gcdRPre [σ 52, σ 41] →
 iv (σ 40) ≠ 0 →
 ford (fv (σ 52)) (0) ≠ some .eq →
 ford (fv (σ 47)) (fv (σ 49)) = some .lt ∨ ford (fv (σ 47)) (fv (σ 49)) = some .eq →
 bv (σ 50) = !false →
 iv (σ 34) ≠ 0 →
 iv (σ 10) = 0 →
    False
def lR_L8 : Prop := ∀ σ : Nat → Value,
 σ 0 = (vS #[76,67,77]) →
 σ 2 = vF →
 σ 3 = vF →
 σ 4 = vO →
 σ 5 = vO →
 σ 7 = vZ →
 σ 8 = vZ →
 σ 9 = vO →
 tI (σ 10) →
 0 ≤ iv (σ 10) →
 iv (σ 10) ≤ 0 →
 tF (σ 11) →
 σ 12 = vE →
 σ 13 = vF →
 σ 14 = vZ →
 σ 15 = vF →
 σ 16 = vF →
 σ 17 = vO →
 σ 18 = vO →
 σ 20 = vZ →
 σ 21 = vZ →
 σ 22 = vO →
 tI (σ 23) →
 1 ≤ iv (σ 23) →
 iv (σ 23) ≤ 4294967295 →
 tF (σ 24) →
 σ 25 = vE →
 σ 26 = vF →
 σ 27 = vZ →
 σ 28 = .int .u64 (iv (σ 28)) →
 σ 29 = .int .u64 (iv (σ 29)) →
 σ 31 = .int .u64 (iv (σ 31)) →
 σ 32 = .int .u64 (iv (σ 32)) →
 σ 33 = vO →
 tI (σ 34) →
 1 ≤ iv (σ 34) →
 iv (σ 34) ≤ 4294967295 →
 tF (σ 35) →
 σ 36 = vE →
 σ 37 = vF →
 σ 38 = vZ →
 σ 39 = vO →
 tI (σ 40) →
 0 ≤ iv (σ 40) →
 iv (σ 40) ≤ 4294967295 →
 tF (σ 41) →
 σ 42 = vE →
 σ 43 = vF →
 σ 44 = vZ →
 fv (σ 24) = FloatKind.f64.nearest (iv (σ 23)) →
 fv (σ 11) = FloatKind.f64.nearest (iv (σ 10)) →
 extRel .fbits [σ 11] (σ 28) →
 ibin .andNot IntKind.u64 (iv (σ 28)) (9223372036854775808) = some (.int IntKind.u64 (iv (σ 29))) →
 extRel .fbits [σ 24] (σ 31) →
 ibin .andNot IntKind.u64 (iv (σ 31)) (9223372036854775808) = some (.int IntKind.u64 (iv (σ 32))) →
 fv (σ 35) = FloatKind.f64.nearest (iv (σ 34)) →
 reckWR [σ 10, σ 11, vO, σ 34, σ 35, vE, vF, vZ] →
 fv (σ 41) = FloatKind.f64.nearest (iv (σ 40)) →
 reckWR [σ 23, σ 24, vO, σ 40, σ 41, vE, vF, vZ] →
 ¬ gcdRPre [(vG 4607182418800017408), σ 35] →
 iv (σ 34) ≠ 0 →
 iv (σ 10) = 0 →
    False
def lR_L9 : Prop := ∀ σ : Nat → Value,
 σ 0 = (vS #[76,67,77]) →
 σ 2 = vF →
 σ 3 = vF →
 σ 4 = vO →
 σ 5 = vO →
 σ 7 = vZ →
 σ 8 = vZ →
 σ 9 = vO →
 tI (σ 10) →
 1 ≤ iv (σ 10) →
 iv (σ 10) ≤ 4294967295 →
 tF (σ 11) →
 σ 12 = vE →
 σ 13 = vF →
 σ 14 = vZ →
 σ 15 = vF →
 σ 16 = vF →
 σ 17 = vO →
 σ 18 = vO →
 σ 20 = vZ →
 σ 21 = vZ →
 σ 22 = vO →
 tI (σ 23) →
 1 ≤ iv (σ 23) →
 iv (σ 23) ≤ 4294967295 →
 tF (σ 24) →
 σ 25 = vE →
 σ 26 = vF →
 σ 27 = vZ →
 σ 28 = .int .u64 (iv (σ 28)) →
 σ 29 = .int .u64 (iv (σ 29)) →
 σ 31 = .int .u64 (iv (σ 31)) →
 σ 32 = .int .u64 (iv (σ 32)) →
 σ 33 = vO →
 tI (σ 34) →
 0 ≤ iv (σ 34) →
 iv (σ 34) ≤ 0 →
 tF (σ 35) →
 σ 36 = vE →
 σ 37 = vF →
 σ 38 = vZ →
 σ 39 = vO →
 tI (σ 40) →
 0 ≤ iv (σ 40) →
 iv (σ 40) ≤ 4294967295 →
 tF (σ 41) →
 σ 42 = vE →
 σ 43 = vF →
 σ 44 = vZ →
 σ 46 = vO →
 tI (σ 47) →
 0 ≤ iv (σ 47) →
 iv (σ 47) ≤ 4294967295 →
 tF (σ 48) →
 σ 49 = vE →
 σ 50 = vF →
 σ 51 = vZ →
 fv (σ 24) = FloatKind.f64.nearest (iv (σ 23)) →
 fv (σ 11) = FloatKind.f64.nearest (iv (σ 10)) →
 extRel .fbits [σ 11] (σ 28) →
 ibin .andNot IntKind.u64 (iv (σ 28)) (9223372036854775808) = some (.int IntKind.u64 (iv (σ 29))) →
 extRel .fbits [σ 24] (σ 31) →
 ibin .andNot IntKind.u64 (iv (σ 31)) (9223372036854775808) = some (.int IntKind.u64 (iv (σ 32))) →
 fv (σ 35) = FloatKind.f64.nearest (iv (σ 34)) →
 reckWR [σ 10, σ 11, vO, σ 34, σ 35, vE, vF, vZ] →
 fv (σ 41) = FloatKind.f64.nearest (iv (σ 40)) →
 reckWR [σ 23, σ 24, vO, σ 40, σ 41, vE, vF, vZ] →
 fv (σ 48) = FloatKind.f64.nearest (iv (σ 47)) →
 reckWR [vZ, (vG 0), vO, σ 47, σ 48, vE, vF, vZ] →
 iv (σ 34) = 0 →
 iv (σ 10) ≠ 0 →
    lR [(vS #[76,67,77]), vU, vF, vF, vO, vO, vU, vZ, vZ, vO, σ 10, σ 11, vE, vF, vZ, vF, vF, vO, vO, vU, vZ, vZ, vO, σ 23, σ 24, vE, vF, vZ, vO, σ 48, vE, vF, vZ, vT]
def lR_L10 : Prop := ∀ σ : Nat → Value,
 σ 0 = (vS #[76,67,77]) →
 σ 2 = vF →
 σ 3 = vF →
 σ 4 = vO →
 σ 5 = vO →
 σ 7 = vZ →
 σ 8 = vZ →
 σ 9 = vO →
 tI (σ 10) →
 1 ≤ iv (σ 10) →
 iv (σ 10) ≤ 4294967295 →
 tF (σ 11) →
 σ 12 = vE →
 σ 13 = vF →
 σ 14 = vZ →
 σ 15 = vF →
 σ 16 = vF →
 σ 17 = vO →
 σ 18 = vO →
 σ 20 = vZ →
 σ 21 = vZ →
 σ 22 = vO →
 tI (σ 23) →
 1 ≤ iv (σ 23) →
 iv (σ 23) ≤ 4294967295 →
 tF (σ 24) →
 σ 25 = vE →
 σ 26 = vF →
 σ 27 = vZ →
 σ 28 = .int .u64 (iv (σ 28)) →
 σ 29 = .int .u64 (iv (σ 29)) →
 σ 31 = .int .u64 (iv (σ 31)) →
 σ 32 = .int .u64 (iv (σ 32)) →
 σ 33 = vO →
 tI (σ 34) →
 1 ≤ iv (σ 34) →
 iv (σ 34) ≤ 4294967295 →
 tF (σ 35) →
 σ 36 = vE →
 σ 37 = vF →
 σ 38 = vZ →
 σ 39 = vO →
 tI (σ 40) →
 0 ≤ iv (σ 40) →
 iv (σ 40) ≤ 4294967295 →
 tF (σ 41) →
 σ 42 = vE →
 σ 43 = vF →
 σ 44 = vZ →
 tF (σ 46) →
 tF (σ 47) →
 tF (σ 48) →
 tF (σ 49) →
 fv (σ 24) = FloatKind.f64.nearest (iv (σ 23)) →
 fv (σ 11) = FloatKind.f64.nearest (iv (σ 10)) →
 extRel .fbits [σ 11] (σ 28) →
 ibin .andNot IntKind.u64 (iv (σ 28)) (9223372036854775808) = some (.int IntKind.u64 (iv (σ 29))) →
 extRel .fbits [σ 24] (σ 31) →
 ibin .andNot IntKind.u64 (iv (σ 31)) (9223372036854775808) = some (.int IntKind.u64 (iv (σ 32))) →
 fv (σ 35) = FloatKind.f64.nearest (iv (σ 34)) →
 reckWR [σ 10, σ 11, vO, σ 34, σ 35, vE, vF, vZ] →
 fv (σ 41) = FloatKind.f64.nearest (iv (σ 40)) →
 reckWR [σ 23, σ 24, vO, σ 40, σ 41, vE, vF, vZ] →
 gcdR [(vG 4607182418800017408), σ 35, σ 46] →
 (farV .quo .f64 (4607182418800017408) (fv (σ 46)) = some (some (fv (σ 47))) ∨ (farV .quo .f64 (4607182418800017408) (fv (σ 46)) = some none ∧ Nan64 (fv (σ 47)))) →
 (farV .quo .f64 (4845873199050653696) (fv (σ 35)) = some (some (fv (σ 48))) ∨ (farV .quo .f64 (4845873199050653696) (fv (σ 35)) = some none ∧ Nan64 (fv (σ 48)))) →
 extRel .floor [σ 48] (σ 49) →
 ford (fv (σ 47)) (fv (σ 49)) ≠ some .lt ∧ ford (fv (σ 47)) (fv (σ 49)) ≠ some .eq →
 bv (σ 50) = !true →
 iv (σ 34) ≠ 0 →
 iv (σ 10) ≠ 0 →
    lR [(vS #[76,67,77]), vU, vF, vF, vO, vO, vU, vZ, vZ, vO, σ 10, σ 11, vE, vF, vZ, vF, vF, vO, vO, vU, vZ, vZ, vO, σ 23, σ 24, vE, vF, vZ, (vI 4), (vG 0), vE, vF, (vI 6), vT]
def lR_L11 : Prop := ∀ σ : Nat → Value,
 σ 0 = (vS #[76,67,77]) →
 σ 2 = vF →
 σ 3 = vF →
 σ 4 = vO →
 σ 5 = vO →
 σ 7 = vZ →
 σ 8 = vZ →
 σ 9 = vO →
 tI (σ 10) →
 1 ≤ iv (σ 10) →
 iv (σ 10) ≤ 4294967295 →
 tF (σ 11) →
 σ 12 = vE →
 σ 13 = vF →
 σ 14 = vZ →
 σ 15 = vF →
 σ 16 = vF →
 σ 17 = vO →
 σ 18 = vO →
 σ 20 = vZ →
 σ 21 = vZ →
 σ 22 = vO →
 tI (σ 23) →
 1 ≤ iv (σ 23) →
 iv (σ 23) ≤ 4294967295 →
 tF (σ 24) →
 σ 25 = vE →
 σ 26 = vF →
 σ 27 = vZ →
 σ 28 = .int .u64 (iv (σ 28)) →
 σ 29 = .int .u64 (iv (σ 29)) →
 σ 31 = .int .u64 (iv (σ 31)) →
 σ 32 = .int .u64 (iv (σ 32)) →
 σ 33 = vO →
 tI (σ 34) →
 1 ≤ iv (σ 34) →
 iv (σ 34) ≤ 4294967295 →
 tF (σ 35) →
 σ 36 = vE →
 σ 37 = vF →
 σ 38 = vZ →
 σ 39 = vO →
 tI (σ 40) →
 0 ≤ iv (σ 40) →
 iv (σ 40) ≤ 4294967295 →
 tF (σ 41) →
 σ 42 = vE →
 σ 43 = vF →
 σ 44 = vZ →
 tF (σ 46) →
 tF (σ 47) →
 tF (σ 48) →
 tF (σ 49) →
 tF (σ 52) →
 σ 54 = vO →
 tI (σ 55) →
 0 ≤ iv (σ 55) →
 iv (σ 55) ≤ 4294967295 →
 tF (σ 56) →
 σ 57 = vE →
 σ 58 = vF →
 σ 59 = vZ →
 fv (σ 24) = FloatKind.f64.nearest (iv (σ 23)) →
 fv (σ 11) = FloatKind.f64.nearest (iv (σ 10)) →
 extRel .fbits [σ 11] (σ 28) →
 ibin .andNot IntKind.u64 (iv (σ 28)) (9223372036854775808) = some (.int IntKind.u64 (iv (σ 29))) →
 extRel .fbits [σ 24] (σ 31) →
 ibin .andNot IntKind.u64 (iv (σ 31)) (9223372036854775808) = some (.int IntKind.u64 (iv (σ 32))) →
 fv (σ 35) = FloatKind.f64.nearest (iv (σ 34)) →
 reckWR [σ 10, σ 11, vO, σ 34, σ 35, vE, vF, vZ] →
 fv (σ 41) = FloatKind.f64.nearest (iv (σ 40)) →
 reckWR [σ 23, σ 24, vO, σ 40, σ 41, vE, vF, vZ] →
 gcdR [(vG 4607182418800017408), σ 35, σ 46] →
 (farV .quo .f64 (4607182418800017408) (fv (σ 46)) = some (some (fv (σ 47))) ∨ (farV .quo .f64 (4607182418800017408) (fv (σ 46)) = some none ∧ Nan64 (fv (σ 47)))) →
 (farV .quo .f64 (4845873199050653696) (fv (σ 35)) = some (some (fv (σ 48))) ∨ (farV .quo .f64 (4845873199050653696) (fv (σ 35)) = some none ∧ Nan64 (fv (σ 48)))) →
 extRel .floor [σ 48] (σ 49) →
 (farV .mul .f64 (fv (σ 47)) (fv (σ 35)) = some (some (fv (σ 52))) ∨ (farV .mul .f64 (fv (σ 47)) (fv (σ 35)) = some none ∧ Nan64 (fv (σ 52)))) →
 fv (σ 56) = FloatKind.f64.nearest (iv (σ 55)) →
 reckWR [vZ, (vG 0), vO, σ 55, σ 56, vE, vF, vZ] →
 ford (fv (σ 52)) (0) = some .eq →
 ford (fv (σ 47)) (fv (σ 49)) = some .lt ∨ ford (fv (σ 47)) (fv (σ 49)) = some .eq →
 bv (σ 50) = !false →
 iv (σ 34) ≠ 0 →
 iv (σ 10) ≠ 0 →
    lR [(vS #[76,67,77]), vU, vF, vF, vO, vO, vU, vZ, vZ, vO, σ 10, σ 11, vE, vF, vZ, vF, vF, vO, vO, vU, vZ, vZ, vO, σ 23, σ 24, vE, vF, vZ, vO, σ 56, vE, vF, vZ, vT]
def lR_L12 : Prop := ∀ σ : Nat → Value,
 σ 0 = (vS #[76,67,77]) →
 σ 2 = vF →
 σ 3 = vF →
 σ 4 = vO →
 σ 5 = vO →
 σ 7 = vZ →
 σ 8 = vZ →
 σ 9 = vO →
 tI (σ 10) →
 1 ≤ iv (σ 10) →
 iv (σ 10) ≤ 4294967295 →
 tF (σ 11) →
 σ 12 = vE →
 σ 13 = vF →
 σ 14 = vZ →
 σ 15 = vF →
 σ 16 = vF →
 σ 17 = vO →
 σ 18 = vO →
 σ 20 = vZ →
 σ 21 = vZ →
 σ 22 = vO →
 tI (σ 23) →
 1 ≤ iv (σ 23) →
 iv (σ 23) ≤ 4294967295 →
 tF (σ 24) →
 σ 25 = vE →
 σ 26 = vF →
 σ 27 = vZ →
 σ 28 = .int .u64 (iv (σ 28)) →
 σ 29 = .int .u64 (iv (σ 29)) →
 σ 31 = .int .u64 (iv (σ 31)) →
 σ 32 = .int .u64 (iv (σ 32)) →
 σ 33 = vO →
 tI (σ 34) →
 1 ≤ iv (σ 34) →
 iv (σ 34) ≤ 4294967295 →
 tF (σ 35) →
 σ 36 = vE →
 σ 37 = vF →
 σ 38 = vZ →
 σ 39 = vO →
 tI (σ 40) →
 0 ≤ iv (σ 40) →
 iv (σ 40) ≤ 0 →
 tF (σ 41) →
 σ 42 = vE →
 σ 43 = vF →
 σ 44 = vZ →
 tF (σ 46) →
 tF (σ 47) →
 tF (σ 48) →
 tF (σ 49) →
 tF (σ 52) →
 σ 55 = vO →
 tI (σ 56) →
 0 ≤ iv (σ 56) →
 iv (σ 56) ≤ 4294967295 →
 tF (σ 57) →
 σ 58 = vE →
 σ 59 = vF →
 σ 60 = vZ →
 fv (σ 24) = FloatKind.f64.nearest (iv (σ 23)) →
 fv (σ 11) = FloatKind.f64.nearest (iv (σ 10)) →
 extRel .fbits [σ 11] (σ 28) →
 ibin .andNot IntKind.u64 (iv (σ 28)) (9223372036854775808) = some (.int IntKind.u64 (iv (σ 29))) →
 extRel .fbits [σ 24] (σ 31) →
 ibin .andNot IntKind.u64 (iv (σ 31)) (9223372036854775808) = some (.int IntKind.u64 (iv (σ 32))) →
 fv (σ 35) = FloatKind.f64.nearest (iv (σ 34)) →
 reckWR [σ 10, σ 11, vO, σ 34, σ 35, vE, vF, vZ] →
 fv (σ 41) = FloatKind.f64.nearest (iv (σ 40)) →
 reckWR [σ 23, σ 24, vO, σ 40, σ 41, vE, vF, vZ] →
 gcdR [(vG 4607182418800017408), σ 35, σ 46] →
 (farV .quo .f64 (4607182418800017408) (fv (σ 46)) = some (some (fv (σ 47))) ∨ (farV .quo .f64 (4607182418800017408) (fv (σ 46)) = some none ∧ Nan64 (fv (σ 47)))) →
 (farV .quo .f64 (4845873199050653696) (fv (σ 35)) = some (some (fv (σ 48))) ∨ (farV .quo .f64 (4845873199050653696) (fv (σ 35)) = some none ∧ Nan64 (fv (σ 48)))) →
 extRel .floor [σ 48] (σ 49) →
 (farV .mul .f64 (fv (σ 47)) (fv (σ 35)) = some (some (fv (σ 52))) ∨ (farV .mul .f64 (fv (σ 47)) (fv (σ 35)) = some none ∧ Nan64 (fv (σ 52)))) →
 fv (σ 57) = FloatKind.f64.nearest (iv (σ 56)) →
 reckWR [vZ, (vG 0), vO, σ 56, σ 57, vE, vF, vZ] →
 iv (σ 40) = 0 →
 ford (fv (σ 52)) (0) ≠ some .eq →
 ford (fv (σ 47)) (fv (σ 49)) = some .lt ∨ ford (fv (σ 47)) (fv (σ 49)) = some .eq →
 bv (σ 50) = !false →
 iv (σ 34) ≠ 0 →
 iv (σ 10) ≠ 0 →
    lR [(vS #[76,67,77]), vU, vF, vF, vO, vO, vU, vZ, vZ, vO, σ 10, σ 11, vE, vF, vZ, vF, vF, vO, vO, vU, vZ, vZ, vO, σ 23, σ 24, vE, vF, vZ, vO, σ 57, vE, vF, vZ, vT]
def lR_L13 : Prop := ∀ σ : Nat → Value,
 σ 0 = (vS #[76,67,77]) →
 σ 2 = vF →
 σ 3 = vF →
 σ 4 = vO →
 σ 5 = vO →
 σ 7 = vZ →
 σ 8 = vZ →
 σ 9 = vO →
 tI (σ 10) →
 1 ≤ iv (σ 10) →
 iv (σ 10) ≤ 4294967295 →
 tF (σ 11) →
 σ 12 = vE →
 σ 13 = vF →
 σ 14 = vZ →
 σ 15 = vF →
 σ 16 = vF →
 σ 17 = vO →
 σ 18 = vO →
 σ 20 = vZ →
 σ 21 = vZ →
 σ 22 = vO →
 tI (σ 23) →
 1 ≤ iv (σ 23) →
 iv (σ 23) ≤ 4294967295 →
 tF (σ 24) →
 σ 25 = vE →
 σ 26 = vF →
 σ 27 = vZ →
 σ 28 = .int .u64 (iv (σ 28)) →
 σ 29 = .int .u64 (iv (σ 29)) →
 σ 31 = .int .u64 (iv (σ 31)) →
 σ 32 = .int .u64 (iv (σ 32)) →
 σ 33 = vO →
 tI (σ 34) →
 1 ≤ iv (σ 34) →
 iv (σ 34) ≤ 4294967295 →
 tF (σ 35) →
 σ 36 = vE →
 σ 37 = vF →
 σ 38 = vZ →
 σ 39 = vO →
 tI (σ 40) →
 1 ≤ iv (σ 40) →
 iv (σ 40) ≤ 4294967295 →
 tF (σ 41) →
 σ 42 = vE →
 σ 43 = vF →
 σ 44 = vZ →
 tF (σ 46) →
 tF (σ 47) →
 tF (σ 48) →
 tF (σ 49) →
 tF (σ 52) →
 tF (σ 55) →
 tF (σ 56) →
 tF (σ 57) →
 tF (σ 58) →
 fv (σ 24) = FloatKind.f64.nearest (iv (σ 23)) →
 fv (σ 11) = FloatKind.f64.nearest (iv (σ 10)) →
 extRel .fbits [σ 11] (σ 28) →
 ibin .andNot IntKind.u64 (iv (σ 28)) (9223372036854775808) = some (.int IntKind.u64 (iv (σ 29))) →
 extRel .fbits [σ 24] (σ 31) →
 ibin .andNot IntKind.u64 (iv (σ 31)) (9223372036854775808) = some (.int IntKind.u64 (iv (σ 32))) →
 fv (σ 35) = FloatKind.f64.nearest (iv (σ 34)) →
 reckWR [σ 10, σ 11, vO, σ 34, σ 35, vE, vF, vZ] →
 fv (σ 41) = FloatKind.f64.nearest (iv (σ 40)) →
 reckWR [σ 23, σ 24, vO, σ 40, σ 41, vE, vF, vZ] →
 gcdR [(vG 4607182418800017408), σ 35, σ 46] →
 (farV .quo .f64 (4607182418800017408) (fv (σ 46)) = some (some (fv (σ 47))) ∨ (farV .quo .f64 (4607182418800017408) (fv (σ 46)) = some none ∧ Nan64 (fv (σ 47)))) →
 (farV .quo .f64 (4845873199050653696) (fv (σ 35)) = some (some (fv (σ 48))) ∨ (farV .quo .f64 (4845873199050653696) (fv (σ 35)) = some none ∧ Nan64 (fv (σ 48)))) →
 extRel .floor [σ 48] (σ 49) →
 (farV .mul .f64 (fv (σ 47)) (fv (σ 35)) = some (some (fv (σ 52))) ∨ (farV .mul .f64 (fv (σ 47)) (fv (σ 35)) = some none ∧ Nan64 (fv (σ 52)))) →
 gcdR [σ 52, σ 41, σ 55] →
 (farV .quo .f64 (fv (σ 52)) (fv (σ 55)) = some (some (fv (σ 56))) ∨ (farV .quo .f64 (fv (σ 52)) (fv (σ 55)) = some none ∧ Nan64 (fv (σ 56)))) →
 (farV .quo .f64 (4845873199050653696) (fv (σ 41)) = some (some (fv (σ 57))) ∨ (farV .quo .f64 (4845873199050653696) (fv (σ 41)) = some none ∧ Nan64 (fv (σ 57)))) →
 extRel .floor [σ 57] (σ 58) →
 ford (fv (σ 56)) (fv (σ 58)) ≠ some .lt ∧ ford (fv (σ 56)) (fv (σ 58)) ≠ some .eq →
 bv (σ 59) = !true →
 iv (σ 40) ≠ 0 →
 ford (fv (σ 52)) (0) ≠ some .eq →
 ford (fv (σ 47)) (fv (σ 49)) = some .lt ∨ ford (fv (σ 47)) (fv (σ 49)) = some .eq →
 bv (σ 50) = !false →
 iv (σ 34) ≠ 0 →
 iv (σ 10) ≠ 0 →
    lR [(vS #[76,67,77]), vU, vF, vF, vO, vO, vU, vZ, vZ, vO, σ 10, σ 11, vE, vF, vZ, vF, vF, vO, vO, vU, vZ, vZ, vO, σ 23, σ 24, vE, vF, vZ, (vI 4), (vG 0), vE, vF, (vI 6), vT]
def lR_L14 : Prop := ∀ σ : Nat → Value,
 σ 0 = (vS #[76,67,77]) →
 σ 2 = vF →
 σ 3 = vF →
 σ 4 = vO →
 σ 5 = vO →
 σ 7 = vZ →
 σ 8 = vZ →
 σ 9 = vO →
 tI (σ 10) →
 1 ≤ iv (σ 10) →
 iv (σ 10) ≤ 4294967295 →
 tF (σ 11) →
 σ 12 = vE →
 σ 13 = vF →
 σ 14 = vZ →
 σ 15 = vF →
 σ 16 = vF →
 σ 17 = vO →
 σ 18 = vO →
 σ 20 = vZ →
 σ 21 = vZ →
 σ 22 = vO →
 tI (σ 23) →
 1 ≤ iv (σ 23) →
 iv (σ 23) ≤ 4294967295 →
 tF (σ 24) →
 σ 25 = vE →
 σ 26 = vF →
 σ 27 = vZ →
 σ 28 = .int .u64 (iv (σ 28)) →
 σ 29 = .int .u64 (iv (σ 29)) →
 σ 31 = .int .u64 (iv (σ 31)) →
 σ 32 = .int .u64 (iv (σ 32)) →
 σ 33 = vO →
 tI (σ 34) →
 1 ≤ iv (σ 34) →
 iv (σ 34) ≤ 4294967295 →
 tF (σ 35) →
 σ 36 = vE →
 σ 37 = vF →
 σ 38 = vZ →
 σ 39 = vO →
 tI (σ 40) →
 1 ≤ iv (σ 40) →
 iv (σ 40) ≤ 4294967295 →
 tF (σ 41) →
 σ 42 = vE →
 σ 43 = vF →
 σ 44 = vZ →
 tF (σ 46) →
 tF (σ 47) →
 tF (σ 48) →
 tF (σ 49) →
 tF (σ 52) →
 tF (σ 55) →
 tF (σ 56) →
 tF (σ 57) →
 tF (σ 58) →
 tF (σ 61) →
 σ 62 = vO →
 tF (σ 63) →
 σ 64 = vE →
 σ 65 = vF →
 σ 66 = vZ →
 fv (σ 24) = FloatKind.f64.nearest (iv (σ 23)) →
 fv (σ 11) = FloatKind.f64.nearest (iv (σ 10)) →
 extRel .fbits [σ 11] (σ 28) →
 ibin .andNot IntKind.u64 (iv (σ 28)) (9223372036854775808) = some (.int IntKind.u64 (iv (σ 29))) →
 extRel .fbits [σ 24] (σ 31) →
 ibin .andNot IntKind.u64 (iv (σ 31)) (9223372036854775808) = some (.int IntKind.u64 (iv (σ 32))) →
 fv (σ 35) = FloatKind.f64.nearest (iv (σ 34)) →
 reckWR [σ 10, σ 11, vO, σ 34, σ 35, vE, vF, vZ] →
 fv (σ 41) = FloatKind.f64.nearest (iv (σ 40)) →
 reckWR [σ 23, σ 24, vO, σ 40, σ 41, vE, vF, vZ] →
 gcdR [(vG 4607182418800017408), σ 35, σ 46] →
 (farV .quo .f64 (4607182418800017408) (fv (σ 46)) = some (some (fv (σ 47))) ∨ (farV .quo .f64 (4607182418800017408) (fv (σ 46)) = some none ∧ Nan64 (fv (σ 47)))) →
 (farV .quo .f64 (4845873199050653696) (fv (σ 35)) = some (some (fv (σ 48))) ∨ (farV .quo .f64 (4845873199050653696) (fv (σ 35)) = some none ∧ Nan64 (fv (σ 48)))) →
 extRel .floor [σ 48] (σ 49) →
 (farV .mul .f64 (fv (σ 47)) (fv (σ 35)) = some (some (fv (σ 52))) ∨ (farV .mul .f64 (fv (σ 47)) (fv (σ 35)) = some none ∧ Nan64 (fv (σ 52)))) →
 gcdR [σ 52, σ 41, σ 55] →
 (farV .quo .f64 (fv (σ 52)) (fv (σ 55)) = some (some (fv (σ 56))) ∨ (farV .quo .f64 (fv (σ 52)) (fv (σ 55)) = some none ∧ Nan64 (fv (σ 56)))) →
 (farV .quo .f64 (4845873199050653696) (fv (σ 41)) = some (some (fv (σ 57))) ∨ (farV .quo .f64 (4845873199050653696) (fv (σ 41)) = some none ∧ Nan64 (fv (σ 57)))) →
 extRel .floor [σ 57] (σ 58) →
 (farV .mul .f64 (fv (σ 56)) (fv (σ 41)) = some (some (fv (σ 61))) ∨ (farV .mul .f64 (fv (σ 56)) (fv (σ 41)) = some none ∧ Nan64 (fv (σ 61)))) →
 reckR [σ 61, vO, σ 63, vE, vF, vZ] →
 ford (fv (σ 56)) (fv (σ 58)) = some .lt ∨ ford (fv (σ 56)) (fv (σ 58)) = some .eq →
 bv (σ 59) = !false →
 iv (σ 40) ≠ 0 →
 ford (fv (σ 52)) (0) ≠ some .eq →
 ford (fv (σ 47)) (fv (σ 49)) = some .lt ∨ ford (fv (σ 47)) (fv (σ 49)) = some .eq →
 bv (σ 50) = !false →
 iv (σ 34) ≠ 0 →
 iv (σ 10) ≠ 0 →
    lR [(vS #[76,67,77]), vU, vF, vF, vO, vO, vU, vZ, vZ, vO, σ 10, σ 11, vE, vF, vZ, vF, vF, vO, vO, vU, vZ, vZ, vO, σ 23, σ 24, vE, vF, vZ, vO, σ 63, vE, vF, vZ, vT]
def lR_L15 : Prop := ∀ σ : Nat → Value,
 σ 0 = (vS #[76,67,77]) →
 σ 2 = vF →
 σ 3 = vF →
 σ 4 = vO →
 σ 5 = vO →
 σ 7 = vZ →
 σ 8 = vZ →
 σ 9 = vO →
 tI (σ 10) →
 1 ≤ iv (σ 10) →
 iv (σ 10) ≤ 4294967295 →
 tF (σ 11) →
 σ 12 = vE →
 σ 13 = vF →
 σ 14 = vZ →
 σ 15 = vF →
 σ 16 = vF →
 σ 17 = vO →
 σ 18 = vO →
 σ 20 = vZ →
 σ 21 = vZ →
 σ 22 = vO →
 tI (σ 23) →
 1 ≤ iv (σ 23) →
 iv (σ 23) ≤ 4294967295 →
 tF (σ 24) →
 σ 25 = vE →
 σ 26 = vF →
 σ 27 = vZ →
 σ 28 = .int .u64 (iv (σ 28)) →
 σ 29 = .int .u64 (iv (σ 29)) →
 σ 31 = .int .u64 (iv (σ 31)) →
 σ 32 = .int .u64 (iv (σ 32)) →
 σ 33 = vO →
 tI (σ 34) →
 1 ≤ iv (σ 34) →
 iv (σ 34) ≤ 4294967295 →
 tF (σ 35) →
 σ 36 = vE →
 σ 37 = vF →
 σ 38 = vZ →
 σ 39 = vO →
 tI (σ 40) →
 1 ≤ iv (σ 40) →
 iv (σ 40) ≤ 4294967295 →
 tF (σ 41) →
 σ 42 = vE →
 σ 43 = vF →
 σ 44 = vZ →
 tF (σ 46) →
 tF (σ 47) →
 tF (σ 48) →
 tF (σ 49) →
 tF (σ 52) →
 tF (σ 55) →
 tF (σ 56) →
 tF (σ 57) →
 tF (σ 58) →
 tF (σ 61) →
 fv (σ 24) = FloatKind.f64.nearest (iv (σ 23)) →
 fv (σ 11) = FloatKind.f64.nearest (iv (σ 10)) →
 extRel .fbits [σ 11] (σ 28) →
 ibin .andNot IntKind.u64 (iv (σ 28)) (9223372036854775808) = some (.int IntKind.u64 (iv (σ 29))) →
 extRel .fbits [σ 24] (σ 31) →
 ibin .andNot IntKind.u64 (iv (σ 31)) (9223372036854775808) = some (.int IntKind.u64 (iv (σ 32))) →
 fv (σ 35) = FloatKind.f64.nearest (iv (σ 34)) →
 reckWR [σ 10, σ 11, vO, σ 34, σ 35, vE, vF, vZ] →
 fv (σ 41) = FloatKind.f64.nearest (iv (σ 40)) →
 reckWR [σ 23, σ 24, vO, σ 40, σ 41, vE, vF, vZ] →
 gcdR [(vG 4607182418800017408), σ 35, σ 46] →
 (farV .quo .f64 (4607182418800017408) (fv (σ 46)) = some (some (fv (σ 47))) ∨ (farV .quo .f64 (4607182418800017408) (fv (σ 46)) = some none ∧ Nan64 (fv (σ 47)))) →
 (farV .quo .f64 (4845873199050653696) (fv (σ 35)) = some (some (fv (σ 48))) ∨ (farV .quo .f64 (4845873199050653696) (fv (σ 35)) = some none ∧ Nan64 (fv (σ 48)))) →
 extRel .floor [σ 48] (σ 49) →
 (farV .mul .f64 (fv (σ 47)) (fv (σ 35)) = some (some (fv (σ 52))) ∨ (farV .mul .f64 (fv (σ 47)) (fv (σ 35)) = some none ∧ Nan64 (fv (σ 52)))) →
 gcdR [σ 52, σ 41, σ 55] →
 (farV .quo .f64 (fv (σ 52)) (fv (σ 55)) = some (some (fv (σ 56))) ∨ (farV .quo .f64 (fv (σ 52)) (fv (σ 55)) = some none ∧ Nan64 (fv (σ 56)))) →
 (farV .quo .f64 (4845873199050653696) (fv (σ 41)) = some (some (fv (σ 57))) ∨ (farV .quo .f64 (4845873199050653696) (fv (σ 41)) = some none ∧ Nan64 (fv (σ 57)))) →
 extRel .floor [σ 57] (σ 58) →
 (farV .mul .f64 (fv (σ 56)) (fv (σ 41)) = some (some (fv (σ 61))) ∨ (farV .mul .f64 (fv (σ 56)) (fv (σ 41)) = some none ∧ Nan64 (fv (σ 61)))) →
 ¬ reckRPre [σ 61] →
 ford (fv (σ 56)) (fv (σ 58)) = some .lt ∨ ford (fv (σ 56)) (fv (σ 58)) = some .eq →
 bv (σ 59) = !false →
 iv (σ 40) ≠ 0 →
 ford (fv (σ 52)) (0) ≠ some .eq →
 ford (fv (σ 47)) (fv (σ 49)) = some .lt ∨ ford (fv (σ 47)) (fv (σ 49)) = some .eq →
 bv (σ 50) = !false →
 iv (σ 34) ≠ 0 →
 iv (σ 10) ≠ 0 →
    False
def lR_L16 : Prop := ∀ σ : Nat → Value,
 σ 0 = (vS #[76,67,77]) →
 σ 2 = vF →
 σ 3 = vF →
 σ 4 = vO →
 σ 5 = vO →
 σ 7 = vZ →
 σ 8 = vZ →
 σ 9 = vO →
 tI (σ 10) →
 1 ≤ iv (σ 10) →
 iv (σ 10) ≤ 4294967295 →
 tF (σ 11) →
 σ 12 = vE →
 σ 13 = vF →
 σ 14 = vZ →
 σ 15 = vF →
 σ 16 = vF →
 σ 17 = vO →
 σ 18 = vO →
 σ 20 = vZ →
 σ 21 = vZ →
 σ 22 = vO →
 tI (σ 23) →
 1 ≤ iv (σ 23) →
 iv (σ 23) ≤ 4294967295 →
 tF (σ 24) →
 σ 25 = vE →
 σ 26 = vF →
 σ 27 = vZ →
 σ 28 = .int .u64 (iv (σ 28)) →
 σ 29 = .int .u64 (iv (σ 29)) →
 σ 31 = .int .u64 (iv (σ 31)) →
 σ 32 = .int .u64 (iv (σ 32)) →
 σ 33 = vO →
 tI (σ 34) →
 1 ≤ iv (σ 34) →
 iv (σ 34) ≤ 4294967295 →
 tF (σ 35) →
 σ 36 = vE →
 σ 37 = vF →
 σ 38 = vZ →
 σ 39 = vO →
 tI (σ 40) →
 1 ≤ iv (σ 40) →
 iv (σ 40) ≤ 4294967295 →
 tF (σ 41) →
 σ 42 = vE →
 σ 43 = vF →
 σ 44 = vZ →
 tF (σ 46) →
 tF (σ 47) →
 tF (σ 48) →
 tF (σ 49) →
 tF (σ 52) →
 fv (σ 24) = FloatKind.f64.nearest (iv (σ 23)) →
 fv (σ 11) = FloatKind.f64.nearest (iv (σ 10)) →
 extRel .fbits [σ 11] (σ 28) →
 ibin .andNot IntKind.u64 (iv (σ 28)) (9223372036854775808) = some (.int IntKind.u64 (iv (σ 29))) →
 extRel .fbits [σ 24] (σ 31) →
 ibin .andNot IntKind.u64 (iv (σ 31)) (9223372036854775808) = some (.int IntKind.u64 (iv (σ 32))) →
 fv (σ 35) = FloatKind.f64.nearest (iv (σ 34)) →
 reckWR [σ 10, σ 11, vO, σ 34, σ 35, vE, vF, vZ] →
 fv (σ 41) = FloatKind.f64.nearest (iv (σ 40)) →
 reckWR [σ 23, σ 24, vO, σ 40, σ 41, vE, vF, vZ] →
 gcdR [(vG 4607182418800017408), σ 35, σ 46] →
 (farV .quo .f64 (4607182418800017408) (fv (σ 46)) = some (some (fv (σ 47))) ∨ (farV .quo .f64 (4607182418800017408) (fv (σ 46)) = some none ∧ Nan64 (fv (σ 47)))) →
 (farV .quo .f64 (4845873199050653696) (fv (σ 35)) = some (some (fv (σ 48))) ∨ (farV .quo .f64 (4845873199050653696) (fv (σ 35)) = some none ∧ Nan64 (fv (σ 48)))) →
 extRel .floor [σ 48] (σ 49) →
 (farV .mul .f64 (fv (σ 47)) (fv (σ 35)) = some (some (fv (σ 52))) ∨ (farV .mul .f64 (fv (σ 47)) (fv (σ 35)) = some none ∧ Nan64 (fv (σ 52)))) →
 ¬ gcdRPre [σ 52, σ 41] →
 iv (σ 40) ≠ 0 →
 ford (fv (σ 52)) (0) ≠ some .eq →
 ford (fv (σ 47)) (fv (σ 49)) = some .lt ∨ ford (fv (σ 47)) (fv (σ 49)) = some .eq →
 bv (σ 50) = !false →
 iv (σ 34) ≠ 0 →
 iv (σ 10) ≠ 0 →
    False
def lR_L17 : Prop := ∀ σ : Nat → Value,
 σ 0 = (vS #[76,67,77]) →
 σ 2 = vF →
 σ 3 = vF →
 σ 4 = vO →
 σ 5 = vO →
 σ 7 = vZ →
 σ 8 = vZ →
 σ 9 = vO →
 tI (σ 10) →
 1 ≤ iv (σ 10) →
 iv (σ 10) ≤ 4294967295 →
 tF (σ 11) →
 σ 12 = vE →
 σ 13 = vF →
 σ 14 = vZ →
 σ 15 = vF →
 σ 16 = vF →
 σ 17 = vO →
 σ 18 = vO →
 σ 20 = vZ →
 σ 21 = vZ →
 σ 22 = vO →
 tI (σ 23) →
 1 ≤ iv (σ 23) →
 iv (σ 23) ≤ 4294967295 →
 tF (σ 24) →
 σ 25 = vE →
 σ 26 = vF →
 σ 27 = vZ →
 σ 28 = .int .u64 (iv (σ 28)) →
 σ 29 = .int .u64 (iv (σ 29)) →
 σ 31 = .int .u64 (iv (σ 31)) →
 σ 32 = .int .u64 (iv (σ 32)) →
 σ 33 = vO →
 tI (σ 34) →
 1 ≤ iv (σ 34) →
 iv (σ 34) ≤ 4294967295 →
 tF (σ 35) →
 σ 36 = vE →
 σ 37 = vF →
 σ 38 = vZ →
 σ 39 = vO →
 tI (σ 40) →
 0 ≤ iv (σ 40) →
 iv (σ 40) ≤ 4294967295 →
 tF (σ 41) →
 σ 42 = vE →
 σ 43 = vF →
 σ 44 = vZ →
 fv (σ 24) = FloatKind.f64.nearest (iv (σ 23)) →
 fv (σ 11) = FloatKind.f64.nearest (iv (σ 10)) →
 extRel .fbits [σ 11] (σ 28) →
 ibin .andNot IntKind.u64 (iv (σ 28)) (9223372036854775808) = some (.int IntKind.u64 (iv (σ 29))) →
 extRel .fbits [σ 24] (σ 31) →
 ibin .andNot IntKind.u64 (iv (σ 31)) (9223372036854775808) = some (.int IntKind.u64 (iv (σ 32))) →
 fv (σ 35) = FloatKind.f64.nearest (iv (σ 34)) →
 reckWR [σ 10, σ 11, vO, σ 34, σ 35, vE, vF, vZ] →
 fv (σ 41) = FloatKind.f64.nearest (iv (σ 40)) →
 reckWR [σ 23, σ 24, vO, σ 40, σ 41, vE, vF, vZ] →
 ¬ gcdRPre [(vG 4607182418800017408), σ 35] →
 iv (σ 34) ≠ 0 →
 iv (σ 10) ≠ 0 →
    False
theorem lR_tie : lC.goals (cfgB lC.base [gcdC, reckWC, reckC]) [] 2000 = (lR_L0 ∧ lR_L1 ∧ lR_L2 ∧ lR_L3 ∧ lR_L4 ∧ lR_L5 ∧ lR_L6 ∧ lR_L7 ∧ lR_L8 ∧ lR_L9 ∧ lR_L10 ∧ lR_L11 ∧ lR_L12 ∧ lR_L13 ∧ lR_L14 ∧ lR_L15 ∧ lR_L16 ∧ lR_L17 ∧ True) := by kernel_rfl
theorem lR_L0_ok : lR_L0 := by
  intro σ; intros
  have w10_ := ‹reckWR [σ 10, σ 11, vO, σ 34, σ 35, vE, vF, vZ]›
  have w10 : iv (σ 34) = iv (σ 10) := w10_
  have w23_ := ‹reckWR [σ 23, σ 24, vO, σ 40, σ 41, vE, vF, vZ]›
  have w23 : iv (σ 40) = iv (σ 23) := w23_
  have fx := ‹fv (σ 35) = FloatKind.f64.nearest (iv (σ 34))›
  have fy := ‹fv (σ 41) = FloatKind.f64.nearest (iv (σ 40))›
  obtain ⟨x, hx⟩ : ∃ x : Nat, iv (σ 10) = x := ⟨(iv (σ 10)).toNat, by omega⟩
  obtain ⟨y, hy⟩ : ∃ y : Nat, iv (σ 23) = y := ⟨(iv (σ 23)).toNat, by omega⟩
  rw [w10, hx] at fx
  rw [w23, hy] at fy
  have bx : x < 4294967296 := by omega
  have by_ : y < 4294967296 := by omega
  have y0 : y ≠ 0 := by omega
  have fx : fv (σ 35) = nr x := fx
  have fy : fv (σ 41) = nr y := fy
  have tx : (iv (σ 10)).toNat = x := by omega
  have ty : (iv (σ 23)).toNat = y := by omega
  have e_ := ‹reckWR [vZ, vG 0, vO, σ 47, σ 48, vE, vF, vZ]›
  have e : iv (σ 47) = 0 := e_
  have f := ‹fv (σ 48) = FloatKind.f64.nearest (iv (σ 47))›
  have xz : x = 0 := by omega
  intro _
  show fv (σ 48) = nr (Nat.lcm (iv (σ 10)).toNat (iv (σ 23)).toNat)
  rw [tx, ty, xz, Nat.lcm_zero_left, f, e]
  rfl
theorem lR_L1_ok : lR_L1 := by
  intro σ; intros
  have w10_ := ‹reckWR [σ 10, σ 11, vO, σ 34, σ 35, vE, vF, vZ]›
  have w10 : iv (σ 34) = iv (σ 10) := w10_
  have w23_ := ‹reckWR [σ 23, σ 24, vO, σ 40, σ 41, vE, vF, vZ]›
  have w23 : iv (σ 40) = iv (σ 23) := w23_
  exfalso
  omega
theorem lR_L2_ok : lR_L2 := by
  intro σ; intros
  have w10_ := ‹reckWR [σ 10, σ 11, vO, σ 34, σ 35, vE, vF, vZ]›
  have w10 : iv (σ 34) = iv (σ 10) := w10_
  have w23_ := ‹reckWR [σ 23, σ 24, vO, σ 40, σ 41, vE, vF, vZ]›
  have w23 : iv (σ 40) = iv (σ 23) := w23_
  exfalso
  omega
theorem lR_L3_ok : lR_L3 := by
  intro σ; intros
  have w10_ := ‹reckWR [σ 10, σ 11, vO, σ 34, σ 35, vE, vF, vZ]›
  have w10 : iv (σ 34) = iv (σ 10) := w10_
  have w23_ := ‹reckWR [σ 23, σ 24, vO, σ 40, σ 41, vE, vF, vZ]›
  have w23 : iv (σ 40) = iv (σ 23) := w23_
  exfalso
  omega
theorem lR_L4_ok : lR_L4 := by
  intro σ; intros
  have w10_ := ‹reckWR [σ 10, σ 11, vO, σ 34, σ 35, vE, vF, vZ]›
  have w10 : iv (σ 34) = iv (σ 10) := w10_
  have w23_ := ‹reckWR [σ 23, σ 24, vO, σ 40, σ 41, vE, vF, vZ]›
  have w23 : iv (σ 40) = iv (σ 23) := w23_
  exfalso
  omega
theorem lR_L5_ok : lR_L5 := by
  intro σ; intros
  have w10_ := ‹reckWR [σ 10, σ 11, vO, σ 34, σ 35, vE, vF, vZ]›
  have w10 : iv (σ 34) = iv (σ 10) := w10_
  have w23_ := ‹reckWR [σ 23, σ 24, vO, σ 40, σ 41, vE, vF, vZ]›
  have w23 : iv (σ 40) = iv (σ 23) := w23_
  exfalso
  omega
theorem lR_L6_ok : lR_L6 := by
  intro σ; intros
  have w10_ := ‹reckWR [σ 10, σ 11, vO, σ 34, σ 35, vE, vF, vZ]›
  have w10 : iv (σ 34) = iv (σ 10) := w10_
  have w23_ := ‹reckWR [σ 23, σ 24, vO, σ 40, σ 41, vE, vF, vZ]›
  have w23 : iv (σ 40) = iv (σ 23) := w23_
  omega
theorem lR_L7_ok : lR_L7 := by
  intro σ; intros
  have w10_ := ‹reckWR [σ 10, σ 11, vO, σ 34, σ 35, vE, vF, vZ]›
  have w10 : iv (σ 34) = iv (σ 10) := w10_
  have w23_ := ‹reckWR [σ 23, σ 24, vO, σ 40, σ 41, vE, vF, vZ]›
  have w23 : iv (σ 40) = iv (σ 23) := w23_
  omega
theorem lR_L8_ok : lR_L8 := by
  intro σ; intros
  have w10_ := ‹reckWR [σ 10, σ 11, vO, σ 34, σ 35, vE, vF, vZ]›
  have w10 : iv (σ 34) = iv (σ 10) := w10_
  have w23_ := ‹reckWR [σ 23, σ 24, vO, σ 40, σ 41, vE, vF, vZ]›
  have w23 : iv (σ 40) = iv (σ 23) := w23_
  omega
theorem lR_L9_ok : lR_L9 := by
  intro σ; intros
  have w10_ := ‹reckWR [σ 10, σ 11, vO, σ 34, σ 35, vE, vF, vZ]›
  have w10 : iv (σ 34) = iv (σ 10) := w10_
  have w23_ := ‹reckWR [σ 23, σ 24, vO, σ 40, σ 41, vE, vF, vZ]›
  have w23 : iv (σ 40) = iv (σ 23) := w23_
  exfalso
  omega
theorem lR_L10_ok : lR_L10 := by
  intro σ; intros
  have w10_ := ‹reckWR [σ 10, σ 11, vO, σ 34, σ 35, vE, vF, vZ]›
  have w10 : iv (σ 34) = iv (σ 10) := w10_
  have w23_ := ‹reckWR [σ 23, σ 24, vO, σ 40, σ 41, vE, vF, vZ]›
  have w23 : iv (σ 40) = iv (σ 23) := w23_
  have fx := ‹fv (σ 35) = FloatKind.f64.nearest (iv (σ 34))›
  have fy := ‹fv (σ 41) = FloatKind.f64.nearest (iv (σ 40))›
  obtain ⟨x, hx⟩ : ∃ x : Nat, iv (σ 10) = x := ⟨(iv (σ 10)).toNat, by omega⟩
  obtain ⟨y, hy⟩ : ∃ y : Nat, iv (σ 23) = y := ⟨(iv (σ 23)).toNat, by omega⟩
  rw [w10, hx] at fx
  rw [w23, hy] at fy
  have bx : x < 4294967296 := by omega
  have by_ : y < 4294967296 := by omega
  have y0 : y ≠ 0 := by omega
  have fx : fv (σ 35) = nr x := fx
  have fy : fv (σ 41) = nr y := fy
  have tx : (iv (σ 10)).toNat = x := by omega
  have ty : (iv (σ 23)).toNat = y := by omega
  have x0 : x ≠ 0 := by omega
  have g0 := ‹gcdR [vG 4607182418800017408, σ 35, σ 46]›
  have g1 : fv (σ 46) = nr (Nat.gcd 1 x) := g0 1 x (by decide) bx one_nr fx
  rw [Nat.gcd_one_left] at g1
  have d1 := ‹farV .quo .f64 4607182418800017408 (fv (σ 46)) = _ ∨ _›
  rw [g1, one_nr] at d1
  have s1 : fv (σ 47) = nr 1 := nr_quo (k := 1) (b := 1) (by decide) (by decide) (by decide) d1
  have d2 := ‹farV .quo .f64 4845873199050653696 (fv (σ 35)) = _ ∨ _›
  rw [fx] at d2
  obtain ⟨ff1, lo1⟩ := floor53 (b := x) (v := σ 48) (r := σ 49) x0 (by omega) ‹_› d2 ‹extRel .floor [σ 48] (σ 49)›
  exfalso
  have nm := ‹ford (fv (σ 47)) (fv (σ 49)) ≠ some .lt ∧ _›
  rw [s1] at nm
  have c := not_more (nr_sv (n := 1) (by decide)).1 ff1 nm
  have c2 := lo1 1 (by omega)
  rw [(nr_sv (n := 1) (by decide)).2.1] at c
  omega
theorem lR_L11_ok : lR_L11 := by
  intro σ; intros
  have w10_ := ‹reckWR [σ 10, σ 11, vO, σ 34, σ 35, vE, vF, vZ]›
  have w10 : iv (σ 34) = iv (σ 10) := w10_
  have w23_ := ‹reckWR [σ 23, σ 24, vO, σ 40, σ 41, vE, vF, vZ]›
  have w23 : iv (σ 40) = iv (σ 23) := w23_
  have fx := ‹fv (σ 35) = FloatKind.f64.nearest (iv (σ 34))›
  have fy := ‹fv (σ 41) = FloatKind.f64.nearest (iv (σ 40))›
  obtain ⟨x, hx⟩ : ∃ x : Nat, iv (σ 10) = x := ⟨(iv (σ 10)).toNat, by omega⟩
  obtain ⟨y, hy⟩ : ∃ y : Nat, iv (σ 23) = y := ⟨(iv (σ 23)).toNat, by omega⟩
  rw [w10, hx] at fx
  rw [w23, hy] at fy
  have bx : x < 4294967296 := by omega
  have by_ : y < 4294967296 := by omega
  have y0 : y ≠ 0 := by omega
  have fx : fv (σ 35) = nr x := fx
  have fy : fv (σ 41) = nr y := fy
  have tx : (iv (σ 10)).toNat = x := by omega
  have ty : (iv (σ 23)).toNat = y := by omega
  have x0 : x ≠ 0 := by omega
  have g0 := ‹gcdR [vG 4607182418800017408, σ 35, σ 46]›
  have g1 : fv (σ 46) = nr (Nat.gcd 1 x) := g0 1 x (by decide) bx one_nr fx
  rw [Nat.gcd_one_left] at g1
  have d1 := ‹farV .quo .f64 4607182418800017408 (fv (σ 46)) = _ ∨ _›
  rw [g1, one_nr] at d1
  have s1 : fv (σ 47) = nr 1 := nr_quo (k := 1) (b := 1) (by decide) (by decide) (by decide) d1
  have d2 := ‹farV .quo .f64 4845873199050653696 (fv (σ 35)) = _ ∨ _›
  rw [fx] at d2
  obtain ⟨ff1, lo1⟩ := floor53 (b := x) (v := σ 48) (r := σ 49) x0 (by omega) ‹_› d2 ‹extRel .floor [σ 48] (σ 49)›
  have p1 := ‹farV .mul .f64 (fv (σ 47)) (fv (σ 35)) = _ ∨ _›
  rw [s1, fx] at p1
  have s2 : fv (σ 52) = nr (1 * x) := far_nr_mul (a := 1) (b := x) (by decide) (by omega) (by omega) p1
  rw [Nat.one_mul] at s2
  exfalso
  exact nr_ne s2 bx x0 ‹ford (fv (σ 52)) 0 = some .eq›
theorem lR_L12_ok : lR_L12 := by
  intro σ; intros
  have w10_ := ‹reckWR [σ 10, σ 11, vO, σ 34, σ 35, vE, vF, vZ]›
  have w10 : iv (σ 34) = iv (σ 10) := w10_
  have w23_ := ‹reckWR [σ 23, σ 24, vO, σ 40, σ 41, vE, vF, vZ]›
  have w23 : iv (σ 40) = iv (σ 23) := w23_
  exfalso
  omega
theorem lR_L13_ok : lR_L13 := by
  intro σ; intros
  have w10_ := ‹reckWR [σ 10, σ 11, vO, σ 34, σ 35, vE, vF, vZ]›
  have w10 : iv (σ 34) = iv (σ 10) := w10_
  have w23_ := ‹reckWR [σ 23, σ 24, vO, σ 40, σ 41, vE, vF, vZ]›
  have w23 : iv (σ 40) = iv (σ 23) := w23_
  have fx := ‹fv (σ 35) = FloatKind.f64.nearest (iv (σ 34))›
  have fy := ‹fv (σ 41) = FloatKind.f64.nearest (iv (σ 40))›
  obtain ⟨x, hx⟩ : ∃ x : Nat, iv (σ 10) = x := ⟨(iv (σ 10)).toNat, by omega⟩
  obtain ⟨y, hy⟩ : ∃ y : Nat, iv (σ 23) = y := ⟨(iv (σ 23)).toNat, by omega⟩
  rw [w10, hx] at fx
  rw [w23, hy] at fy
  have bx : x < 4294967296 := by omega
  have by_ : y < 4294967296 := by omega
  have y0 : y ≠ 0 := by omega
  have fx : fv (σ 35) = nr x := fx
  have fy : fv (σ 41) = nr y := fy
  have tx : (iv (σ 10)).toNat = x := by omega
  have ty : (iv (σ 23)).toNat = y := by omega
  have x0 : x ≠ 0 := by omega
  have g0 := ‹gcdR [vG 4607182418800017408, σ 35, σ 46]›
  have g1 : fv (σ 46) = nr (Nat.gcd 1 x) := g0 1 x (by decide) bx one_nr fx
  rw [Nat.gcd_one_left] at g1
  have d1 := ‹farV .quo .f64 4607182418800017408 (fv (σ 46)) = _ ∨ _›
  rw [g1, one_nr] at d1
  have s1 : fv (σ 47) = nr 1 := nr_quo (k := 1) (b := 1) (by decide) (by decide) (by decide) d1
  have d2 := ‹farV .quo .f64 4845873199050653696 (fv (σ 35)) = _ ∨ _›
  rw [fx] at d2
  obtain ⟨ff1, lo1⟩ := floor53 (b := x) (v := σ 48) (r := σ 49) x0 (by omega) ‹_› d2 ‹extRel .floor [σ 48] (σ 49)›
  have p1 := ‹farV .mul .f64 (fv (σ 47)) (fv (σ 35)) = _ ∨ _›
  rw [s1, fx] at p1
  have s2 : fv (σ 52) = nr (1 * x) := far_nr_mul (a := 1) (b := x) (by decide) (by omega) (by omega) p1
  rw [Nat.one_mul] at s2
  have gg := ‹gcdR [σ 52, σ 41, σ 55]›
  have g2 : fv (σ 55) = nr (Nat.gcd x y) := gg x y bx by_ s2 fy
  have gp : Nat.gcd x y ≠ 0 := fun e => x0 (Nat.eq_zero_of_gcd_eq_zero_left e)
  have lc := lcm_is x y gp
  have kg : x / Nat.gcd x y * Nat.gcd x y = x := Nat.div_mul_cancel (Nat.gcd_dvd_left x y)
  have kle : x / Nat.gcd x y ≤ x := Nat.div_le_self _ _
  have k0 : x / Nat.gcd x y ≠ 0 := fun e => by rw [e, Nat.zero_mul] at kg; omega
  have d3 := ‹farV .quo .f64 (fv (σ 52)) (fv (σ 55)) = _ ∨ _›
  rw [s2, g2] at d3
  generalize x / Nat.gcd x y = k at *
  generalize Nat.gcd x y = G at *
  have s3 : fv (σ 56) = nr k := nr_quo (k := k) (b := G) gp k0 (by rw [kg]; omega) (by rw [kg]; exact d3)
  have d4 := ‹farV .quo .f64 4845873199050653696 (fv (σ 41)) = _ ∨ _›
  rw [fy] at d4
  obtain ⟨ff2, lo2⟩ := floor53 (b := y) (v := σ 57) (r := σ 58) y0 (by omega) ‹_› d4 ‹extRel .floor [σ 57] (σ 58)›
  have nm := ‹ford (fv (σ 56)) (fv (σ 58)) ≠ some .lt ∧ _›
  rw [s3] at nm
  have kb : k ≤ 2 ^ 53 := by omega
  have c := not_more (nr_sv kb).1 ff2 nm
  rw [(nr_sv kb).2.1] at c
  intro hl
  have hl : Nat.lcm (iv (σ 10)).toNat (iv (σ 23)).toNat ≤ 9007199254740992 := hl
  rw [tx, ty, lc] at hl
  have c2 := lo2 k hl
  omega
theorem lR_L14_ok : lR_L14 := by
  intro σ; intros
  have w10_ := ‹reckWR [σ 10, σ 11, vO, σ 34, σ 35, vE, vF, vZ]›
  have w10 : iv (σ 34) = iv (σ 10) := w10_
  have w23_ := ‹reckWR [σ 23, σ 24, vO, σ 40, σ 41, vE, vF, vZ]›
  have w23 : iv (σ 40) = iv (σ 23) := w23_
  have fx := ‹fv (σ 35) = FloatKind.f64.nearest (iv (σ 34))›
  have fy := ‹fv (σ 41) = FloatKind.f64.nearest (iv (σ 40))›
  obtain ⟨x, hx⟩ : ∃ x : Nat, iv (σ 10) = x := ⟨(iv (σ 10)).toNat, by omega⟩
  obtain ⟨y, hy⟩ : ∃ y : Nat, iv (σ 23) = y := ⟨(iv (σ 23)).toNat, by omega⟩
  rw [w10, hx] at fx
  rw [w23, hy] at fy
  have bx : x < 4294967296 := by omega
  have by_ : y < 4294967296 := by omega
  have y0 : y ≠ 0 := by omega
  have fx : fv (σ 35) = nr x := fx
  have fy : fv (σ 41) = nr y := fy
  have tx : (iv (σ 10)).toNat = x := by omega
  have ty : (iv (σ 23)).toNat = y := by omega
  have x0 : x ≠ 0 := by omega
  have g0 := ‹gcdR [vG 4607182418800017408, σ 35, σ 46]›
  have g1 : fv (σ 46) = nr (Nat.gcd 1 x) := g0 1 x (by decide) bx one_nr fx
  rw [Nat.gcd_one_left] at g1
  have d1 := ‹farV .quo .f64 4607182418800017408 (fv (σ 46)) = _ ∨ _›
  rw [g1, one_nr] at d1
  have s1 : fv (σ 47) = nr 1 := nr_quo (k := 1) (b := 1) (by decide) (by decide) (by decide) d1
  have d2 := ‹farV .quo .f64 4845873199050653696 (fv (σ 35)) = _ ∨ _›
  rw [fx] at d2
  obtain ⟨ff1, lo1⟩ := floor53 (b := x) (v := σ 48) (r := σ 49) x0 (by omega) ‹_› d2 ‹extRel .floor [σ 48] (σ 49)›
  have p1 := ‹farV .mul .f64 (fv (σ 47)) (fv (σ 35)) = _ ∨ _›
  rw [s1, fx] at p1
  have s2 : fv (σ 52) = nr (1 * x) := far_nr_mul (a := 1) (b := x) (by decide) (by omega) (by omega) p1
  rw [Nat.one_mul] at s2
  have gg := ‹gcdR [σ 52, σ 41, σ 55]›
  have g2 : fv (σ 55) = nr (Nat.gcd x y) := gg x y bx by_ s2 fy
  have gp : Nat.gcd x y ≠ 0 := fun e => x0 (Nat.eq_zero_of_gcd_eq_zero_left e)
  have lc := lcm_is x y gp
  have kg : x / Nat.gcd x y * Nat.gcd x y = x := Nat.div_mul_cancel (Nat.gcd_dvd_left x y)
  have kle : x / Nat.gcd x y ≤ x := Nat.div_le_self _ _
  have k0 : x / Nat.gcd x y ≠ 0 := fun e => by rw [e, Nat.zero_mul] at kg; omega
  have d3 := ‹farV .quo .f64 (fv (σ 52)) (fv (σ 55)) = _ ∨ _›
  rw [s2, g2] at d3
  generalize x / Nat.gcd x y = k at *
  generalize Nat.gcd x y = G at *
  have s3 : fv (σ 56) = nr k := nr_quo (k := k) (b := G) gp k0 (by rw [kg]; omega) (by rw [kg]; exact d3)
  have d4 := ‹farV .quo .f64 4845873199050653696 (fv (σ 41)) = _ ∨ _›
  rw [fy] at d4
  obtain ⟨ff2, lo2⟩ := floor53 (b := y) (v := σ 57) (r := σ 58) y0 (by omega) ‹_› d4 ‹extRel .floor [σ 57] (σ 58)›
  have p2 := ‹farV .mul .f64 (fv (σ 56)) (fv (σ 41)) = _ ∨ _›
  rw [s3, fy] at p2
  have rr_ := ‹reckR _›
  have rr : fv (σ 63) = if sv (fv (σ 61)) = 0 then 0 else fv (σ 61) := rr_
  intro hl
  have hl : Nat.lcm (iv (σ 10)).toNat (iv (σ 23)).toNat ≤ 9007199254740992 := hl
  rw [tx, ty, lc] at hl
  have e := far_nr_mul (a := k) (b := y) (by omega) (by omega) hl p2
  have e2 := reck_nr e hl rr
  show fv (σ 63) = nr (Nat.lcm (iv (σ 10)).toNat (iv (σ 23)).toNat)
  rw [tx, ty, lc, e2]
theorem lR_L15_ok : lR_L15 := by
  intro σ; intros
  have w10_ := ‹reckWR [σ 10, σ 11, vO, σ 34, σ 35, vE, vF, vZ]›
  have w10 : iv (σ 34) = iv (σ 10) := w10_
  have w23_ := ‹reckWR [σ 23, σ 24, vO, σ 40, σ 41, vE, vF, vZ]›
  have w23 : iv (σ 40) = iv (σ 23) := w23_
  have fx := ‹fv (σ 35) = FloatKind.f64.nearest (iv (σ 34))›
  have fy := ‹fv (σ 41) = FloatKind.f64.nearest (iv (σ 40))›
  obtain ⟨x, hx⟩ : ∃ x : Nat, iv (σ 10) = x := ⟨(iv (σ 10)).toNat, by omega⟩
  obtain ⟨y, hy⟩ : ∃ y : Nat, iv (σ 23) = y := ⟨(iv (σ 23)).toNat, by omega⟩
  rw [w10, hx] at fx
  rw [w23, hy] at fy
  have bx : x < 4294967296 := by omega
  have by_ : y < 4294967296 := by omega
  have y0 : y ≠ 0 := by omega
  have fx : fv (σ 35) = nr x := fx
  have fy : fv (σ 41) = nr y := fy
  have tx : (iv (σ 10)).toNat = x := by omega
  have ty : (iv (σ 23)).toNat = y := by omega
  have x0 : x ≠ 0 := by omega
  have g0 := ‹gcdR [vG 4607182418800017408, σ 35, σ 46]›
  have g1 : fv (σ 46) = nr (Nat.gcd 1 x) := g0 1 x (by decide) bx one_nr fx
  rw [Nat.gcd_one_left] at g1
  have d1 := ‹farV .quo .f64 4607182418800017408 (fv (σ 46)) = _ ∨ _›
  rw [g1, one_nr] at d1
  have s1 : fv (σ 47) = nr 1 := nr_quo (k := 1) (b := 1) (by decide) (by decide) (by decide) d1
  have d2 := ‹farV .quo .f64 4845873199050653696 (fv (σ 35)) = _ ∨ _›
  rw [fx] at d2
  obtain ⟨ff1, lo1⟩ := floor53 (b := x) (v := σ 48) (r := σ 49) x0 (by omega) ‹_› d2 ‹extRel .floor [σ 48] (σ 49)›
  have p1 := ‹farV .mul .f64 (fv (σ 47)) (fv (σ 35)) = _ ∨ _›
  rw [s1, fx] at p1
  have s2 : fv (σ 52) = nr (1 * x) := far_nr_mul (a := 1) (b := x) (by decide) (by omega) (by omega) p1
  rw [Nat.one_mul] at s2
  have gg := ‹gcdR [σ 52, σ 41, σ 55]›
  have g2 : fv (σ 55) = nr (Nat.gcd x y) := gg x y bx by_ s2 fy
  have gp : Nat.gcd x y ≠ 0 := fun e => x0 (Nat.eq_zero_of_gcd_eq_zero_left e)
  have lc := lcm_is x y gp
  have kg : x / Nat.gcd x y * Nat.gcd x y = x := Nat.div_mul_cancel (Nat.gcd_dvd_left x y)
  have kle : x / Nat.gcd x y ≤ x := Nat.div_le_self _ _
  have k0 : x / Nat.gcd x y ≠ 0 := fun e => by rw [e, Nat.zero_mul] at kg; omega
  have d3 := ‹farV .quo .f64 (fv (σ 52)) (fv (σ 55)) = _ ∨ _›
  rw [s2, g2] at d3
  generalize x / Nat.gcd x y = k at *
  generalize Nat.gcd x y = G at *
  have s3 : fv (σ 56) = nr k := nr_quo (k := k) (b := G) gp k0 (by rw [kg]; omega) (by rw [kg]; exact d3)
  have d4 := ‹farV .quo .f64 4845873199050653696 (fv (σ 41)) = _ ∨ _›
  rw [fy] at d4
  obtain ⟨ff2, lo2⟩ := floor53 (b := y) (v := σ 57) (r := σ 58) y0 (by omega) ‹_› d4 ‹extRel .floor [σ 57] (σ 58)›
  have p2 := ‹farV .mul .f64 (fv (σ 56)) (fv (σ 41)) = _ ∨ _›
  rw [s3, fy] at p2
  have p : Fin64 (fv (σ 61)) := nr_mul_fin (by omega) (by omega) p2
  have n_ := ‹¬ reckRPre _›
  exact n_ p
theorem lR_L16_ok : lR_L16 := by
  intro σ; intros
  have w10_ := ‹reckWR [σ 10, σ 11, vO, σ 34, σ 35, vE, vF, vZ]›
  have w10 : iv (σ 34) = iv (σ 10) := w10_
  have w23_ := ‹reckWR [σ 23, σ 24, vO, σ 40, σ 41, vE, vF, vZ]›
  have w23 : iv (σ 40) = iv (σ 23) := w23_
  have fx := ‹fv (σ 35) = FloatKind.f64.nearest (iv (σ 34))›
  have fy := ‹fv (σ 41) = FloatKind.f64.nearest (iv (σ 40))›
  obtain ⟨x, hx⟩ : ∃ x : Nat, iv (σ 10) = x := ⟨(iv (σ 10)).toNat, by omega⟩
  obtain ⟨y, hy⟩ : ∃ y : Nat, iv (σ 23) = y := ⟨(iv (σ 23)).toNat, by omega⟩
  rw [w10, hx] at fx
  rw [w23, hy] at fy
  have bx : x < 4294967296 := by omega
  have by_ : y < 4294967296 := by omega
  have y0 : y ≠ 0 := by omega
  have fx : fv (σ 35) = nr x := fx
  have fy : fv (σ 41) = nr y := fy
  have tx : (iv (σ 10)).toNat = x := by omega
  have ty : (iv (σ 23)).toNat = y := by omega
  have x0 : x ≠ 0 := by omega
  have g0 := ‹gcdR [vG 4607182418800017408, σ 35, σ 46]›
  have g1 : fv (σ 46) = nr (Nat.gcd 1 x) := g0 1 x (by decide) bx one_nr fx
  rw [Nat.gcd_one_left] at g1
  have d1 := ‹farV .quo .f64 4607182418800017408 (fv (σ 46)) = _ ∨ _›
  rw [g1, one_nr] at d1
  have s1 : fv (σ 47) = nr 1 := nr_quo (k := 1) (b := 1) (by decide) (by decide) (by decide) d1
  have d2 := ‹farV .quo .f64 4845873199050653696 (fv (σ 35)) = _ ∨ _›
  rw [fx] at d2
  obtain ⟨ff1, lo1⟩ := floor53 (b := x) (v := σ 48) (r := σ 49) x0 (by omega) ‹_› d2 ‹extRel .floor [σ 48] (σ 49)›
  have p1 := ‹farV .mul .f64 (fv (σ 47)) (fv (σ 35)) = _ ∨ _›
  rw [s1, fx] at p1
  have s2 : fv (σ 52) = nr (1 * x) := far_nr_mul (a := 1) (b := x) (by decide) (by omega) (by omega) p1
  rw [Nat.one_mul] at s2
  have n_ := ‹¬ gcdRPre _›
  exact n_ ⟨x, y, bx, by_, s2, fy⟩
theorem lR_L17_ok : lR_L17 := by
  intro σ; intros
  have w10_ := ‹reckWR [σ 10, σ 11, vO, σ 34, σ 35, vE, vF, vZ]›
  have w10 : iv (σ 34) = iv (σ 10) := w10_
  have w23_ := ‹reckWR [σ 23, σ 24, vO, σ 40, σ 41, vE, vF, vZ]›
  have w23 : iv (σ 40) = iv (σ 23) := w23_
  have fx := ‹fv (σ 35) = FloatKind.f64.nearest (iv (σ 34))›
  have fy := ‹fv (σ 41) = FloatKind.f64.nearest (iv (σ 40))›
  obtain ⟨x, hx⟩ : ∃ x : Nat, iv (σ 10) = x := ⟨(iv (σ 10)).toNat, by omega⟩
  obtain ⟨y, hy⟩ : ∃ y : Nat, iv (σ 23) = y := ⟨(iv (σ 23)).toNat, by omega⟩
  rw [w10, hx] at fx
  rw [w23, hy] at fy
  have bx : x < 4294967296 := by omega
  have by_ : y < 4294967296 := by omega
  have y0 : y ≠ 0 := by omega
  have fx : fv (σ 35) = nr x := fx
  have fy : fv (σ 41) = nr y := fy
  have tx : (iv (σ 10)).toNat = x := by omega
  have ty : (iv (σ 23)).toNat = y := by omega
  have x0 : x ≠ 0 := by omega
  have n_ := ‹¬ gcdRPre _›
  exact n_ ⟨1, x, by decide, bx, one_nr, fx⟩
theorem l_ok : lC.ok Tryz.prog All :=
  by_tie lR_tie (by kernel_rfl) (all_cons gcd_ok (all_cons reckW_ok (all_cons reck_ok all_nil))) ⟨lR_L0_ok, lR_L1_ok, lR_L2_ok, lR_L3_ok, lR_L4_ok, lR_L5_ok, lR_L6_ok, lR_L7_ok, lR_L8_ok, lR_L9_ok, lR_L10_ok, lR_L11_ok, lR_L12_ok, lR_L13_ok, lR_L14_ok, lR_L15_ok, lR_L16_ok, lR_L17_ok, trivial⟩
end Go.Proofs.Dv
