/- Powers of 2. -/
import Derived.Test.YtkeadpmehphkgaaGreatDoorArxA
namespace Go.Proofs.Arx
open Go.Ev Go.RowKit Ieee Go.Proofs.YtkeadpmehphkgaaGreatDoor
set_option maxRecDepth 1000000
def powR_L0 : Prop := ∀ σ : Nat → Value,
 σ 0 = (vG 4611686018427387904) →
 tI (σ 1) →
 (-1022) ≤ iv (σ 1) →
 iv (σ 1) ≤ (-1) →
 tF (σ 2) →
 σ 3 = .int .u64 (iv (σ 3)) →
 σ 4 = .int .u64 (iv (σ 4)) →
 tI (σ 6) →
 1 ≤ iv (σ 6) →
 iv (σ 6) ≤ 1022 →
 tF (σ 7) →
 σ 8 = .int .u64 (iv (σ 8)) →
 1 ≤ iv (σ 8) →
 iv (σ 8) ≤ 1022 →
 fv (σ 2) = FloatKind.f64.nearest (iv (σ 1)) →
 extRel .fbits [σ 2] (σ 3) →
 ibin .andNot IntKind.u64 (iv (σ 3)) (9223372036854775808) = some (.int IntKind.u64 (iv (σ 4))) →
 iv (σ 6) = 0 - iv (σ 1) →
 fv (σ 7) = FloatKind.f64.nearest (iv (σ 6)) →
 iv (σ 8) = iv (σ 6) →
    ((fitsL [.any, .float .f64, (.intIn .i64 (some (-1)) (some 10)), .any, .any, .any, .any, .any, .any, .any, .any, .any, .any, .any, .any, .any, .any, .any] [σ 8, (vG 4607182418800017408), (vI 10), vU, vU, vU, vU, vU, vU, vU, vU, vU, vU, vU, vU, vU, vU, vU] → ¬ powI [σ 8, (vG 4607182418800017408), (vI 10), vU, vU, vU, vU, vU, vU, vU, vU, vU, vU, vU, vU, vU, vU, vU])) →
 iv (σ 1) < 0 →
    False
def powR_L1 : Prop := ∀ σ : Nat → Value,
 σ 0 = (vG 4611686018427387904) →
 tI (σ 1) →
 (-1022) ≤ iv (σ 1) →
 iv (σ 1) ≤ (-1) →
 tF (σ 2) →
 σ 3 = .int .u64 (iv (σ 3)) →
 σ 4 = .int .u64 (iv (σ 4)) →
 tI (σ 6) →
 1 ≤ iv (σ 6) →
 iv (σ 6) ≤ 1022 →
 tF (σ 7) →
 σ 8 = .int .u64 (iv (σ 8)) →
 1 ≤ iv (σ 8) →
 iv (σ 8) ≤ 1022 →
 tF (σ 9) →
 tI (σ 10) →
 0 ≤ iv (σ 10) →
 iv (σ 10) ≤ 10 →
 tF (σ 27) →
 σ 29 = .int .u64 (iv (σ 29)) →
 σ 30 = .int .u64 (iv (σ 30)) →
 1 ≤ iv (σ 30) →
 iv (σ 30) ≤ 1 →
 tF (σ 32) →
 tI (σ 33) →
 (-1) ≤ iv (σ 33) →
 iv (σ 33) ≤ 9 →
 fv (σ 2) = FloatKind.f64.nearest (iv (σ 1)) →
 extRel .fbits [σ 2] (σ 3) →
 ibin .andNot IntKind.u64 (iv (σ 3)) (9223372036854775808) = some (.int IntKind.u64 (iv (σ 4))) →
 iv (σ 6) = 0 - iv (σ 1) →
 fv (σ 7) = FloatKind.f64.nearest (iv (σ 6)) →
 iv (σ 8) = iv (σ 6) →
 powI [σ 8, σ 9, σ 10, σ 11, σ 12, σ 13, σ 14, σ 15, σ 16, σ 17, σ 18, σ 19, σ 20, σ 21, σ 22, σ 23, σ 24, σ 25] →
 (farV .mul .f64 (fv (σ 9)) (fv (σ 9)) = some (some (fv (σ 27))) ∨ (farV .mul .f64 (fv (σ 9)) (fv (σ 9)) = some none ∧ Nan64 (fv (σ 27)))) →
 iv (σ 29) = (iv (σ 8) : Int).fdiv (2 ^ min (iv (σ 10) : Int).toNat IntKind.u64.bits) →
 ibin .and IntKind.u64 (iv (σ 29)) (1) = some (.int IntKind.u64 (iv (σ 30))) →
 (farV .mul .f64 (fv (σ 27)) (4611686018427387904) = some (some (fv (σ 32))) ∨ (farV .mul .f64 (fv (σ 27)) (4611686018427387904) = some none ∧ Nan64 (fv (σ 32)))) →
 iv (σ 33) = iv (σ 10) - 1 →
    ((fitsL [.any, .float .f64, (.intIn .i64 (some (-1)) (some 10)), .any, .any, .any, .any, .any, .any, .any, .any, .any, .any, .any, .any, .any, .any, .any] [σ 8, σ 32, σ 33, σ 10, σ 26, σ 10, σ 33, σ 9, σ 9, σ 27, σ 8, σ 10, σ 29, σ 30, σ 31, σ 27, (vG 4611686018427387904), σ 32] → powI [σ 8, σ 32, σ 33, σ 10, σ 26, σ 10, σ 33, σ 9, σ 9, σ 27, σ 8, σ 10, σ 29, σ 30, σ 31, σ 27, (vG 4611686018427387904), σ 32] → ¬ powIM [σ 8, σ 32, σ 33, σ 10, σ 26, σ 10, σ 33, σ 9, σ 9, σ 27, σ 8, σ 10, σ 29, σ 30, σ 31, σ 27, (vG 4611686018427387904), σ 32] < powIM [σ 8, σ 9, σ 10, σ 11, σ 12, σ 13, σ 14, σ 15, σ 16, σ 17, σ 18, σ 19, σ 20, σ 21, σ 22, σ 23, σ 24, σ 25])) →
 iv (σ 30) = 1 →
 0 ≤ iv (σ 10) →
 0 ≤ iv (σ 10) →
 iv (σ 1) < 0 →
    False
def powR_L2 : Prop := ∀ σ : Nat → Value,
 σ 0 = (vG 4611686018427387904) →
 tI (σ 1) →
 (-1022) ≤ iv (σ 1) →
 iv (σ 1) ≤ (-1) →
 tF (σ 2) →
 σ 3 = .int .u64 (iv (σ 3)) →
 σ 4 = .int .u64 (iv (σ 4)) →
 tI (σ 6) →
 1 ≤ iv (σ 6) →
 iv (σ 6) ≤ 1022 →
 tF (σ 7) →
 σ 8 = .int .u64 (iv (σ 8)) →
 1 ≤ iv (σ 8) →
 iv (σ 8) ≤ 1022 →
 tF (σ 9) →
 tI (σ 10) →
 0 ≤ iv (σ 10) →
 iv (σ 10) ≤ 10 →
 tF (σ 27) →
 σ 29 = .int .u64 (iv (σ 29)) →
 σ 30 = .int .u64 (iv (σ 30)) →
 tI (σ 32) →
 (-1) ≤ iv (σ 32) →
 iv (σ 32) ≤ 9 →
 fv (σ 2) = FloatKind.f64.nearest (iv (σ 1)) →
 extRel .fbits [σ 2] (σ 3) →
 ibin .andNot IntKind.u64 (iv (σ 3)) (9223372036854775808) = some (.int IntKind.u64 (iv (σ 4))) →
 iv (σ 6) = 0 - iv (σ 1) →
 fv (σ 7) = FloatKind.f64.nearest (iv (σ 6)) →
 iv (σ 8) = iv (σ 6) →
 powI [σ 8, σ 9, σ 10, σ 11, σ 12, σ 13, σ 14, σ 15, σ 16, σ 17, σ 18, σ 19, σ 20, σ 21, σ 22, σ 23, σ 24, σ 25] →
 (farV .mul .f64 (fv (σ 9)) (fv (σ 9)) = some (some (fv (σ 27))) ∨ (farV .mul .f64 (fv (σ 9)) (fv (σ 9)) = some none ∧ Nan64 (fv (σ 27)))) →
 iv (σ 29) = (iv (σ 8) : Int).fdiv (2 ^ min (iv (σ 10) : Int).toNat IntKind.u64.bits) →
 ibin .and IntKind.u64 (iv (σ 29)) (1) = some (.int IntKind.u64 (iv (σ 30))) →
 iv (σ 32) = iv (σ 10) - 1 →
    ((fitsL [.any, .float .f64, (.intIn .i64 (some (-1)) (some 10)), .any, .any, .any, .any, .any, .any, .any, .any, .any, .any, .any, .any, .any, .any, .any] [σ 8, σ 27, σ 32, σ 10, σ 26, σ 10, σ 32, σ 9, σ 9, σ 27, σ 8, σ 10, σ 29, σ 30, σ 31, σ 23, σ 24, σ 25] → powI [σ 8, σ 27, σ 32, σ 10, σ 26, σ 10, σ 32, σ 9, σ 9, σ 27, σ 8, σ 10, σ 29, σ 30, σ 31, σ 23, σ 24, σ 25] → ¬ powIM [σ 8, σ 27, σ 32, σ 10, σ 26, σ 10, σ 32, σ 9, σ 9, σ 27, σ 8, σ 10, σ 29, σ 30, σ 31, σ 23, σ 24, σ 25] < powIM [σ 8, σ 9, σ 10, σ 11, σ 12, σ 13, σ 14, σ 15, σ 16, σ 17, σ 18, σ 19, σ 20, σ 21, σ 22, σ 23, σ 24, σ 25])) →
 iv (σ 30) ≠ 1 →
 0 ≤ iv (σ 10) →
 0 ≤ iv (σ 10) →
 iv (σ 1) < 0 →
    False
def powR_L3 : Prop := ∀ σ : Nat → Value,
 σ 0 = (vG 4611686018427387904) →
 tI (σ 1) →
 (-1022) ≤ iv (σ 1) →
 iv (σ 1) ≤ (-1) →
 tF (σ 2) →
 σ 3 = .int .u64 (iv (σ 3)) →
 σ 4 = .int .u64 (iv (σ 4)) →
 tI (σ 6) →
 1 ≤ iv (σ 6) →
 iv (σ 6) ≤ 1022 →
 tF (σ 7) →
 σ 8 = .int .u64 (iv (σ 8)) →
 1 ≤ iv (σ 8) →
 iv (σ 8) ≤ 1022 →
 tF (σ 9) →
 tI (σ 10) →
 0 ≤ iv (σ 10) →
 iv (σ 10) ≤ 10 →
 tF (σ 27) →
 fv (σ 2) = FloatKind.f64.nearest (iv (σ 1)) →
 extRel .fbits [σ 2] (σ 3) →
 ibin .andNot IntKind.u64 (iv (σ 3)) (9223372036854775808) = some (.int IntKind.u64 (iv (σ 4))) →
 iv (σ 6) = 0 - iv (σ 1) →
 fv (σ 7) = FloatKind.f64.nearest (iv (σ 6)) →
 iv (σ 8) = iv (σ 6) →
 powI [σ 8, σ 9, σ 10, σ 11, σ 12, σ 13, σ 14, σ 15, σ 16, σ 17, σ 18, σ 19, σ 20, σ 21, σ 22, σ 23, σ 24, σ 25] →
 (farV .mul .f64 (fv (σ 9)) (fv (σ 9)) = some (some (fv (σ 27))) ∨ (farV .mul .f64 (fv (σ 9)) (fv (σ 9)) = some none ∧ Nan64 (fv (σ 27)))) →
 iv (σ 10) < 0 →
 0 ≤ iv (σ 10) →
 iv (σ 1) < 0 →
    False
def powR_L4 : Prop := ∀ σ : Nat → Value,
 σ 0 = (vG 4611686018427387904) →
 tI (σ 1) →
 (-1022) ≤ iv (σ 1) →
 iv (σ 1) ≤ (-1) →
 tF (σ 2) →
 σ 3 = .int .u64 (iv (σ 3)) →
 σ 4 = .int .u64 (iv (σ 4)) →
 tI (σ 6) →
 1 ≤ iv (σ 6) →
 iv (σ 6) ≤ 1022 →
 tF (σ 7) →
 σ 8 = .int .u64 (iv (σ 8)) →
 1 ≤ iv (σ 8) →
 iv (σ 8) ≤ 1022 →
 tF (σ 9) →
 tI (σ 10) →
 (-1) ≤ iv (σ 10) →
 iv (σ 10) ≤ (-1) →
 tF (σ 27) →
 tI (σ 28) →
 tF (σ 29) →
 σ 30 = vE →
 σ 31 = vF →
 tI (σ 32) →
 fv (σ 2) = FloatKind.f64.nearest (iv (σ 1)) →
 extRel .fbits [σ 2] (σ 3) →
 ibin .andNot IntKind.u64 (iv (σ 3)) (9223372036854775808) = some (.int IntKind.u64 (iv (σ 4))) →
 iv (σ 6) = 0 - iv (σ 1) →
 fv (σ 7) = FloatKind.f64.nearest (iv (σ 6)) →
 iv (σ 8) = iv (σ 6) →
 powI [σ 8, σ 9, σ 10, σ 11, σ 12, σ 13, σ 14, σ 15, σ 16, σ 17, σ 18, σ 19, σ 20, σ 21, σ 22, σ 23, σ 24, σ 25] →
 (farV .quo .f64 (4607182418800017408) (fv (σ 9)) = some (some (fv (σ 27))) ∨ (farV .quo .f64 (4607182418800017408) (fv (σ 9)) = some none ∧ Nan64 (fv (σ 27)))) →
 reckR [σ 27, σ 28, σ 29, vE, vF, σ 32] →
 iv (σ 10) < 0 →
 iv (σ 1) < 0 →
    powR [(vG 4611686018427387904), σ 1, σ 2, σ 28, σ 29, vE, vF, σ 32]
def powR_L5 : Prop := ∀ σ : Nat → Value,
 σ 0 = (vG 4611686018427387904) →
 tI (σ 1) →
 0 ≤ iv (σ 1) →
 iv (σ 1) ≤ 1023 →
 tF (σ 2) →
 σ 3 = .int .u64 (iv (σ 3)) →
 σ 4 = .int .u64 (iv (σ 4)) →
 σ 6 = .int .u64 (iv (σ 6)) →
 0 ≤ iv (σ 6) →
 iv (σ 6) ≤ 1023 →
 fv (σ 2) = FloatKind.f64.nearest (iv (σ 1)) →
 extRel .fbits [σ 2] (σ 3) →
 ibin .andNot IntKind.u64 (iv (σ 3)) (9223372036854775808) = some (.int IntKind.u64 (iv (σ 4))) →
 iv (σ 6) = iv (σ 1) →
    ((fitsL [.any, .float .f64, (.intIn .i64 (some (-1)) (some 10)), .any, .any, .any, .any, .any, .any, .any, .any, .any, .any, .any, .any, .any, .any, .any] [σ 6, (vG 4607182418800017408), (vI 10), vU, vU, vU, vU, vU, vU, vU, vU, vU, vU, vU, vU, vU, vU, vU] → ¬ powI [σ 6, (vG 4607182418800017408), (vI 10), vU, vU, vU, vU, vU, vU, vU, vU, vU, vU, vU, vU, vU, vU, vU])) →
 0 ≤ iv (σ 1) →
    False
def powR_L6 : Prop := ∀ σ : Nat → Value,
 σ 0 = (vG 4611686018427387904) →
 tI (σ 1) →
 0 ≤ iv (σ 1) →
 iv (σ 1) ≤ 1023 →
 tF (σ 2) →
 σ 3 = .int .u64 (iv (σ 3)) →
 σ 4 = .int .u64 (iv (σ 4)) →
 σ 6 = .int .u64 (iv (σ 6)) →
 0 ≤ iv (σ 6) →
 iv (σ 6) ≤ 1023 →
 tF (σ 7) →
 tI (σ 8) →
 0 ≤ iv (σ 8) →
 iv (σ 8) ≤ 10 →
 tF (σ 25) →
 σ 27 = .int .u64 (iv (σ 27)) →
 σ 28 = .int .u64 (iv (σ 28)) →
 1 ≤ iv (σ 28) →
 iv (σ 28) ≤ 1 →
 tF (σ 30) →
 tI (σ 31) →
 (-1) ≤ iv (σ 31) →
 iv (σ 31) ≤ 9 →
 fv (σ 2) = FloatKind.f64.nearest (iv (σ 1)) →
 extRel .fbits [σ 2] (σ 3) →
 ibin .andNot IntKind.u64 (iv (σ 3)) (9223372036854775808) = some (.int IntKind.u64 (iv (σ 4))) →
 iv (σ 6) = iv (σ 1) →
 powI [σ 6, σ 7, σ 8, σ 9, σ 10, σ 11, σ 12, σ 13, σ 14, σ 15, σ 16, σ 17, σ 18, σ 19, σ 20, σ 21, σ 22, σ 23] →
 (farV .mul .f64 (fv (σ 7)) (fv (σ 7)) = some (some (fv (σ 25))) ∨ (farV .mul .f64 (fv (σ 7)) (fv (σ 7)) = some none ∧ Nan64 (fv (σ 25)))) →
 iv (σ 27) = (iv (σ 6) : Int).fdiv (2 ^ min (iv (σ 8) : Int).toNat IntKind.u64.bits) →
 ibin .and IntKind.u64 (iv (σ 27)) (1) = some (.int IntKind.u64 (iv (σ 28))) →
 (farV .mul .f64 (fv (σ 25)) (4611686018427387904) = some (some (fv (σ 30))) ∨ (farV .mul .f64 (fv (σ 25)) (4611686018427387904) = some none ∧ Nan64 (fv (σ 30)))) →
 iv (σ 31) = iv (σ 8) - 1 →
    ((fitsL [.any, .float .f64, (.intIn .i64 (some (-1)) (some 10)), .any, .any, .any, .any, .any, .any, .any, .any, .any, .any, .any, .any, .any, .any, .any] [σ 6, σ 30, σ 31, σ 8, σ 24, σ 8, σ 31, σ 7, σ 7, σ 25, σ 6, σ 8, σ 27, σ 28, σ 29, σ 25, (vG 4611686018427387904), σ 30] → powI [σ 6, σ 30, σ 31, σ 8, σ 24, σ 8, σ 31, σ 7, σ 7, σ 25, σ 6, σ 8, σ 27, σ 28, σ 29, σ 25, (vG 4611686018427387904), σ 30] → ¬ powIM [σ 6, σ 30, σ 31, σ 8, σ 24, σ 8, σ 31, σ 7, σ 7, σ 25, σ 6, σ 8, σ 27, σ 28, σ 29, σ 25, (vG 4611686018427387904), σ 30] < powIM [σ 6, σ 7, σ 8, σ 9, σ 10, σ 11, σ 12, σ 13, σ 14, σ 15, σ 16, σ 17, σ 18, σ 19, σ 20, σ 21, σ 22, σ 23])) →
 iv (σ 28) = 1 →
 0 ≤ iv (σ 8) →
 0 ≤ iv (σ 8) →
 0 ≤ iv (σ 1) →
    False
def powR_L7 : Prop := ∀ σ : Nat → Value,
 σ 0 = (vG 4611686018427387904) →
 tI (σ 1) →
 0 ≤ iv (σ 1) →
 iv (σ 1) ≤ 1023 →
 tF (σ 2) →
 σ 3 = .int .u64 (iv (σ 3)) →
 σ 4 = .int .u64 (iv (σ 4)) →
 σ 6 = .int .u64 (iv (σ 6)) →
 0 ≤ iv (σ 6) →
 iv (σ 6) ≤ 1023 →
 tF (σ 7) →
 tI (σ 8) →
 0 ≤ iv (σ 8) →
 iv (σ 8) ≤ 10 →
 tF (σ 25) →
 σ 27 = .int .u64 (iv (σ 27)) →
 σ 28 = .int .u64 (iv (σ 28)) →
 tI (σ 30) →
 (-1) ≤ iv (σ 30) →
 iv (σ 30) ≤ 9 →
 fv (σ 2) = FloatKind.f64.nearest (iv (σ 1)) →
 extRel .fbits [σ 2] (σ 3) →
 ibin .andNot IntKind.u64 (iv (σ 3)) (9223372036854775808) = some (.int IntKind.u64 (iv (σ 4))) →
 iv (σ 6) = iv (σ 1) →
 powI [σ 6, σ 7, σ 8, σ 9, σ 10, σ 11, σ 12, σ 13, σ 14, σ 15, σ 16, σ 17, σ 18, σ 19, σ 20, σ 21, σ 22, σ 23] →
 (farV .mul .f64 (fv (σ 7)) (fv (σ 7)) = some (some (fv (σ 25))) ∨ (farV .mul .f64 (fv (σ 7)) (fv (σ 7)) = some none ∧ Nan64 (fv (σ 25)))) →
 iv (σ 27) = (iv (σ 6) : Int).fdiv (2 ^ min (iv (σ 8) : Int).toNat IntKind.u64.bits) →
 ibin .and IntKind.u64 (iv (σ 27)) (1) = some (.int IntKind.u64 (iv (σ 28))) →
 iv (σ 30) = iv (σ 8) - 1 →
    ((fitsL [.any, .float .f64, (.intIn .i64 (some (-1)) (some 10)), .any, .any, .any, .any, .any, .any, .any, .any, .any, .any, .any, .any, .any, .any, .any] [σ 6, σ 25, σ 30, σ 8, σ 24, σ 8, σ 30, σ 7, σ 7, σ 25, σ 6, σ 8, σ 27, σ 28, σ 29, σ 21, σ 22, σ 23] → powI [σ 6, σ 25, σ 30, σ 8, σ 24, σ 8, σ 30, σ 7, σ 7, σ 25, σ 6, σ 8, σ 27, σ 28, σ 29, σ 21, σ 22, σ 23] → ¬ powIM [σ 6, σ 25, σ 30, σ 8, σ 24, σ 8, σ 30, σ 7, σ 7, σ 25, σ 6, σ 8, σ 27, σ 28, σ 29, σ 21, σ 22, σ 23] < powIM [σ 6, σ 7, σ 8, σ 9, σ 10, σ 11, σ 12, σ 13, σ 14, σ 15, σ 16, σ 17, σ 18, σ 19, σ 20, σ 21, σ 22, σ 23])) →
 iv (σ 28) ≠ 1 →
 0 ≤ iv (σ 8) →
 0 ≤ iv (σ 8) →
 0 ≤ iv (σ 1) →
    False
def powR_L8 : Prop := ∀ σ : Nat → Value,
 σ 0 = (vG 4611686018427387904) →
 tI (σ 1) →
 0 ≤ iv (σ 1) →
 iv (σ 1) ≤ 1023 →
 tF (σ 2) →
 σ 3 = .int .u64 (iv (σ 3)) →
 σ 4 = .int .u64 (iv (σ 4)) →
 σ 6 = .int .u64 (iv (σ 6)) →
 0 ≤ iv (σ 6) →
 iv (σ 6) ≤ 1023 →
 tF (σ 7) →
 tI (σ 8) →
 0 ≤ iv (σ 8) →
 iv (σ 8) ≤ 10 →
 tF (σ 25) →
 fv (σ 2) = FloatKind.f64.nearest (iv (σ 1)) →
 extRel .fbits [σ 2] (σ 3) →
 ibin .andNot IntKind.u64 (iv (σ 3)) (9223372036854775808) = some (.int IntKind.u64 (iv (σ 4))) →
 iv (σ 6) = iv (σ 1) →
 powI [σ 6, σ 7, σ 8, σ 9, σ 10, σ 11, σ 12, σ 13, σ 14, σ 15, σ 16, σ 17, σ 18, σ 19, σ 20, σ 21, σ 22, σ 23] →
 (farV .mul .f64 (fv (σ 7)) (fv (σ 7)) = some (some (fv (σ 25))) ∨ (farV .mul .f64 (fv (σ 7)) (fv (σ 7)) = some none ∧ Nan64 (fv (σ 25)))) →
 iv (σ 8) < 0 →
 0 ≤ iv (σ 8) →
 0 ≤ iv (σ 1) →
    False
def powR_L9 : Prop := ∀ σ : Nat → Value,
 σ 0 = (vG 4611686018427387904) →
 tI (σ 1) →
 0 ≤ iv (σ 1) →
 iv (σ 1) ≤ 1023 →
 tF (σ 2) →
 σ 3 = .int .u64 (iv (σ 3)) →
 σ 4 = .int .u64 (iv (σ 4)) →
 σ 6 = .int .u64 (iv (σ 6)) →
 0 ≤ iv (σ 6) →
 iv (σ 6) ≤ 1023 →
 tF (σ 7) →
 tI (σ 8) →
 (-1) ≤ iv (σ 8) →
 iv (σ 8) ≤ (-1) →
 tI (σ 25) →
 tF (σ 26) →
 σ 27 = vE →
 σ 28 = vF →
 tI (σ 29) →
 fv (σ 2) = FloatKind.f64.nearest (iv (σ 1)) →
 extRel .fbits [σ 2] (σ 3) →
 ibin .andNot IntKind.u64 (iv (σ 3)) (9223372036854775808) = some (.int IntKind.u64 (iv (σ 4))) →
 iv (σ 6) = iv (σ 1) →
 powI [σ 6, σ 7, σ 8, σ 9, σ 10, σ 11, σ 12, σ 13, σ 14, σ 15, σ 16, σ 17, σ 18, σ 19, σ 20, σ 21, σ 22, σ 23] →
 reckR [σ 7, σ 25, σ 26, vE, vF, σ 29] →
 iv (σ 8) < 0 →
 0 ≤ iv (σ 1) →
    powR [(vG 4611686018427387904), σ 1, σ 2, σ 25, σ 26, vE, vF, σ 29]
theorem powR_tie : powerC.goals (cfgB powerC.base [reckC]) [(65, 9, powI_)] 2000 = (powR_L0 ∧ powR_L1 ∧ powR_L2 ∧ powR_L3 ∧ powR_L4 ∧ powR_L5 ∧ powR_L6 ∧ powR_L7 ∧ powR_L8 ∧ powR_L9 ∧ True) := by kernel_rfl
theorem powR_L0_ok : powR_L0 := by
  intro σ; intros
  specialize ‹fitsL _ _ → ¬ powI _› (by (simp only [fitsL, Sort_.fits]; repeat' (first | exact True.intro | (with_reducible refine And.intro ?_ ?_) | exact ⟨_, ‹_›⟩ | exact ⟨_, rfl⟩ | exact ⟨_, ‹_›, fun a h => by cases h; omega, fun b h => by cases h; omega⟩ | exact ⟨_, rfl, fun a h => by cases h; decide, fun b h => by cases h; decide⟩)))
  have c_ := ‹¬ powI _›
  have c : ¬ powAt (iv (σ 8)) 4607182418800017408 10 := c_
  exact c (pow_start (by omega) (by omega))
theorem powR_L1_ok : powR_L1 := by
  intro σ; intros
  have I_ := ‹powI _›
  have I : powAt (iv (σ 8)) (fv (σ 9)) (iv (σ 10)) := I_
  have m0_ := ‹farV .mul .f64 (fv (σ 9)) (fv (σ 9)) = _ ∨ _›
  have m0 : FarR .mul (fv (σ 9)) (fv (σ 9)) (fv (σ 27)) := m0_
  have st := pow_step (s := iv (σ 29)) (b := iv (σ 30)) I (by omega) m0 ‹_› ‹_›
  have m1_ := ‹farV .mul .f64 (fv (σ 27)) _ = _ ∨ _›
  have m1 : FarR .mul (fv (σ 27)) 4611686018427387904 (fv (σ 32)) := m1_
  have J := st.1 ‹iv (σ 30) = 1› _ m1
  have ek : iv (σ 33) = iv (σ 10) - 1 := ‹_›
  rw [← ek] at J
  specialize ‹fitsL _ _ → powI _ → ¬ (_ : Nat) < _› (by (simp only [fitsL, Sort_.fits]; repeat' (first | exact True.intro | (with_reducible refine And.intro ?_ ?_) | exact ⟨_, ‹_›⟩ | exact ⟨_, rfl⟩ | exact ⟨_, ‹_›, fun a h => by cases h; omega, fun b h => by cases h; omega⟩ | exact ⟨_, rfl, fun a h => by cases h; decide, fun b h => by cases h; decide⟩)))
  have c0 := ‹powI _ → ¬ (_ : Nat) < _›
  have c := c0 J
  have c2 : ¬ (iv (σ 33) + 1).toNat < (iv (σ 10) + 1).toNat := c
  omega
theorem powR_L2_ok : powR_L2 := by
  intro σ; intros
  have I_ := ‹powI _›
  have I : powAt (iv (σ 8)) (fv (σ 9)) (iv (σ 10)) := I_
  have m0_ := ‹farV .mul .f64 (fv (σ 9)) (fv (σ 9)) = _ ∨ _›
  have m0 : FarR .mul (fv (σ 9)) (fv (σ 9)) (fv (σ 27)) := m0_
  have st := pow_step (s := iv (σ 29)) (b := iv (σ 30)) I (by omega) m0 ‹_› ‹_›
  have J := st.2 ‹iv (σ 30) ≠ 1›
  have ek : iv (σ 32) = iv (σ 10) - 1 := ‹_›
  rw [← ek] at J
  specialize ‹fitsL _ _ → powI _ → ¬ (_ : Nat) < _› (by (simp only [fitsL, Sort_.fits]; repeat' (first | exact True.intro | (with_reducible refine And.intro ?_ ?_) | exact ⟨_, ‹_›⟩ | exact ⟨_, rfl⟩ | exact ⟨_, ‹_›, fun a h => by cases h; omega, fun b h => by cases h; omega⟩ | exact ⟨_, rfl, fun a h => by cases h; decide, fun b h => by cases h; decide⟩)))
  have c0 := ‹powI _ → ¬ (_ : Nat) < _›
  have c := c0 J
  have c2 : ¬ (iv (σ 32) + 1).toNat < (iv (σ 10) + 1).toNat := c
  omega
theorem powR_L3_ok : powR_L3 := by
  intro σ; intros
  have I_ := ‹powI _›
  have I : powAt (iv (σ 8)) (fv (σ 9)) (iv (σ 10)) := I_
  omega
theorem powR_L4_ok : powR_L4 := by
  intro σ; intros
  have I_ := ‹powI _›
  have I : powAt (iv (σ 8)) (fv (σ 9)) (iv (σ 10)) := I_
  have r0_ := ‹reckR _›
  have r0 : RK (fv (σ 27)) (iv (σ 28)) (fv (σ 29)) (iv (σ 32)) := r0_
  have q0_ := ‹farV .quo .f64 _ _ = _ ∨ _›
  have q0 : FarR .quo 4607182418800017408 (fv (σ 9)) (fv (σ 27)) := q0_
  exact pow_minus (y := iv (σ 1)) I (by omega) (by omega) (by omega) (by omega) q0 r0
theorem powR_L5_ok : powR_L5 := by
  intro σ; intros
  specialize ‹fitsL _ _ → ¬ powI _› (by (simp only [fitsL, Sort_.fits]; repeat' (first | exact True.intro | (with_reducible refine And.intro ?_ ?_) | exact ⟨_, ‹_›⟩ | exact ⟨_, rfl⟩ | exact ⟨_, ‹_›, fun a h => by cases h; omega, fun b h => by cases h; omega⟩ | exact ⟨_, rfl, fun a h => by cases h; decide, fun b h => by cases h; decide⟩)))
  have c_ := ‹¬ powI _›
  have c : ¬ powAt (iv (σ 6)) 4607182418800017408 10 := c_
  exact c (pow_start (by omega) (by omega))
theorem powR_L6_ok : powR_L6 := by
  intro σ; intros
  have I_ := ‹powI _›
  have I : powAt (iv (σ 6)) (fv (σ 7)) (iv (σ 8)) := I_
  have m0_ := ‹farV .mul .f64 (fv (σ 7)) (fv (σ 7)) = _ ∨ _›
  have m0 : FarR .mul (fv (σ 7)) (fv (σ 7)) (fv (σ 25)) := m0_
  have st := pow_step (s := iv (σ 27)) (b := iv (σ 28)) I (by omega) m0 ‹_› ‹_›
  have m1_ := ‹farV .mul .f64 (fv (σ 25)) _ = _ ∨ _›
  have m1 : FarR .mul (fv (σ 25)) 4611686018427387904 (fv (σ 30)) := m1_
  have J := st.1 ‹iv (σ 28) = 1› _ m1
  have ek : iv (σ 31) = iv (σ 8) - 1 := ‹_›
  rw [← ek] at J
  specialize ‹fitsL _ _ → powI _ → ¬ (_ : Nat) < _› (by (simp only [fitsL, Sort_.fits]; repeat' (first | exact True.intro | (with_reducible refine And.intro ?_ ?_) | exact ⟨_, ‹_›⟩ | exact ⟨_, rfl⟩ | exact ⟨_, ‹_›, fun a h => by cases h; omega, fun b h => by cases h; omega⟩ | exact ⟨_, rfl, fun a h => by cases h; decide, fun b h => by cases h; decide⟩)))
  have c0 := ‹powI _ → ¬ (_ : Nat) < _›
  have c := c0 J
  have c2 : ¬ (iv (σ 31) + 1).toNat < (iv (σ 8) + 1).toNat := c
  omega
theorem powR_L7_ok : powR_L7 := by
  intro σ; intros
  have I_ := ‹powI _›
  have I : powAt (iv (σ 6)) (fv (σ 7)) (iv (σ 8)) := I_
  have m0_ := ‹farV .mul .f64 (fv (σ 7)) (fv (σ 7)) = _ ∨ _›
  have m0 : FarR .mul (fv (σ 7)) (fv (σ 7)) (fv (σ 25)) := m0_
  have st := pow_step (s := iv (σ 27)) (b := iv (σ 28)) I (by omega) m0 ‹_› ‹_›
  have J := st.2 ‹iv (σ 28) ≠ 1›
  have ek : iv (σ 30) = iv (σ 8) - 1 := ‹_›
  rw [← ek] at J
  specialize ‹fitsL _ _ → powI _ → ¬ (_ : Nat) < _› (by (simp only [fitsL, Sort_.fits]; repeat' (first | exact True.intro | (with_reducible refine And.intro ?_ ?_) | exact ⟨_, ‹_›⟩ | exact ⟨_, rfl⟩ | exact ⟨_, ‹_›, fun a h => by cases h; omega, fun b h => by cases h; omega⟩ | exact ⟨_, rfl, fun a h => by cases h; decide, fun b h => by cases h; decide⟩)))
  have c0 := ‹powI _ → ¬ (_ : Nat) < _›
  have c := c0 J
  have c2 : ¬ (iv (σ 30) + 1).toNat < (iv (σ 8) + 1).toNat := c
  omega
theorem powR_L8_ok : powR_L8 := by
  intro σ; intros
  have I_ := ‹powI _›
  have I : powAt (iv (σ 6)) (fv (σ 7)) (iv (σ 8)) := I_
  omega
theorem powR_L9_ok : powR_L9 := by
  intro σ; intros
  have I_ := ‹powI _›
  have I : powAt (iv (σ 6)) (fv (σ 7)) (iv (σ 8)) := I_
  have r0_ := ‹reckR _›
  have r0 : RK (fv (σ 7)) (iv (σ 25)) (fv (σ 26)) (iv (σ 29)) := r0_
  have r1 := pow_plus I (by omega) r0
  have e : iv (σ 6) = iv (σ 1) := by omega
  rw [e] at r1
  exact r1
theorem power_ok : powerC.ok Tryz.prog All :=
  by_tie powR_tie (by kernel_rfl) (all_cons reck_ok all_nil) ⟨powR_L0_ok, powR_L1_ok, powR_L2_ok, powR_L3_ok, powR_L4_ok, powR_L5_ok, powR_L6_ok, powR_L7_ok, powR_L8_ok, powR_L9_ok, trivial⟩
def powBR_L0 : Prop := ∀ σ : Nat → Value,
 σ 0 = (vI 12) →
 σ 1 = vO →
 σ 2 = (vG 4611686018427387904) →
 σ 3 = vE →
 σ 4 = vF →
 σ 5 = vZ →
 σ 6 = vO →
 tI (σ 7) →
 (-1022) ≤ iv (σ 7) →
 iv (σ 7) ≤ 1023 →
 tF (σ 8) →
 σ 9 = vE →
 σ 10 = vF →
 σ 11 = vZ →
 σ 12 = vZ →
 σ 13 = vZ →
 σ 14 = vO →
 σ 15 = (vG 4611686018427387904) →
 σ 16 = vE →
 σ 17 = vF →
 σ 18 = vZ →
 σ 19 = vO →
 tI (σ 20) →
 (-1022) ≤ iv (σ 20) →
 iv (σ 20) ≤ 1023 →
 tF (σ 21) →
 σ 22 = vE →
 σ 23 = vF →
 σ 24 = vZ →
 tI (σ 25) →
 tF (σ 26) →
 σ 27 = vE →
 σ 28 = vF →
 tI (σ 29) →
 fv (σ 8) = FloatKind.f64.nearest (iv (σ 7)) →
 chkWR [vO, (vG 4611686018427387904), vE, vF, vZ, vZ] →
 chkWR [vO, σ 7, σ 8, vE, vF, vZ, vZ] →
 asn2R [vO, (vG 4611686018427387904), vE, vF, vZ, vO, (vG 4611686018427387904), vE, vF, vZ] →
 fv (σ 21) = FloatKind.f64.nearest (iv (σ 20)) →
 asnWR [vO, σ 7, σ 8, vE, vF, vZ, vO, σ 20, σ 21, vE, vF, vZ] →
 powR [(vG 4611686018427387904), σ 20, σ 21, σ 25, σ 26, vE, vF, σ 29] →
    powBR [(vI 12), vO, (vG 4611686018427387904), vE, vF, vZ, vO, σ 7, σ 8, vE, vF, vZ, σ 25, σ 26, vE, vF, σ 29]
def powBR_L2 : Prop := ∀ σ : Nat → Value,
 σ 0 = (vI 12) →
 σ 1 = vO →
 σ 2 = (vG 4611686018427387904) →
 σ 3 = vE →
 σ 4 = vF →
 σ 5 = vZ →
 σ 6 = vO →
 tI (σ 7) →
 (-1022) ≤ iv (σ 7) →
 iv (σ 7) ≤ 1023 →
 tF (σ 8) →
 σ 9 = vE →
 σ 10 = vF →
 σ 11 = vZ →
 σ 12 = vZ →
 σ 13 = vZ →
 σ 14 = vO →
 tI (σ 15) →
 (-1022) ≤ iv (σ 15) →
 iv (σ 15) ≤ 1023 →
 tF (σ 16) →
 σ 17 = vE →
 σ 18 = vF →
 σ 19 = vZ →
 tI (σ 20) →
 tF (σ 21) →
 σ 22 = vE →
 σ 23 = vF →
 tI (σ 24) →
 fv (σ 8) = FloatKind.f64.nearest (iv (σ 7)) →
 chkWR [vO, (vG 4611686018427387904), vE, vF, vZ, vZ] →
 chkWR [vO, σ 7, σ 8, vE, vF, vZ, vZ] →
 fv (σ 16) = FloatKind.f64.nearest (iv (σ 15)) →
 asnWR [vO, σ 7, σ 8, vE, vF, vZ, vO, σ 15, σ 16, vE, vF, vZ] →
 powR [(vG 4611686018427387904), σ 15, σ 16, σ 20, σ 21, vE, vF, σ 24] →
    powBR [(vI 12), vO, (vG 4611686018427387904), vE, vF, vZ, vO, σ 7, σ 8, vE, vF, vZ, σ 20, σ 21, vE, vF, σ 24]
theorem powBR_tie : powC.goals (cfgB powC.base [chk2C, chkWC, asn2C, asnWC, powerC]) [] 2000 = (powBR_L0 ∧ powBR_L0 ∧ powBR_L2 ∧ powBR_L2 ∧ powBR_L2 ∧ True) := by kernel_rfl
theorem powBR_L0_ok : powBR_L0 := by
  intro σ; intros
  have e_ := ‹asnWR _›
  have e : iv (σ 20) = iv (σ 7) := e_
  have r_ := ‹powR _›
  have r : iv (σ 25) = 1 ∧ fv (σ 26) = PW (iv (σ 20) + 1022).toNat ∧ iv (σ 29) = 0 := r_
  rw [e] at r
  exact r
theorem powBR_L2_ok : powBR_L2 := by
  intro σ; intros
  have e_ := ‹asnWR _›
  have e : iv (σ 15) = iv (σ 7) := e_
  have r_ := ‹powR _›
  have r : iv (σ 20) = 1 ∧ fv (σ 21) = PW (iv (σ 15) + 1022).toNat ∧ iv (σ 24) = 0 := r_
  rw [e] at r
  exact r
theorem pow_ok : powC.ok Tryz.prog All :=
  by_tie powBR_tie (by kernel_rfl) (all_cons T.chk_ok (all_cons W.chk_ok (all_cons T.asn_ok (all_cons W.asn_ok (all_cons power_ok all_nil))))) ⟨powBR_L0_ok, powBR_L0_ok, powBR_L2_ok, powBR_L2_ok, powBR_L2_ok, trivial⟩
end Go.Proofs.Arx
