/- The law of quotients. -/
import Derived.Test.YtgfoocnnidhepaaGreatDoorDivQ
import Derived.Test.YtgfoocnnidhepaaGreatDoorDivM
import Derived.Test.YtgfoocnnidhepaaGreatDoorDivN
import Derived.Test.YtgfoocnnidhepaaGreatDoorDivG
import Derived.Test.YtgfoocnnidhepaaGreatDoorDivL
import Derived.Test.YtgfoocnnidhepaaGreatDoorFPrime
namespace Go.Proofs.Dv
open Go.Ev Go.RowKit Ieee Go.Proofs.YtgfoocnnidhepaaGreatDoor
set_option maxRecDepth 1000000
theorem far_nr_add {a b r : Nat} (h : a + b ≤ 2 ^ 53) (hr : farV .add .f64 (nr a) (nr b) = some (some r) ∨ farV .add .f64 (nr a) (nr b) = some none ∧ Nan64 r) : r = nr (a + b) := by
  obtain ⟨v, e1, e2, e3⟩ := add_whole (WholeF.near (n := a) (by omega) (by omega)) (WholeF.near (n := b) (by omega) (by omega)) (by omega) (by omega)
  have := far_is hr (congrArg some e1)
  rw [this, e3 rfl rfl]
  rfl
theorem true_of {v : Value} (h : isTrue [v]) : bv v = true := by cases h; rfl
theorem big_mul {a b r : Nat} (ha : a < 4294967296) (hb : b < 4294967296) (h : 9007199254740994 ≤ a * b) (hr : farV .mul .f64 (nr a) (nr b) = some (some r) ∨ farV .mul .f64 (nr a) (nr b) = some none ∧ Nan64 r) : ford r 4845873199050653696 = some .gt := by
  have f := nr_mul_fin (by omega) (by omega) hr
  obtain ⟨f1, s1, _⟩ := nr_sv (n := a) (by omega)
  obtain ⟨f2, s2, _⟩ := nr_sv (n := b) (by omega)
  obtain ⟨neg, mag, place, e, hp, hv, hn⟩ := mul_data f1 f2
  have := far_is hr (congrArg some e)
  subst this
  obtain ⟨K, hK⟩ : ∃ K : Nat, K = 1074 := ⟨_, rfl⟩
  have kk : KK.natAbs = 2 ^ K := by rw [hK]; exact KK_abs
  have kp := KK_pos
  have ki : KK = ((2 ^ K : Nat) : Int) := by rw [← kk]; omega
  have hV : (sv (nr a) * sv (nr b)).natAbs = a * b * (2 ^ K * 2 ^ K) := by
    rw [s1, s2, Int.natAbs_mul, Int.natAbs_mul, Int.natAbs_mul, kk, Int.natAbs_natCast, Int.natAbs_natCast]
    ac_rfl
  obtain ⟨Q, hQ⟩ : ∃ Q : Nat, Q = 1075 := ⟨_, rfl⟩
  have hm : (2 ^ 52 + 1) * 2 ^ (Q + 1074) ≤ (sv (nr a) * sv (nr b)).natAbs := by
    have e3 : (2 ^ 52 + 1) * 2 ^ (Q + 1074) = 9007199254740994 * (2 ^ K * 2 ^ K) := by
      rw [show Q + 1074 = 1 + (K + K) by omega, Nat.pow_add 2 1, Nat.pow_add 2 K, ← Nat.mul_assoc]
    rw [hV, e3]
    exact Nat.mul_le_mul_right _ h
  have g := down_of (m := 2 ^ 52 + 1) (q := Q) (neg := neg) hp hv hn (by decide) (by decide) hm
  have e53 : sv 4845873199050653696 = 2 ^ 53 * KK ∧ Fin64 4845873199050653696 := by
    have w := nr_sv (n := 2 ^ 53) (by decide)
    have e : nr (2 ^ 53) = 4845873199050653696 := near53
    rw [e] at w
    exact ⟨w.2.1, w.1⟩
  have hq2 : (((2 ^ 52 + 1) * 2 ^ Q : Nat) : Int) = 9007199254740994 * KK := by
    rw [ki, show Q = 1 + K by omega, Nat.pow_add 2 1, ← Nat.mul_assoc, Int.natCast_mul]
    rfl
  rw [hq2] at g
  rw [ford_fin f e53.2, Option.some.injEq, cmp_gt, e53.1]
  have vp : 0 ≤ sv (nr a) * sv (nr b) := by
    rw [s1, s2]
    exact Int.mul_nonneg (Int.mul_nonneg (by omega) (by omega)) (Int.mul_nonneg (by omega) (by omega))
  rcases g with ⟨_, g | g⟩ | g
  · omega
  · omega
  · exfalso
    rw [g] at f
    unfold Fin64 at f
    have : ∀ b : Bool, double.word b double.infRung % double.signWeight = double.infRung := by decide
    rw [this] at f
    omega
def divR_L0 : Prop := ∀ σ : Nat → Value,
 σ 0 = .int .u32 (iv (σ 0)) →
 0 ≤ iv (σ 0) →
 iv (σ 0) ≤ 4294967295 →
 σ 1 = .int .u32 (iv (σ 1)) →
 0 ≤ iv (σ 1) →
 iv (σ 1) ≤ 0 →
 tI (σ 3) →
 0 ≤ iv (σ 3) →
 iv (σ 3) ≤ 4294967295 →
 tF (σ 4) →
 σ 5 = (vI 4) →
 σ 6 = (vG 0) →
 σ 7 = vE →
 σ 8 = vF →
 σ 9 = (vI 2) →
 σ 10 = vT →
 iv (σ 3) = iv (σ 0) →
 fv (σ 4) = FloatKind.f64.nearest (iv (σ 3)) →
 md0R [(vS #[77,79,68]), vU, vF, vF, vO, vO, vU, vZ, vZ, vO, σ 3, σ 4, vE, vF, vZ, vF, vF, vO, vO, vU, vZ, vZ, vO, (vG 0), vE, vF, vZ, (vI 4), (vG 0), vE, vF, (vI 2), vT] →
 isTrue [σ 11] →
 bv (σ 11) = true →
 iv (σ 1) = 0 →
    divR [σ 0, σ 1, vT]
def divR_L1 : Prop := ∀ σ : Nat → Value,
 σ 0 = .int .u32 (iv (σ 0)) →
 0 ≤ iv (σ 0) →
 iv (σ 0) ≤ 4294967295 →
 σ 1 = .int .u32 (iv (σ 1)) →
 0 ≤ iv (σ 1) →
 iv (σ 1) ≤ 0 →
 tI (σ 3) →
 0 ≤ iv (σ 3) →
 iv (σ 3) ≤ 4294967295 →
 tF (σ 4) →
 σ 5 = (vI 4) →
 σ 6 = (vG 0) →
 σ 7 = vE →
 σ 8 = vF →
 σ 9 = (vI 2) →
 σ 10 = vT →
 iv (σ 3) = iv (σ 0) →
 fv (σ 4) = FloatKind.f64.nearest (iv (σ 3)) →
 md0R [(vS #[77,79,68]), vU, vF, vF, vO, vO, vU, vZ, vZ, vO, σ 3, σ 4, vE, vF, vZ, vF, vF, vO, vO, vU, vZ, vZ, vO, (vG 0), vE, vF, vZ, (vI 4), (vG 0), vE, vF, (vI 2), vT] →
 isTrue [σ 11] →
 bv (σ 11) = false →
 iv (σ 1) = 0 →
    divR [σ 0, σ 1, vF]
def divR_L2 : Prop := ∀ σ : Nat → Value,
 σ 0 = .int .u32 (iv (σ 0)) →
 0 ≤ iv (σ 0) →
 iv (σ 0) ≤ 4294967295 →
 σ 1 = .int .u32 (iv (σ 1)) →
 1 ≤ iv (σ 1) →
 iv (σ 1) ≤ 4294967295 →
 tI (σ 3) →
 0 ≤ iv (σ 3) →
 iv (σ 3) ≤ 4294967295 →
 tF (σ 4) →
 tI (σ 5) →
 1 ≤ iv (σ 5) →
 iv (σ 5) ≤ 4294967295 →
 tF (σ 6) →
 σ 7 = vO →
 tI (σ 8) →
 0 ≤ iv (σ 8) →
 iv (σ 8) ≤ 4294967295 →
 tF (σ 9) →
 σ 10 = vE →
 σ 11 = vF →
 σ 12 = vZ →
 σ 13 = vT →
 σ 14 = vO →
 tF (σ 15) →
 σ 16 = vE →
 σ 17 = vF →
 σ 18 = vZ →
 σ 19 = vT →
 σ 20 = vO →
 tF (σ 21) →
 σ 22 = vE →
 σ 23 = vF →
 σ 24 = vZ →
 σ 25 = vT →
 tI (σ 26) →
 tF (σ 27) →
 σ 28 = vE →
 σ 29 = vF →
 tI (σ 30) →
 σ 31 = vT →
 iv (σ 3) = iv (σ 0) →
 fv (σ 4) = FloatKind.f64.nearest (iv (σ 3)) →
 iv (σ 5) = iv (σ 1) →
 fv (σ 6) = FloatKind.f64.nearest (iv (σ 5)) →
 fv (σ 9) = FloatKind.f64.nearest (iv (σ 8)) →
 quoR [(vS #[81,85,79,84,73,69,78,84]), vU, vF, vF, vO, vO, vU, vZ, vZ, vO, σ 3, σ 4, vE, vF, vZ, vF, vF, vO, vO, vU, vZ, vZ, vO, σ 5, σ 6, vE, vF, vZ, vO, σ 8, σ 9, vE, vF, vZ, vT] →
 mdR [(vS #[77,79,68]), vU, vF, vF, vO, vO, vU, vZ, vZ, vO, σ 3, σ 4, vE, vF, vZ, vF, vF, vO, vO, vU, vZ, vZ, vO, σ 5, σ 6, vE, vF, vZ, vO, σ 15, vE, vF, vZ, vT] →
 gR [(vS #[71,67,68]), vU, vF, vF, vO, vO, vU, vZ, vZ, vO, σ 3, σ 4, vE, vF, vZ, vF, vF, vO, vO, vU, vZ, vZ, vO, σ 5, σ 6, vE, vF, vZ, vO, σ 21, vE, vF, vZ, vT] →
 lR [(vS #[76,67,77]), vU, vF, vF, vO, vO, vU, vZ, vZ, vO, σ 3, σ 4, vE, vF, vZ, vF, vF, vO, vO, vU, vZ, vZ, vO, σ 5, σ 6, vE, vF, vZ, σ 26, σ 27, vE, vF, σ 30, vT] →
 isTrue [σ 32] →
 bv (σ 32) = false →
 bv (σ 32) = !true →
 iv (σ 1) ≠ 0 →
    divR [σ 0, σ 1, vF]
def divR_L3 : Prop := ∀ σ : Nat → Value,
 σ 0 = .int .u32 (iv (σ 0)) →
 0 ≤ iv (σ 0) →
 iv (σ 0) ≤ 4294967295 →
 σ 1 = .int .u32 (iv (σ 1)) →
 1 ≤ iv (σ 1) →
 iv (σ 1) ≤ 4294967295 →
 tI (σ 3) →
 0 ≤ iv (σ 3) →
 iv (σ 3) ≤ 4294967295 →
 tF (σ 4) →
 tI (σ 5) →
 1 ≤ iv (σ 5) →
 iv (σ 5) ≤ 4294967295 →
 tF (σ 6) →
 σ 7 = vO →
 tI (σ 8) →
 0 ≤ iv (σ 8) →
 iv (σ 8) ≤ 4294967295 →
 tF (σ 9) →
 σ 10 = vE →
 σ 11 = vF →
 σ 12 = vZ →
 σ 13 = vT →
 σ 14 = vO →
 tF (σ 15) →
 σ 16 = vE →
 σ 17 = vF →
 σ 18 = vZ →
 σ 19 = vT →
 σ 20 = vO →
 tF (σ 21) →
 σ 22 = vE →
 σ 23 = vF →
 σ 24 = vZ →
 σ 25 = vT →
 tI (σ 26) →
 tF (σ 27) →
 σ 28 = vE →
 σ 29 = vF →
 tI (σ 30) →
 σ 31 = vT →
 tF (σ 34) →
 tF (σ 35) →
 iv (σ 3) = iv (σ 0) →
 fv (σ 4) = FloatKind.f64.nearest (iv (σ 3)) →
 iv (σ 5) = iv (σ 1) →
 fv (σ 6) = FloatKind.f64.nearest (iv (σ 5)) →
 fv (σ 9) = FloatKind.f64.nearest (iv (σ 8)) →
 quoR [(vS #[81,85,79,84,73,69,78,84]), vU, vF, vF, vO, vO, vU, vZ, vZ, vO, σ 3, σ 4, vE, vF, vZ, vF, vF, vO, vO, vU, vZ, vZ, vO, σ 5, σ 6, vE, vF, vZ, vO, σ 8, σ 9, vE, vF, vZ, vT] →
 mdR [(vS #[77,79,68]), vU, vF, vF, vO, vO, vU, vZ, vZ, vO, σ 3, σ 4, vE, vF, vZ, vF, vF, vO, vO, vU, vZ, vZ, vO, σ 5, σ 6, vE, vF, vZ, vO, σ 15, vE, vF, vZ, vT] →
 gR [(vS #[71,67,68]), vU, vF, vF, vO, vO, vU, vZ, vZ, vO, σ 3, σ 4, vE, vF, vZ, vF, vF, vO, vO, vU, vZ, vZ, vO, σ 5, σ 6, vE, vF, vZ, vO, σ 21, vE, vF, vZ, vT] →
 lR [(vS #[76,67,77]), vU, vF, vF, vO, vO, vU, vZ, vZ, vO, σ 3, σ 4, vE, vF, vZ, vF, vF, vO, vO, vU, vZ, vZ, vO, σ 5, σ 6, vE, vF, vZ, σ 26, σ 27, vE, vF, σ 30, vT] →
 isTrue [σ 32] →
 (farV .mul .f64 (fv (σ 9)) (fv (σ 6)) = some (some (fv (σ 34))) ∨ (farV .mul .f64 (fv (σ 9)) (fv (σ 6)) = some none ∧ Nan64 (fv (σ 34)))) →
 (farV .add .f64 (fv (σ 34)) (fv (σ 15)) = some (some (fv (σ 35))) ∨ (farV .add .f64 (fv (σ 34)) (fv (σ 15)) = some none ∧ Nan64 (fv (σ 35)))) →
 ford (fv (σ 35)) (fv (σ 4)) ≠ some .eq →
 bv (σ 32) = true →
 bv (σ 32) = !false →
 iv (σ 1) ≠ 0 →
    divR [σ 0, σ 1, vF]
def divR_L4 : Prop := ∀ σ : Nat → Value,
 σ 0 = .int .u32 (iv (σ 0)) →
 0 ≤ iv (σ 0) →
 iv (σ 0) ≤ 4294967295 →
 σ 1 = .int .u32 (iv (σ 1)) →
 1 ≤ iv (σ 1) →
 iv (σ 1) ≤ 4294967295 →
 tI (σ 3) →
 0 ≤ iv (σ 3) →
 iv (σ 3) ≤ 4294967295 →
 tF (σ 4) →
 tI (σ 5) →
 1 ≤ iv (σ 5) →
 iv (σ 5) ≤ 4294967295 →
 tF (σ 6) →
 σ 7 = vO →
 tI (σ 8) →
 0 ≤ iv (σ 8) →
 iv (σ 8) ≤ 4294967295 →
 tF (σ 9) →
 σ 10 = vE →
 σ 11 = vF →
 σ 12 = vZ →
 σ 13 = vT →
 σ 14 = vO →
 tF (σ 15) →
 σ 16 = vE →
 σ 17 = vF →
 σ 18 = vZ →
 σ 19 = vT →
 σ 20 = vO →
 tF (σ 21) →
 σ 22 = vE →
 σ 23 = vF →
 σ 24 = vZ →
 σ 25 = vT →
 tI (σ 26) →
 tF (σ 27) →
 σ 28 = vE →
 σ 29 = vF →
 tI (σ 30) →
 σ 31 = vT →
 tF (σ 34) →
 tF (σ 35) →
 iv (σ 3) = iv (σ 0) →
 fv (σ 4) = FloatKind.f64.nearest (iv (σ 3)) →
 iv (σ 5) = iv (σ 1) →
 fv (σ 6) = FloatKind.f64.nearest (iv (σ 5)) →
 fv (σ 9) = FloatKind.f64.nearest (iv (σ 8)) →
 quoR [(vS #[81,85,79,84,73,69,78,84]), vU, vF, vF, vO, vO, vU, vZ, vZ, vO, σ 3, σ 4, vE, vF, vZ, vF, vF, vO, vO, vU, vZ, vZ, vO, σ 5, σ 6, vE, vF, vZ, vO, σ 8, σ 9, vE, vF, vZ, vT] →
 mdR [(vS #[77,79,68]), vU, vF, vF, vO, vO, vU, vZ, vZ, vO, σ 3, σ 4, vE, vF, vZ, vF, vF, vO, vO, vU, vZ, vZ, vO, σ 5, σ 6, vE, vF, vZ, vO, σ 15, vE, vF, vZ, vT] →
 gR [(vS #[71,67,68]), vU, vF, vF, vO, vO, vU, vZ, vZ, vO, σ 3, σ 4, vE, vF, vZ, vF, vF, vO, vO, vU, vZ, vZ, vO, σ 5, σ 6, vE, vF, vZ, vO, σ 21, vE, vF, vZ, vT] →
 lR [(vS #[76,67,77]), vU, vF, vF, vO, vO, vU, vZ, vZ, vO, σ 3, σ 4, vE, vF, vZ, vF, vF, vO, vO, vU, vZ, vZ, vO, σ 5, σ 6, vE, vF, vZ, σ 26, σ 27, vE, vF, σ 30, vT] →
 isTrue [σ 32] →
 (farV .mul .f64 (fv (σ 9)) (fv (σ 6)) = some (some (fv (σ 34))) ∨ (farV .mul .f64 (fv (σ 9)) (fv (σ 6)) = some none ∧ Nan64 (fv (σ 34)))) →
 (farV .add .f64 (fv (σ 34)) (fv (σ 15)) = some (some (fv (σ 35))) ∨ (farV .add .f64 (fv (σ 34)) (fv (σ 15)) = some none ∧ Nan64 (fv (σ 35)))) →
 ford (fv (σ 15)) (fv (σ 6)) = some .gt ∨ ford (fv (σ 15)) (fv (σ 6)) = some .eq →
 ford (fv (σ 35)) (fv (σ 4)) = some .eq →
 bv (σ 32) = true →
 bv (σ 32) = !false →
 iv (σ 1) ≠ 0 →
    divR [σ 0, σ 1, vF]
def divR_L5 : Prop := ∀ σ : Nat → Value,
 σ 0 = .int .u32 (iv (σ 0)) →
 0 ≤ iv (σ 0) →
 iv (σ 0) ≤ 4294967295 →
 σ 1 = .int .u32 (iv (σ 1)) →
 1 ≤ iv (σ 1) →
 iv (σ 1) ≤ 4294967295 →
 tI (σ 3) →
 0 ≤ iv (σ 3) →
 iv (σ 3) ≤ 4294967295 →
 tF (σ 4) →
 tI (σ 5) →
 1 ≤ iv (σ 5) →
 iv (σ 5) ≤ 4294967295 →
 tF (σ 6) →
 σ 7 = vO →
 tI (σ 8) →
 0 ≤ iv (σ 8) →
 iv (σ 8) ≤ 4294967295 →
 tF (σ 9) →
 σ 10 = vE →
 σ 11 = vF →
 σ 12 = vZ →
 σ 13 = vT →
 σ 14 = vO →
 tF (σ 15) →
 σ 16 = vE →
 σ 17 = vF →
 σ 18 = vZ →
 σ 19 = vT →
 σ 20 = vO →
 tF (σ 21) →
 σ 22 = vE →
 σ 23 = vF →
 σ 24 = vZ →
 σ 25 = vT →
 tI (σ 26) →
 tF (σ 27) →
 σ 28 = vE →
 σ 29 = vF →
 tI (σ 30) →
 σ 31 = vT →
 tF (σ 34) →
 tF (σ 35) →
 tF (σ 38) →
 iv (σ 3) = iv (σ 0) →
 fv (σ 4) = FloatKind.f64.nearest (iv (σ 3)) →
 iv (σ 5) = iv (σ 1) →
 fv (σ 6) = FloatKind.f64.nearest (iv (σ 5)) →
 fv (σ 9) = FloatKind.f64.nearest (iv (σ 8)) →
 quoR [(vS #[81,85,79,84,73,69,78,84]), vU, vF, vF, vO, vO, vU, vZ, vZ, vO, σ 3, σ 4, vE, vF, vZ, vF, vF, vO, vO, vU, vZ, vZ, vO, σ 5, σ 6, vE, vF, vZ, vO, σ 8, σ 9, vE, vF, vZ, vT] →
 mdR [(vS #[77,79,68]), vU, vF, vF, vO, vO, vU, vZ, vZ, vO, σ 3, σ 4, vE, vF, vZ, vF, vF, vO, vO, vU, vZ, vZ, vO, σ 5, σ 6, vE, vF, vZ, vO, σ 15, vE, vF, vZ, vT] →
 gR [(vS #[71,67,68]), vU, vF, vF, vO, vO, vU, vZ, vZ, vO, σ 3, σ 4, vE, vF, vZ, vF, vF, vO, vO, vU, vZ, vZ, vO, σ 5, σ 6, vE, vF, vZ, vO, σ 21, vE, vF, vZ, vT] →
 lR [(vS #[76,67,77]), vU, vF, vF, vO, vO, vU, vZ, vZ, vO, σ 3, σ 4, vE, vF, vZ, vF, vF, vO, vO, vU, vZ, vZ, vO, σ 5, σ 6, vE, vF, vZ, σ 26, σ 27, vE, vF, σ 30, vT] →
 isTrue [σ 32] →
 (farV .mul .f64 (fv (σ 9)) (fv (σ 6)) = some (some (fv (σ 34))) ∨ (farV .mul .f64 (fv (σ 9)) (fv (σ 6)) = some none ∧ Nan64 (fv (σ 34)))) →
 (farV .add .f64 (fv (σ 34)) (fv (σ 15)) = some (some (fv (σ 35))) ∨ (farV .add .f64 (fv (σ 34)) (fv (σ 15)) = some none ∧ Nan64 (fv (σ 35)))) →
 (farV .mul .f64 (fv (σ 4)) (fv (σ 6)) = some (some (fv (σ 38))) ∨ (farV .mul .f64 (fv (σ 4)) (fv (σ 6)) = some none ∧ Nan64 (fv (σ 38)))) →
 ford (fv (σ 38)) (4845873199050653696) = some .gt →
 ford (fv (σ 15)) (fv (σ 6)) ≠ some .gt ∧ ford (fv (σ 15)) (fv (σ 6)) ≠ some .eq →
 ford (fv (σ 35)) (fv (σ 4)) = some .eq →
 bv (σ 32) = true →
 bv (σ 32) = !false →
 iv (σ 1) ≠ 0 →
    divR [σ 0, σ 1, vT]
def divR_L6 : Prop := ∀ σ : Nat → Value,
 σ 0 = .int .u32 (iv (σ 0)) →
 0 ≤ iv (σ 0) →
 iv (σ 0) ≤ 4294967295 →
 σ 1 = .int .u32 (iv (σ 1)) →
 1 ≤ iv (σ 1) →
 iv (σ 1) ≤ 4294967295 →
 tI (σ 3) →
 0 ≤ iv (σ 3) →
 iv (σ 3) ≤ 4294967295 →
 tF (σ 4) →
 tI (σ 5) →
 1 ≤ iv (σ 5) →
 iv (σ 5) ≤ 4294967295 →
 tF (σ 6) →
 σ 7 = vO →
 tI (σ 8) →
 0 ≤ iv (σ 8) →
 iv (σ 8) ≤ 4294967295 →
 tF (σ 9) →
 σ 10 = vE →
 σ 11 = vF →
 σ 12 = vZ →
 σ 13 = vT →
 σ 14 = vO →
 tF (σ 15) →
 σ 16 = vE →
 σ 17 = vF →
 σ 18 = vZ →
 σ 19 = vT →
 σ 20 = vO →
 tF (σ 21) →
 σ 22 = vE →
 σ 23 = vF →
 σ 24 = vZ →
 σ 25 = vT →
 tI (σ 26) →
 tF (σ 27) →
 σ 28 = vE →
 σ 29 = vF →
 tI (σ 30) →
 σ 31 = vT →
 tF (σ 34) →
 tF (σ 35) →
 tF (σ 38) →
 tF (σ 40) →
 tF (σ 41) →
 σ 42 = .bool (bv (σ 42)) →
 iv (σ 3) = iv (σ 0) →
 fv (σ 4) = FloatKind.f64.nearest (iv (σ 3)) →
 iv (σ 5) = iv (σ 1) →
 fv (σ 6) = FloatKind.f64.nearest (iv (σ 5)) →
 fv (σ 9) = FloatKind.f64.nearest (iv (σ 8)) →
 quoR [(vS #[81,85,79,84,73,69,78,84]), vU, vF, vF, vO, vO, vU, vZ, vZ, vO, σ 3, σ 4, vE, vF, vZ, vF, vF, vO, vO, vU, vZ, vZ, vO, σ 5, σ 6, vE, vF, vZ, vO, σ 8, σ 9, vE, vF, vZ, vT] →
 mdR [(vS #[77,79,68]), vU, vF, vF, vO, vO, vU, vZ, vZ, vO, σ 3, σ 4, vE, vF, vZ, vF, vF, vO, vO, vU, vZ, vZ, vO, σ 5, σ 6, vE, vF, vZ, vO, σ 15, vE, vF, vZ, vT] →
 gR [(vS #[71,67,68]), vU, vF, vF, vO, vO, vU, vZ, vZ, vO, σ 3, σ 4, vE, vF, vZ, vF, vF, vO, vO, vU, vZ, vZ, vO, σ 5, σ 6, vE, vF, vZ, vO, σ 21, vE, vF, vZ, vT] →
 lR [(vS #[76,67,77]), vU, vF, vF, vO, vO, vU, vZ, vZ, vO, σ 3, σ 4, vE, vF, vZ, vF, vF, vO, vO, vU, vZ, vZ, vO, σ 5, σ 6, vE, vF, vZ, σ 26, σ 27, vE, vF, σ 30, vT] →
 isTrue [σ 32] →
 (farV .mul .f64 (fv (σ 9)) (fv (σ 6)) = some (some (fv (σ 34))) ∨ (farV .mul .f64 (fv (σ 9)) (fv (σ 6)) = some none ∧ Nan64 (fv (σ 34)))) →
 (farV .add .f64 (fv (σ 34)) (fv (σ 15)) = some (some (fv (σ 35))) ∨ (farV .add .f64 (fv (σ 34)) (fv (σ 15)) = some none ∧ Nan64 (fv (σ 35)))) →
 (farV .mul .f64 (fv (σ 4)) (fv (σ 6)) = some (some (fv (σ 38))) ∨ (farV .mul .f64 (fv (σ 4)) (fv (σ 6)) = some none ∧ Nan64 (fv (σ 38)))) →
 (farV .mul .f64 (fv (σ 21)) (fv (σ 27)) = some (some (fv (σ 40))) ∨ (farV .mul .f64 (fv (σ 21)) (fv (σ 27)) = some none ∧ Nan64 (fv (σ 40)))) →
 (farV .mul .f64 (fv (σ 4)) (fv (σ 6)) = some (some (fv (σ 41))) ∨ (farV .mul .f64 (fv (σ 4)) (fv (σ 6)) = some none ∧ Nan64 (fv (σ 41)))) →
 fcmpV .eql .f64 (fv (σ 40)) (fv (σ 41)) = some (.bool (bv (σ 42))) →
 ford (fv (σ 38)) (4845873199050653696) ≠ some .gt →
 ford (fv (σ 15)) (fv (σ 6)) ≠ some .gt ∧ ford (fv (σ 15)) (fv (σ 6)) ≠ some .eq →
 ford (fv (σ 35)) (fv (σ 4)) = some .eq →
 bv (σ 32) = true →
 bv (σ 32) = !false →
 iv (σ 1) ≠ 0 →
    divR [σ 0, σ 1, σ 42]
theorem divR_tie : lawC.goals (cfgB lawC.base [liveC, md0C, qC, mdC, gC, lC]) [] 2000 = (divR_L0 ∧ divR_L1 ∧ divR_L2 ∧ divR_L3 ∧ divR_L4 ∧ divR_L5 ∧ divR_L6 ∧ True) := by kernel_rfl
theorem divR_L0_ok : divR_L0 := by
  intro σ; intros
  exact rfl
theorem divR_L1_ok : divR_L1 := by
  intro σ; intros
  have t := ‹isTrue [σ 11]›
  have t2 := true_of t
  rw [‹bv (σ 11) = false›] at t2
  cases t2
theorem divR_L2_ok : divR_L2 := by
  intro σ; intros
  have t := ‹isTrue [σ 32]›
  have t2 := true_of t
  rw [‹bv (σ 32) = false›] at t2
  cases t2
theorem divR_L3_ok : divR_L3 := by
  intro σ; intros
  obtain ⟨x, hx⟩ : ∃ x : Nat, iv (σ 0) = x := ⟨(iv (σ 0)).toNat, by omega⟩
  obtain ⟨y, hy⟩ : ∃ y : Nat, iv (σ 1) = y := ⟨(iv (σ 1)).toNat, by omega⟩
  have hx3 : iv (σ 3) = x := by omega
  have hy5 : iv (σ 5) = y := by omega
  have bx : x < 4294967296 := by omega
  have by_ : y < 4294967296 := by omega
  have y0 : y ≠ 0 := by omega
  have fx0 := ‹fv (σ 4) = FloatKind.f64.nearest (iv (σ 3))›
  have fy0 := ‹fv (σ 6) = FloatKind.f64.nearest (iv (σ 5))›
  have fq0 := ‹fv (σ 9) = FloatKind.f64.nearest (iv (σ 8))›
  have q0_ := ‹quoR _›
  have q0 : iv (σ 8) = (iv (σ 3)).tdiv (iv (σ 5)) := q0_
  have m0_ := ‹mdR _›
  have m0 : fv (σ 15) = nr ((iv (σ 3)).toNat % (iv (σ 5)).toNat) := m0_
  have tx : (iv (σ 3)).toNat = x := by omega
  have ty : (iv (σ 5)).toNat = y := by omega
  rw [tx, ty] at m0
  rw [hx3, hy5] at q0
  have q1 : ((x : Nat) : Int).tdiv (y : Nat) = ((x / y : Nat) : Int) := rfl
  rw [q1] at q0
  rw [hx3] at fx0
  rw [hy5] at fy0
  rw [q0] at fq0
  have fx : fv (σ 4) = nr x := fx0
  have fy : fv (σ 6) = nr y := fy0
  have fq : fv (σ 9) = nr (x / y) := fq0
  have dm := Nat.div_add_mod x y
  have dl := Nat.div_le_self x y
  have ml := Nat.mod_lt x (show y > 0 by omega)
  exfalso
  have p1 := ‹farV .mul .f64 (fv (σ 9)) (fv (σ 6)) = _ ∨ _›
  rw [fq, fy] at p1
  have dm2 : x / y * y + x % y = x := by rw [Nat.mul_comm]; exact dm
  have e1 := far_nr_mul (a := x / y) (b := y) (by omega) (by omega) (by omega) p1
  have p2 := ‹farV .add .f64 (fv (σ 34)) (fv (σ 15)) = _ ∨ _›
  rw [e1, m0] at p2
  have e2 := far_nr_add (a := x / y * y) (b := x % y) (by omega) p2
  rw [dm2] at e2
  have n := ‹ford (fv (σ 35)) (fv (σ 4)) ≠ some .eq›
  rw [e2, fx] at n
  exact n ((nr_eq (by omega) (by omega)).2 rfl)
theorem divR_L4_ok : divR_L4 := by
  intro σ; intros
  obtain ⟨x, hx⟩ : ∃ x : Nat, iv (σ 0) = x := ⟨(iv (σ 0)).toNat, by omega⟩
  obtain ⟨y, hy⟩ : ∃ y : Nat, iv (σ 1) = y := ⟨(iv (σ 1)).toNat, by omega⟩
  have hx3 : iv (σ 3) = x := by omega
  have hy5 : iv (σ 5) = y := by omega
  have bx : x < 4294967296 := by omega
  have by_ : y < 4294967296 := by omega
  have y0 : y ≠ 0 := by omega
  have fx0 := ‹fv (σ 4) = FloatKind.f64.nearest (iv (σ 3))›
  have fy0 := ‹fv (σ 6) = FloatKind.f64.nearest (iv (σ 5))›
  have fq0 := ‹fv (σ 9) = FloatKind.f64.nearest (iv (σ 8))›
  have q0_ := ‹quoR _›
  have q0 : iv (σ 8) = (iv (σ 3)).tdiv (iv (σ 5)) := q0_
  have m0_ := ‹mdR _›
  have m0 : fv (σ 15) = nr ((iv (σ 3)).toNat % (iv (σ 5)).toNat) := m0_
  have tx : (iv (σ 3)).toNat = x := by omega
  have ty : (iv (σ 5)).toNat = y := by omega
  rw [tx, ty] at m0
  rw [hx3, hy5] at q0
  have q1 : ((x : Nat) : Int).tdiv (y : Nat) = ((x / y : Nat) : Int) := rfl
  rw [q1] at q0
  rw [hx3] at fx0
  rw [hy5] at fy0
  rw [q0] at fq0
  have fx : fv (σ 4) = nr x := fx0
  have fy : fv (σ 6) = nr y := fy0
  have fq : fv (σ 9) = nr (x / y) := fq0
  have dm := Nat.div_add_mod x y
  have dl := Nat.div_le_self x y
  have ml := Nat.mod_lt x (show y > 0 by omega)
  exfalso
  have c := ge_of m0 fy (by omega) by_ ‹ford (fv (σ 15)) (fv (σ 6)) = some .gt ∨ _›
  omega
theorem divR_L5_ok : divR_L5 := by
  intro σ; intros
  exact rfl
theorem divR_L6_ok : divR_L6 := by
  intro σ; intros
  obtain ⟨x, hx⟩ : ∃ x : Nat, iv (σ 0) = x := ⟨(iv (σ 0)).toNat, by omega⟩
  obtain ⟨y, hy⟩ : ∃ y : Nat, iv (σ 1) = y := ⟨(iv (σ 1)).toNat, by omega⟩
  have hx3 : iv (σ 3) = x := by omega
  have hy5 : iv (σ 5) = y := by omega
  have bx : x < 4294967296 := by omega
  have by_ : y < 4294967296 := by omega
  have y0 : y ≠ 0 := by omega
  have fx0 := ‹fv (σ 4) = FloatKind.f64.nearest (iv (σ 3))›
  have fy0 := ‹fv (σ 6) = FloatKind.f64.nearest (iv (σ 5))›
  have fq0 := ‹fv (σ 9) = FloatKind.f64.nearest (iv (σ 8))›
  have q0_ := ‹quoR _›
  have q0 : iv (σ 8) = (iv (σ 3)).tdiv (iv (σ 5)) := q0_
  have m0_ := ‹mdR _›
  have m0 : fv (σ 15) = nr ((iv (σ 3)).toNat % (iv (σ 5)).toNat) := m0_
  have tx : (iv (σ 3)).toNat = x := by omega
  have ty : (iv (σ 5)).toNat = y := by omega
  rw [tx, ty] at m0
  rw [hx3, hy5] at q0
  have q1 : ((x : Nat) : Int).tdiv (y : Nat) = ((x / y : Nat) : Int) := rfl
  rw [q1] at q0
  rw [hx3] at fx0
  rw [hy5] at fy0
  rw [q0] at fq0
  have fx : fv (σ 4) = nr x := fx0
  have fy : fv (σ 6) = nr y := fy0
  have fq : fv (σ 9) = nr (x / y) := fq0
  have dm := Nat.div_add_mod x y
  have dl := Nat.div_le_self x y
  have ml := Nat.mod_lt x (show y > 0 by omega)
  have g0_ := ‹gR _›
  have g0 : fv (σ 21) = nr (Nat.gcd (iv (σ 3)).toNat (iv (σ 5)).toNat) := g0_
  rw [tx, ty] at g0
  have l0_ := ‹lR _›
  have l0 : Nat.lcm (iv (σ 3)).toNat (iv (σ 5)).toNat ≤ 9007199254740992 → fv (σ 27) = nr (Nat.lcm (iv (σ 3)).toNat (iv (σ 5)).toNat) := l0_
  rw [tx, ty] at l0
  have pb : farV .mul .f64 (fv (σ 4)) (fv (σ 6)) = some (some (fv (σ 38))) ∨ farV .mul .f64 (fv (σ 4)) (fv (σ 6)) = some none ∧ Nan64 (fv (σ 38)) := ‹_›
  have pc : farV .mul .f64 (fv (σ 4)) (fv (σ 6)) = some (some (fv (σ 41))) ∨ farV .mul .f64 (fv (σ 4)) (fv (σ 6)) = some none ∧ Nan64 (fv (σ 41)) := ‹_›
  have pg := ‹farV .mul .f64 (fv (σ 21)) (fv (σ 27)) = _ ∨ _›
  have nb := ‹ford (fv (σ 38)) 4845873199050653696 ≠ some .gt›
  have cc := ‹fcmpV .eql .f64 (fv (σ 40)) (fv (σ 41)) = _›
  rw [fx, fy] at pb pc
  have n2 := no_two bx by_
  have le : x * y ≤ 9007199254740992 := by
    by_cases c : 9007199254740994 ≤ x * y
    · exact (nb (big_mul bx by_ c pb)).elim
    · omega
  have e1 := far_nr_mul (a := x) (b := y) (by omega) (by omega) le pc
  have gl : Nat.gcd x y * Nat.lcm x y = x * y := Nat.gcd_mul_lcm x y
  have ll : Nat.lcm x y ≤ x * y := by
    have gp : 0 < Nat.gcd x y := Nat.gcd_pos_of_pos_right x (by omega)
    rw [← gl]
    exact Nat.le_mul_of_pos_left _ gp
  have gle : Nat.gcd x y ≤ y := Nat.gcd_le_right x (by omega)
  have l1 := l0 (by omega)
  rw [g0, l1] at pg
  have e2 := far_nr_mul (a := Nat.gcd x y) (b := Nat.lcm x y) (by omega) (by omega) (by rw [gl]; omega) pg
  rw [gl] at e2
  rw [e1, e2] at cc
  have fz := (nr_sv (n := x * y) (by omega)).1
  rw [cmp_sv fz fz (k := .i64) rfl] at cc
  simp only [ibin, Option.some.injEq, Value.bool.injEq] at cc
  show bv (σ 42) = true
  rw [← cc]; simp
theorem law_ok : lawC.ok Tryz.prog All :=
  by_tie divR_tie (by kernel_rfl) (all_cons live_ok (all_cons md0_ok (all_cons q_ok (all_cons md_ok (all_cons g_ok (all_cons l_ok all_nil)))))) ⟨divR_L0_ok, divR_L1_ok, divR_L2_ok, divR_L3_ok, divR_L4_ok, divR_L5_ok, divR_L6_ok, trivial⟩
end Go.Proofs.Dv
