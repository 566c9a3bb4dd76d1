/- The law of rounding. -/
import Derived.Test.YtgfoocnnidhepaaGreatDoorRndB
import Derived.Test.YtgfoocnnidhepaaGreatDoorRndC
import Derived.Test.YtgfoocnnidhepaaGreatDoorRndD
namespace Go.Proofs.Rnd
open Go.Ev Go.RowKit Ieee Go.Proofs.YtgfoocnnidhepaaGreatDoor
set_option maxRecDepth 1000000
theorem law_low {x d ax ad y : Nat} {p : Int} (hd : resR kDn x p d) (h1 : ax = x % 2 ^ 63) (h2 : ad = d % 2 ^ 63)
    (hy : farV .add .f64 ax 4517329193108106637 = some (some y) ∨ farV .add .f64 ax 4517329193108106637 = some none ∧ Nan64 y) :
    Fin64 ax ∧ Fin64 ad ∧ Fin64 y ∧ sv ad ≤ sv y := by
  have ⟨m, _, a1, _⟩ := hd
  obtain ⟨f1, g2, g3⟩ := law_dn hd
  obtain ⟨x1, x2⟩ := abs_fin f1
  obtain ⟨d1, d2⟩ := abs_fin g2
  rw [← h1] at x1 x2
  rw [← h2] at d1 d2
  rw [← x2, ← d2] at g3
  have hax := P64_abs a1
  rw [← x2] at hax
  have hc : m.natAbs ≤ 2 ^ 31 := by have := a1.2.2; omega
  have nn : (0 : Int) ≤ m.natAbs * K68 := Int.mul_nonneg (by omega) (Int.le_of_lt K68_pos)
  have up : sv ax ≤ 2 ^ 46 * KK := by
    rw [hax, KK64]
    have h := Int.mul_le_mul_of_nonneg_right (show (m.natAbs : Int) ≤ 2 ^ 31 by omega) (Int.le_of_lt K68_pos)
    have := K68_pos
    omega
  obtain ⟨y1, y2⟩ := add_eps x1 (by omega) up hy
  have hy2 := y2 _ (by omega) (Int.le_of_eq hax.symm)
  exact ⟨x1, d1, y1, by omega⟩
def rndR_L0 : Prop := ∀ σ : Nat → Value,
 σ 0 = .int .i32 (iv (σ 0)) →
 (-2147483648) ≤ iv (σ 0) →
 iv (σ 0) ≤ 2147483647 →
 σ 1 = .int .u8 (iv (σ 1)) →
 0 ≤ iv (σ 1) →
 iv (σ 1) ≤ 255 →
 tI (σ 2) →
 (-2147483648) ≤ iv (σ 2) →
 iv (σ 2) ≤ 2147483647 →
 tF (σ 3) →
 tF (σ 4) →
 σ 5 = .int .u8 (iv (σ 5)) →
 0 ≤ iv (σ 5) →
 iv (σ 5) ≤ 3 →
 tI (σ 6) →
 0 ≤ iv (σ 6) →
 iv (σ 6) ≤ 3 →
 tF (σ 7) →
 σ 8 = vO →
 tF (σ 9) →
 σ 10 = vE →
 σ 11 = vF →
 σ 12 = vZ →
 σ 13 = vT →
 σ 14 = vO →
 tF (σ 15) →
 σ 16 = vE →
 σ 17 = vF →
 σ 18 = vZ →
 σ 19 = vT →
 σ 20 = vO →
 tF (σ 21) →
 σ 22 = vE →
 σ 23 = vF →
 σ 24 = vZ →
 σ 25 = vT →
 iv (σ 2) = iv (σ 0) →
 fv (σ 3) = FloatKind.f64.nearest (iv (σ 2)) →
 (farV .quo .f64 (fv (σ 3)) (4634204016564240384) = some (some (fv (σ 4))) ∨ (farV .quo .f64 (fv (σ 3)) (4634204016564240384) = some none ∧ Nan64 (fv (σ 4)))) →
 iv (σ 5) = (iv (σ 1) : Int).tmod (4) →
 iv (σ 6) = iv (σ 5) →
 fv (σ 7) = FloatKind.f64.nearest (iv (σ 6)) →
 roR [(vS #[82,79,85,78,68]), vU, vF, vF, vO, vO, vU, vZ, vZ, vO, σ 4, vE, vF, vZ, vF, vF, vO, vO, vU, vZ, vZ, vO, σ 6, σ 7, vE, vF, vZ, vO, σ 9, vE, vF, vZ, vT] →
 upR [(vS #[82,79,85,78,68,85,80]), vU, vF, vF, vO, vO, vU, vZ, vZ, vO, σ 4, vE, vF, vZ, vF, vF, vO, vO, vU, vZ, vZ, vO, σ 6, σ 7, vE, vF, vZ, vO, σ 15, vE, vF, vZ, vT] →
 dnR [(vS #[82,79,85,78,68,68,79,87,78]), vU, vF, vF, vO, vO, vU, vZ, vZ, vO, σ 4, vE, vF, vZ, vF, vF, vO, vO, vU, vZ, vZ, vO, σ 6, σ 7, vE, vF, vZ, vO, σ 21, vE, vF, vZ, vT] →
 isTrue [σ 26] →
 bv (σ 26) = false →
 bv (σ 26) = !true →
    rndR [σ 0, σ 1, vF]
def rndR_L1 : Prop := ∀ σ : Nat → Value,
 σ 0 = .int .i32 (iv (σ 0)) →
 (-2147483648) ≤ iv (σ 0) →
 iv (σ 0) ≤ 2147483647 →
 σ 1 = .int .u8 (iv (σ 1)) →
 0 ≤ iv (σ 1) →
 iv (σ 1) ≤ 255 →
 tI (σ 2) →
 (-2147483648) ≤ iv (σ 2) →
 iv (σ 2) ≤ 2147483647 →
 tF (σ 3) →
 tF (σ 4) →
 σ 5 = .int .u8 (iv (σ 5)) →
 0 ≤ iv (σ 5) →
 iv (σ 5) ≤ 3 →
 tI (σ 6) →
 0 ≤ iv (σ 6) →
 iv (σ 6) ≤ 3 →
 tF (σ 7) →
 σ 8 = vO →
 tF (σ 9) →
 σ 10 = vE →
 σ 11 = vF →
 σ 12 = vZ →
 σ 13 = vT →
 σ 14 = vO →
 tF (σ 15) →
 σ 16 = vE →
 σ 17 = vF →
 σ 18 = vZ →
 σ 19 = vT →
 σ 20 = vO →
 tF (σ 21) →
 σ 22 = vE →
 σ 23 = vF →
 σ 24 = vZ →
 σ 25 = vT →
 tF (σ 28) →
 tF (σ 29) →
 tF (σ 30) →
 tF (σ 32) →
 tF (σ 33) →
 iv (σ 2) = iv (σ 0) →
 fv (σ 3) = FloatKind.f64.nearest (iv (σ 2)) →
 (farV .quo .f64 (fv (σ 3)) (4634204016564240384) = some (some (fv (σ 4))) ∨ (farV .quo .f64 (fv (σ 3)) (4634204016564240384) = some none ∧ Nan64 (fv (σ 4)))) →
 iv (σ 5) = (iv (σ 1) : Int).tmod (4) →
 iv (σ 6) = iv (σ 5) →
 fv (σ 7) = FloatKind.f64.nearest (iv (σ 6)) →
 roR [(vS #[82,79,85,78,68]), vU, vF, vF, vO, vO, vU, vZ, vZ, vO, σ 4, vE, vF, vZ, vF, vF, vO, vO, vU, vZ, vZ, vO, σ 6, σ 7, vE, vF, vZ, vO, σ 9, vE, vF, vZ, vT] →
 upR [(vS #[82,79,85,78,68,85,80]), vU, vF, vF, vO, vO, vU, vZ, vZ, vO, σ 4, vE, vF, vZ, vF, vF, vO, vO, vU, vZ, vZ, vO, σ 6, σ 7, vE, vF, vZ, vO, σ 15, vE, vF, vZ, vT] →
 dnR [(vS #[82,79,85,78,68,68,79,87,78]), vU, vF, vF, vO, vO, vU, vZ, vZ, vO, σ 4, vE, vF, vZ, vF, vF, vO, vO, vU, vZ, vZ, vO, σ 6, σ 7, vE, vF, vZ, vO, σ 21, vE, vF, vZ, vT] →
 isTrue [σ 26] →
 absR [σ 4, σ 28] →
 absR [σ 21, σ 29] →
 (farV .add .f64 (fv (σ 28)) (4517329193108106637) = some (some (fv (σ 30))) ∨ (farV .add .f64 (fv (σ 28)) (4517329193108106637) = some none ∧ Nan64 (fv (σ 30)))) →
 absR [σ 15, σ 32] →
 (farV .add .f64 (fv (σ 32)) (4517329193108106637) = some (some (fv (σ 33))) ∨ (farV .add .f64 (fv (σ 32)) (4517329193108106637) = some none ∧ Nan64 (fv (σ 33)))) →
 ford (fv (σ 9)) (fv (σ 15)) = some .eq →
 ford (fv (σ 28)) (fv (σ 33)) = some .lt ∨ ford (fv (σ 28)) (fv (σ 33)) = some .eq →
 ford (fv (σ 29)) (fv (σ 30)) = some .lt ∨ ford (fv (σ 29)) (fv (σ 30)) = some .eq →
 bv (σ 26) = true →
 bv (σ 26) = !false →
    rndR [σ 0, σ 1, vT]
def rndR_L2 : Prop := ∀ σ : Nat → Value,
 σ 0 = .int .i32 (iv (σ 0)) →
 (-2147483648) ≤ iv (σ 0) →
 iv (σ 0) ≤ 2147483647 →
 σ 1 = .int .u8 (iv (σ 1)) →
 0 ≤ iv (σ 1) →
 iv (σ 1) ≤ 255 →
 tI (σ 2) →
 (-2147483648) ≤ iv (σ 2) →
 iv (σ 2) ≤ 2147483647 →
 tF (σ 3) →
 tF (σ 4) →
 σ 5 = .int .u8 (iv (σ 5)) →
 0 ≤ iv (σ 5) →
 iv (σ 5) ≤ 3 →
 tI (σ 6) →
 0 ≤ iv (σ 6) →
 iv (σ 6) ≤ 3 →
 tF (σ 7) →
 σ 8 = vO →
 tF (σ 9) →
 σ 10 = vE →
 σ 11 = vF →
 σ 12 = vZ →
 σ 13 = vT →
 σ 14 = vO →
 tF (σ 15) →
 σ 16 = vE →
 σ 17 = vF →
 σ 18 = vZ →
 σ 19 = vT →
 σ 20 = vO →
 tF (σ 21) →
 σ 22 = vE →
 σ 23 = vF →
 σ 24 = vZ →
 σ 25 = vT →
 tF (σ 28) →
 tF (σ 29) →
 tF (σ 30) →
 tF (σ 32) →
 tF (σ 33) →
 σ 36 = .bool (bv (σ 36)) →
 iv (σ 2) = iv (σ 0) →
 fv (σ 3) = FloatKind.f64.nearest (iv (σ 2)) →
 (farV .quo .f64 (fv (σ 3)) (4634204016564240384) = some (some (fv (σ 4))) ∨ (farV .quo .f64 (fv (σ 3)) (4634204016564240384) = some none ∧ Nan64 (fv (σ 4)))) →
 iv (σ 5) = (iv (σ 1) : Int).tmod (4) →
 iv (σ 6) = iv (σ 5) →
 fv (σ 7) = FloatKind.f64.nearest (iv (σ 6)) →
 roR [(vS #[82,79,85,78,68]), vU, vF, vF, vO, vO, vU, vZ, vZ, vO, σ 4, vE, vF, vZ, vF, vF, vO, vO, vU, vZ, vZ, vO, σ 6, σ 7, vE, vF, vZ, vO, σ 9, vE, vF, vZ, vT] →
 upR [(vS #[82,79,85,78,68,85,80]), vU, vF, vF, vO, vO, vU, vZ, vZ, vO, σ 4, vE, vF, vZ, vF, vF, vO, vO, vU, vZ, vZ, vO, σ 6, σ 7, vE, vF, vZ, vO, σ 15, vE, vF, vZ, vT] →
 dnR [(vS #[82,79,85,78,68,68,79,87,78]), vU, vF, vF, vO, vO, vU, vZ, vZ, vO, σ 4, vE, vF, vZ, vF, vF, vO, vO, vU, vZ, vZ, vO, σ 6, σ 7, vE, vF, vZ, vO, σ 21, vE, vF, vZ, vT] →
 isTrue [σ 26] →
 absR [σ 4, σ 28] →
 absR [σ 21, σ 29] →
 (farV .add .f64 (fv (σ 28)) (4517329193108106637) = some (some (fv (σ 30))) ∨ (farV .add .f64 (fv (σ 28)) (4517329193108106637) = some none ∧ Nan64 (fv (σ 30)))) →
 absR [σ 15, σ 32] →
 (farV .add .f64 (fv (σ 32)) (4517329193108106637) = some (some (fv (σ 33))) ∨ (farV .add .f64 (fv (σ 32)) (4517329193108106637) = some none ∧ Nan64 (fv (σ 33)))) →
 fcmpV .eql .f64 (fv (σ 9)) (fv (σ 21)) = some (.bool (bv (σ 36))) →
 ford (fv (σ 9)) (fv (σ 15)) ≠ some .eq →
 ford (fv (σ 28)) (fv (σ 33)) = some .lt ∨ ford (fv (σ 28)) (fv (σ 33)) = some .eq →
 ford (fv (σ 29)) (fv (σ 30)) = some .lt ∨ ford (fv (σ 29)) (fv (σ 30)) = some .eq →
 bv (σ 26) = true →
 bv (σ 26) = !false →
    rndR [σ 0, σ 1, σ 36]
def rndR_L3 : Prop := ∀ σ : Nat → Value,
 σ 0 = .int .i32 (iv (σ 0)) →
 (-2147483648) ≤ iv (σ 0) →
 iv (σ 0) ≤ 2147483647 →
 σ 1 = .int .u8 (iv (σ 1)) →
 0 ≤ iv (σ 1) →
 iv (σ 1) ≤ 255 →
 tI (σ 2) →
 (-2147483648) ≤ iv (σ 2) →
 iv (σ 2) ≤ 2147483647 →
 tF (σ 3) →
 tF (σ 4) →
 σ 5 = .int .u8 (iv (σ 5)) →
 0 ≤ iv (σ 5) →
 iv (σ 5) ≤ 3 →
 tI (σ 6) →
 0 ≤ iv (σ 6) →
 iv (σ 6) ≤ 3 →
 tF (σ 7) →
 σ 8 = vO →
 tF (σ 9) →
 σ 10 = vE →
 σ 11 = vF →
 σ 12 = vZ →
 σ 13 = vT →
 σ 14 = vO →
 tF (σ 15) →
 σ 16 = vE →
 σ 17 = vF →
 σ 18 = vZ →
 σ 19 = vT →
 σ 20 = vO →
 tF (σ 21) →
 σ 22 = vE →
 σ 23 = vF →
 σ 24 = vZ →
 σ 25 = vT →
 tF (σ 28) →
 tF (σ 29) →
 tF (σ 30) →
 tF (σ 32) →
 tF (σ 33) →
 iv (σ 2) = iv (σ 0) →
 fv (σ 3) = FloatKind.f64.nearest (iv (σ 2)) →
 (farV .quo .f64 (fv (σ 3)) (4634204016564240384) = some (some (fv (σ 4))) ∨ (farV .quo .f64 (fv (σ 3)) (4634204016564240384) = some none ∧ Nan64 (fv (σ 4)))) →
 iv (σ 5) = (iv (σ 1) : Int).tmod (4) →
 iv (σ 6) = iv (σ 5) →
 fv (σ 7) = FloatKind.f64.nearest (iv (σ 6)) →
 roR [(vS #[82,79,85,78,68]), vU, vF, vF, vO, vO, vU, vZ, vZ, vO, σ 4, vE, vF, vZ, vF, vF, vO, vO, vU, vZ, vZ, vO, σ 6, σ 7, vE, vF, vZ, vO, σ 9, vE, vF, vZ, vT] →
 upR [(vS #[82,79,85,78,68,85,80]), vU, vF, vF, vO, vO, vU, vZ, vZ, vO, σ 4, vE, vF, vZ, vF, vF, vO, vO, vU, vZ, vZ, vO, σ 6, σ 7, vE, vF, vZ, vO, σ 15, vE, vF, vZ, vT] →
 dnR [(vS #[82,79,85,78,68,68,79,87,78]), vU, vF, vF, vO, vO, vU, vZ, vZ, vO, σ 4, vE, vF, vZ, vF, vF, vO, vO, vU, vZ, vZ, vO, σ 6, σ 7, vE, vF, vZ, vO, σ 21, vE, vF, vZ, vT] →
 isTrue [σ 26] →
 absR [σ 4, σ 28] →
 absR [σ 21, σ 29] →
 (farV .add .f64 (fv (σ 28)) (4517329193108106637) = some (some (fv (σ 30))) ∨ (farV .add .f64 (fv (σ 28)) (4517329193108106637) = some none ∧ Nan64 (fv (σ 30)))) →
 absR [σ 15, σ 32] →
 (farV .add .f64 (fv (σ 32)) (4517329193108106637) = some (some (fv (σ 33))) ∨ (farV .add .f64 (fv (σ 32)) (4517329193108106637) = some none ∧ Nan64 (fv (σ 33)))) →
 ford (fv (σ 28)) (fv (σ 33)) ≠ some .lt ∧ ford (fv (σ 28)) (fv (σ 33)) ≠ some .eq →
 ford (fv (σ 29)) (fv (σ 30)) = some .lt ∨ ford (fv (σ 29)) (fv (σ 30)) = some .eq →
 bv (σ 26) = true →
 bv (σ 26) = !false →
    rndR [σ 0, σ 1, vF]
def rndR_L4 : Prop := ∀ σ : Nat → Value,
 σ 0 = .int .i32 (iv (σ 0)) →
 (-2147483648) ≤ iv (σ 0) →
 iv (σ 0) ≤ 2147483647 →
 σ 1 = .int .u8 (iv (σ 1)) →
 0 ≤ iv (σ 1) →
 iv (σ 1) ≤ 255 →
 tI (σ 2) →
 (-2147483648) ≤ iv (σ 2) →
 iv (σ 2) ≤ 2147483647 →
 tF (σ 3) →
 tF (σ 4) →
 σ 5 = .int .u8 (iv (σ 5)) →
 0 ≤ iv (σ 5) →
 iv (σ 5) ≤ 3 →
 tI (σ 6) →
 0 ≤ iv (σ 6) →
 iv (σ 6) ≤ 3 →
 tF (σ 7) →
 σ 8 = vO →
 tF (σ 9) →
 σ 10 = vE →
 σ 11 = vF →
 σ 12 = vZ →
 σ 13 = vT →
 σ 14 = vO →
 tF (σ 15) →
 σ 16 = vE →
 σ 17 = vF →
 σ 18 = vZ →
 σ 19 = vT →
 σ 20 = vO →
 tF (σ 21) →
 σ 22 = vE →
 σ 23 = vF →
 σ 24 = vZ →
 σ 25 = vT →
 tF (σ 28) →
 tF (σ 29) →
 tF (σ 30) →
 iv (σ 2) = iv (σ 0) →
 fv (σ 3) = FloatKind.f64.nearest (iv (σ 2)) →
 (farV .quo .f64 (fv (σ 3)) (4634204016564240384) = some (some (fv (σ 4))) ∨ (farV .quo .f64 (fv (σ 3)) (4634204016564240384) = some none ∧ Nan64 (fv (σ 4)))) →
 iv (σ 5) = (iv (σ 1) : Int).tmod (4) →
 iv (σ 6) = iv (σ 5) →
 fv (σ 7) = FloatKind.f64.nearest (iv (σ 6)) →
 roR [(vS #[82,79,85,78,68]), vU, vF, vF, vO, vO, vU, vZ, vZ, vO, σ 4, vE, vF, vZ, vF, vF, vO, vO, vU, vZ, vZ, vO, σ 6, σ 7, vE, vF, vZ, vO, σ 9, vE, vF, vZ, vT] →
 upR [(vS #[82,79,85,78,68,85,80]), vU, vF, vF, vO, vO, vU, vZ, vZ, vO, σ 4, vE, vF, vZ, vF, vF, vO, vO, vU, vZ, vZ, vO, σ 6, σ 7, vE, vF, vZ, vO, σ 15, vE, vF, vZ, vT] →
 dnR [(vS #[82,79,85,78,68,68,79,87,78]), vU, vF, vF, vO, vO, vU, vZ, vZ, vO, σ 4, vE, vF, vZ, vF, vF, vO, vO, vU, vZ, vZ, vO, σ 6, σ 7, vE, vF, vZ, vO, σ 21, vE, vF, vZ, vT] →
 isTrue [σ 26] →
 absR [σ 4, σ 28] →
 absR [σ 21, σ 29] →
 (farV .add .f64 (fv (σ 28)) (4517329193108106637) = some (some (fv (σ 30))) ∨ (farV .add .f64 (fv (σ 28)) (4517329193108106637) = some none ∧ Nan64 (fv (σ 30)))) →
 ford (fv (σ 29)) (fv (σ 30)) ≠ some .lt ∧ ford (fv (σ 29)) (fv (σ 30)) ≠ some .eq →
 bv (σ 26) = true →
 bv (σ 26) = !false →
    rndR [σ 0, σ 1, vF]
def rndR_L5 : Prop := ∀ σ : Nat → Value,
 σ 0 = .int .i32 (iv (σ 0)) →
 (-2147483648) ≤ iv (σ 0) →
 iv (σ 0) ≤ 2147483647 →
 σ 1 = .int .u8 (iv (σ 1)) →
 0 ≤ iv (σ 1) →
 iv (σ 1) ≤ 255 →
 tI (σ 2) →
 (-2147483648) ≤ iv (σ 2) →
 iv (σ 2) ≤ 2147483647 →
 tF (σ 3) →
 tF (σ 4) →
 σ 5 = .int .u8 (iv (σ 5)) →
 0 ≤ iv (σ 5) →
 iv (σ 5) ≤ 3 →
 tI (σ 6) →
 0 ≤ iv (σ 6) →
 iv (σ 6) ≤ 3 →
 tF (σ 7) →
 σ 8 = vO →
 tF (σ 9) →
 σ 10 = vE →
 σ 11 = vF →
 σ 12 = vZ →
 σ 13 = vT →
 σ 14 = vO →
 tF (σ 15) →
 σ 16 = vE →
 σ 17 = vF →
 σ 18 = vZ →
 σ 19 = vT →
 iv (σ 2) = iv (σ 0) →
 fv (σ 3) = FloatKind.f64.nearest (iv (σ 2)) →
 (farV .quo .f64 (fv (σ 3)) (4634204016564240384) = some (some (fv (σ 4))) ∨ (farV .quo .f64 (fv (σ 3)) (4634204016564240384) = some none ∧ Nan64 (fv (σ 4)))) →
 iv (σ 5) = (iv (σ 1) : Int).tmod (4) →
 iv (σ 6) = iv (σ 5) →
 fv (σ 7) = FloatKind.f64.nearest (iv (σ 6)) →
 roR [(vS #[82,79,85,78,68]), vU, vF, vF, vO, vO, vU, vZ, vZ, vO, σ 4, vE, vF, vZ, vF, vF, vO, vO, vU, vZ, vZ, vO, σ 6, σ 7, vE, vF, vZ, vO, σ 9, vE, vF, vZ, vT] →
 upR [(vS #[82,79,85,78,68,85,80]), vU, vF, vF, vO, vO, vU, vZ, vZ, vO, σ 4, vE, vF, vZ, vF, vF, vO, vO, vU, vZ, vZ, vO, σ 6, σ 7, vE, vF, vZ, vO, σ 15, vE, vF, vZ, vT] →
 ¬ dnRPre [(vS #[82,79,85,78,68,68,79,87,78]), vU, vF, vF, vO, vO, vU, vZ, vZ, vO, σ 4, vE, vF, vZ, vF, vF, vO, vO, vU, vZ, vZ, vO, σ 6, σ 7, vE, vF, vZ] →
    False
def rndR_L6 : Prop := ∀ σ : Nat → Value,
 σ 0 = .int .i32 (iv (σ 0)) →
 (-2147483648) ≤ iv (σ 0) →
 iv (σ 0) ≤ 2147483647 →
 σ 1 = .int .u8 (iv (σ 1)) →
 0 ≤ iv (σ 1) →
 iv (σ 1) ≤ 255 →
 tI (σ 2) →
 (-2147483648) ≤ iv (σ 2) →
 iv (σ 2) ≤ 2147483647 →
 tF (σ 3) →
 tF (σ 4) →
 σ 5 = .int .u8 (iv (σ 5)) →
 0 ≤ iv (σ 5) →
 iv (σ 5) ≤ 3 →
 tI (σ 6) →
 0 ≤ iv (σ 6) →
 iv (σ 6) ≤ 3 →
 tF (σ 7) →
 σ 8 = vO →
 tF (σ 9) →
 σ 10 = vE →
 σ 11 = vF →
 σ 12 = vZ →
 σ 13 = vT →
 iv (σ 2) = iv (σ 0) →
 fv (σ 3) = FloatKind.f64.nearest (iv (σ 2)) →
 (farV .quo .f64 (fv (σ 3)) (4634204016564240384) = some (some (fv (σ 4))) ∨ (farV .quo .f64 (fv (σ 3)) (4634204016564240384) = some none ∧ Nan64 (fv (σ 4)))) →
 iv (σ 5) = (iv (σ 1) : Int).tmod (4) →
 iv (σ 6) = iv (σ 5) →
 fv (σ 7) = FloatKind.f64.nearest (iv (σ 6)) →
 roR [(vS #[82,79,85,78,68]), vU, vF, vF, vO, vO, vU, vZ, vZ, vO, σ 4, vE, vF, vZ, vF, vF, vO, vO, vU, vZ, vZ, vO, σ 6, σ 7, vE, vF, vZ, vO, σ 9, vE, vF, vZ, vT] →
 ¬ upRPre [(vS #[82,79,85,78,68,85,80]), vU, vF, vF, vO, vO, vU, vZ, vZ, vO, σ 4, vE, vF, vZ, vF, vF, vO, vO, vU, vZ, vZ, vO, σ 6, σ 7, vE, vF, vZ] →
    False
def rndR_L7 : Prop := ∀ σ : Nat → Value,
 σ 0 = .int .i32 (iv (σ 0)) →
 (-2147483648) ≤ iv (σ 0) →
 iv (σ 0) ≤ 2147483647 →
 σ 1 = .int .u8 (iv (σ 1)) →
 0 ≤ iv (σ 1) →
 iv (σ 1) ≤ 255 →
 tI (σ 2) →
 (-2147483648) ≤ iv (σ 2) →
 iv (σ 2) ≤ 2147483647 →
 tF (σ 3) →
 tF (σ 4) →
 σ 5 = .int .u8 (iv (σ 5)) →
 0 ≤ iv (σ 5) →
 iv (σ 5) ≤ 3 →
 tI (σ 6) →
 0 ≤ iv (σ 6) →
 iv (σ 6) ≤ 3 →
 tF (σ 7) →
 iv (σ 2) = iv (σ 0) →
 fv (σ 3) = FloatKind.f64.nearest (iv (σ 2)) →
 (farV .quo .f64 (fv (σ 3)) (4634204016564240384) = some (some (fv (σ 4))) ∨ (farV .quo .f64 (fv (σ 3)) (4634204016564240384) = some none ∧ Nan64 (fv (σ 4)))) →
 iv (σ 5) = (iv (σ 1) : Int).tmod (4) →
 iv (σ 6) = iv (σ 5) →
 fv (σ 7) = FloatKind.f64.nearest (iv (σ 6)) →
 ¬ roRPre [(vS #[82,79,85,78,68]), vU, vF, vF, vO, vO, vU, vZ, vZ, vO, σ 4, vE, vF, vZ, vF, vF, vO, vO, vU, vZ, vZ, vO, σ 6, σ 7, vE, vF, vZ] →
    False
theorem rndR_tie : lawC.goals (cfgB lawC.base [liveC, absC, roC, upC, dnC]) [] 2000 = (rndR_L0 ∧ rndR_L1 ∧ rndR_L2 ∧ rndR_L3 ∧ rndR_L4 ∧ rndR_L5 ∧ rndR_L6 ∧ rndR_L7 ∧ True) := by kernel_rfl
theorem live_is {v : Value} (h : isTrue [v]) (e : bv v = false) : False := by
  cases h; cases e
theorem rndR_L0_ok : rndR_L0 := by
  intro σ; intros
  have i0 := ‹isTrue _›
  exact (live_is i0 ‹bv (σ 26) = false›).elim
theorem rndR_L1_ok : rndR_L1 := by
  intro σ; intros
  exact rfl
theorem rndR_L2_ok : rndR_L2 := by
  intro σ; intros
  have hr_ := ‹roR _›
  have hr : resR kRo (fv (σ 4)) (iv (σ 6)) (fv (σ 9)) := hr_
  have hu_ := ‹upR _›
  have hu : resR kUp (fv (σ 4)) (iv (σ 6)) (fv (σ 15)) := hu_
  have hd_ := ‹dnR _›
  have hd : resR kDn (fv (σ 4)) (iv (σ 6)) (fv (σ 21)) := hd_
  obtain ⟨f1, f2, f3, h⟩ := law_eq hr hu hd
  have n := ‹ford (fv (σ 9)) (fv (σ 15)) ≠ some .eq›
  have c := ‹fcmpV .eql .f64 (fv (σ 9)) (fv (σ 21)) = _›
  rcases h with h | h
  · exact (n (by rw [ford_fin f1 f2, h]; exact congrArg some (Int.compare_eq_eq.2 rfl))).elim
  · rw [cmp_sv f1 f3 (k := .i64) rfl, h] at c
    simp only [ibin, Option.some.injEq, Value.bool.injEq] at c
    show bv (σ 36) = true
    rw [← c]; simp
theorem rndR_L3_ok : rndR_L3 := by
  intro σ; intros
  have hu_ := ‹upR _›
  have hu : resR kUp (fv (σ 4)) (iv (σ 6)) (fv (σ 15)) := hu_
  have hd_ := ‹dnR _›
  have hd : resR kDn (fv (σ 4)) (iv (σ 6)) (fv (σ 21)) := hd_
  have a1_ := ‹absR [σ 4, σ 28]›
  have a1 : fv (σ 28) = fv (σ 4) % 2 ^ 63 := a1_
  have a2_ := ‹absR [σ 21, σ 29]›
  have a2 : fv (σ 29) = fv (σ 21) % 2 ^ 63 := a2_
  have a3_ := ‹absR [σ 15, σ 32]›
  have a3 : fv (σ 32) = fv (σ 15) % 2 ^ 63 := a3_
  obtain ⟨g1, _, _, g4, _, g6⟩ := law_near hu hd a1 a2 a3 (y := fv (σ 30)) (v := fv (σ 33)) ‹_› ‹_›
  have := not_more g1 g4 ‹_›
  omega
theorem rndR_L4_ok : rndR_L4 := by
  intro σ; intros
  have hd_ := ‹dnR _›
  have hd : resR kDn (fv (σ 4)) (iv (σ 6)) (fv (σ 21)) := hd_
  have a1_ := ‹absR [σ 4, σ 28]›
  have a1 : fv (σ 28) = fv (σ 4) % 2 ^ 63 := a1_
  have a2_ := ‹absR [σ 21, σ 29]›
  have a2 : fv (σ 29) = fv (σ 21) % 2 ^ 63 := a2_
  obtain ⟨g1, g2, g3, g4⟩ := law_low hd a1 a2 (y := fv (σ 30)) ‹_›
  have := not_more g2 g3 ‹_›
  omega
theorem pre_of {n : Int} {x f : Nat} {a b : Int} (e : a = b) (h1 : -2147483648 ≤ b) (h2 : b ≤ 2147483647) (hf : f = FloatKind.f64.nearest a) (h : farV .quo .f64 f 4634204016564240384 = some (some x) ∨ farV .quo .f64 f 4634204016564240384 = some none ∧ Nan64 x) (_ : n = n) : ∃ m, P64 x m :=
  ⟨a, quo64 (by omega) (by omega) hf h⟩
theorem rndR_L5_ok : rndR_L5 := by
  intro σ; intros
  have n_ := ‹¬ dnRPre _›
  exact n_ (pre_of (n := 0) (a := iv (σ 2)) (b := iv (σ 0)) ‹_› ‹_› ‹_› ‹_› ‹_› rfl)
theorem rndR_L6_ok : rndR_L6 := by
  intro σ; intros
  have n_ := ‹¬ upRPre _›
  exact n_ (pre_of (n := 0) (a := iv (σ 2)) (b := iv (σ 0)) ‹_› ‹_› ‹_› ‹_› ‹_› rfl)
theorem rndR_L7_ok : rndR_L7 := by
  intro σ; intros
  have n_ := ‹¬ roRPre _›
  exact n_ (pre_of (n := 0) (a := iv (σ 2)) (b := iv (σ 0)) ‹_› ‹_› ‹_› ‹_› ‹_› rfl)
theorem law_ok : lawC.ok Tryz.prog All :=
  by_tie rndR_tie (by kernel_rfl) (all_cons live_ok (all_cons abs_ok (all_cons ro_ok (all_cons up_ok (all_cons dn_ok all_nil))))) ⟨rndR_L0_ok, rndR_L1_ok, rndR_L2_ok, rndR_L3_ok, rndR_L4_ok, rndR_L5_ok, rndR_L6_ok, rndR_L7_ok, trivial⟩
end Go.Proofs.Rnd
