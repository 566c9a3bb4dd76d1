/- What is left of a quotient, and the greatest common divisor, of floats. -/
import Derived.Test.YtgfoocnnidhepaaGreatDoorDivA
namespace Go.Proofs.Dv
open Go.Ev Go.RowKit Ieee Go.Proofs.YtgfoocnnidhepaaGreatDoor
set_option maxRecDepth 1000000
theorem flr_nr {x n : Nat} (h : x = nr n) (hn : n < 4294967296) : (flr x).toNat = n := by
  rw [h, flr_of (nr_sv (show n ≤ 2 ^ 53 by omega)).2.1]; simp
theorem abs_nr {a x y : Nat} (ha : a = x % 2 ^ 63) (h : x = nr y) (h0 : y ≠ 0) (hy : y < 4294967296) : a = nr y := by
  rw [ha, h, Nat.mod_eq_of_lt (nr_parts h0 (show y < 2 ^ 53 by omega)).1]
theorem not_neg {x n : Nat} (h : x = nr n) (hn : n < 4294967296) (k : ford x 0 = some .lt) : False := by
  rw [h] at k; exact nr_neg (show n ≤ 2 ^ 53 by omega) k
theorem ge_of {x y a b : Nat} (hx : x = nr a) (hy : y = nr b) (ha : a < 4294967296) (hb : b < 4294967296) (h : ford x y = some .gt ∨ ford x y = some .eq) : b ≤ a := by
  rw [hx, hy] at h
  rcases h with h | h
  · have := (nr_gt (show a ≤ 2 ^ 53 by omega) (show b ≤ 2 ^ 53 by omega)).1 h; omega
  · have := (nr_eq (show a ≤ 2 ^ 53 by omega) (show b ≤ 2 ^ 53 by omega)).1 h; omega
theorem lt_of {x y a b : Nat} (hx : x = nr a) (hy : y = nr b) (ha : a < 4294967296) (hb : b < 4294967296) (h : ford x y ≠ some .gt ∧ ford x y ≠ some .eq) : a < b := by
  rw [hx, hy] at h
  rcases Nat.lt_trichotomy a b with c | c | c
  · exact c
  · exact (h.2 ((nr_eq (show a ≤ 2 ^ 53 by omega) (show b ≤ 2 ^ 53 by omega)).2 c)).elim
  · exact (h.1 ((nr_gt (show a ≤ 2 ^ 53 by omega) (show b ≤ 2 ^ 53 by omega)).2 c)).elim
theorem pick {R y fr fy : Nat} {er ey : Int} (hR : R < 4294967296) (hy0 : y ≠ 0) (h : y ≤ R) (h1 : fr = frw R ∧ er = (R.log2 : Nat) + 1) (h2 : fy = frw y ∧ ey = (y.log2 : Nat) + 1) :
    (ford fr fy = some .lt → ∃ k : Nat, er - 1 - ey = (k : Nat) ∧ y * 2 ^ k ≤ R) ∧ (ford fr fy ≠ some .lt → ∃ k : Nat, er - ey = (k : Nat) ∧ y * 2 ^ k ≤ R) := by
  have hf := frw_ford (a := R) (b := y) (by omega) hy0 (by omega) (by omega)
  rw [h1.1, h2.1]
  constructor
  · intro c
    obtain ⟨g1, g2⟩ := pick_lt hy0 h (hf.1 c) (by omega)
    exact ⟨R.log2 - 1 - y.log2, by omega, g2⟩
  · intro c
    obtain ⟨g1, g2⟩ := pick_le hy0 h (fun e => c (hf.2 e)) (by omega)
    exact ⟨R.log2 - y.log2, by omega, g2⟩
theorem take {R y k x : Nat} (h : y * 2 ^ k ≤ R) (hy0 : y ≠ 0) (e : R % y = x % y) : (R - y * 2 ^ k) % y = x % y ∧ R - y * 2 ^ k < R := by
  have hp : 0 < y * 2 ^ k := Nat.mul_pos (by omega) (Nat.two_pow_pos k)
  exact ⟨by rw [Nat.sub_mul_mod h]; exact e, by omega⟩
def modR_L0 : Prop := ∀ σ : Nat → Value,
 tF (σ 0) →
 tF (σ 1) →
 modRPre [σ 0, σ 1] →
 ford (fv (σ 1)) (0) = some .eq →
    modR [σ 0, σ 1, (vG 9221120237041090561)]
def modR_L1 : Prop := ∀ σ : Nat → Value,
 tF (σ 0) →
 tF (σ 1) →
 modRPre [σ 0, σ 1] →
 infR [σ 0, vZ, σ 3] →
 bv (σ 3) = true →
 ford (fv (σ 1)) (0) ≠ some .eq →
    modR [σ 0, σ 1, (vG 9221120237041090561)]
def modR_L2 : Prop := ∀ σ : Nat → Value,
 tF (σ 0) →
 tF (σ 1) →
 modRPre [σ 0, σ 1] →
 infR [σ 0, vZ, σ 3] →
 nanR [σ 0, σ 4] →
 bv (σ 4) = true →
 bv (σ 3) = false →
 ford (fv (σ 1)) (0) ≠ some .eq →
    modR [σ 0, σ 1, (vG 9221120237041090561)]
def modR_L3 : Prop := ∀ σ : Nat → Value,
 tF (σ 0) →
 tF (σ 1) →
 modRPre [σ 0, σ 1] →
 infR [σ 0, vZ, σ 3] →
 nanR [σ 0, σ 4] →
 nanR [σ 1, σ 5] →
 bv (σ 5) = true →
 bv (σ 4) = false →
 bv (σ 3) = false →
 ford (fv (σ 1)) (0) ≠ some .eq →
    modR [σ 0, σ 1, (vG 9221120237041090561)]
def modR_L4 : Prop := ∀ σ : Nat → Value,
 tF (σ 0) →
 tF (σ 1) →
 tF (σ 6) →
 tF (σ 7) →
 tI (σ 8) →
 1 ≤ iv (σ 8) →
 iv (σ 8) ≤ 53 →
 tF (σ 10) →
 modRPre [σ 0, σ 1] →
 infR [σ 0, vZ, σ 3] →
 nanR [σ 0, σ 4] →
 nanR [σ 1, σ 5] →
 absR [σ 1, σ 6] →
 frR [σ 6, σ 7, σ 8] →
 unV .neg (σ 0) = some (σ 10) →
    ((fitsL [.any, .any, .float .f64, .any, .any, .any, .any, .any, .any, .any, .any, .any, .any, .any, .any, .any, .any, .any, .any, .any, .any, .any, .any, .any, .any] [σ 0, σ 6, σ 10, vU, vU, vU, vU, vU, vU, vU, vU, vU, vU, vU, vU, vU, vU, vU, vU, vU, vU, vU, vU, vU, vU] → ¬ modI [σ 0, σ 6, σ 10, vU, vU, vU, vU, vU, vU, vU, vU, vU, vU, vU, vU, vU, vU, vU, vU, vU, vU, vU, vU, vU, vU])) →
 ford (fv (σ 0)) (0) = some .lt →
 bv (σ 5) = false →
 bv (σ 4) = false →
 bv (σ 3) = false →
 ford (fv (σ 1)) (0) ≠ some .eq →
    False
def modR_L5 : Prop := ∀ σ : Nat → Value,
 tF (σ 0) →
 tF (σ 1) →
 tF (σ 6) →
 tF (σ 7) →
 tI (σ 8) →
 1 ≤ iv (σ 8) →
 iv (σ 8) ≤ 53 →
 tF (σ 10) →
 tF (σ 11) →
 tF (σ 35) →
 tI (σ 36) →
 1 ≤ iv (σ 36) →
 iv (σ 36) ≤ 53 →
 tI (σ 38) →
 0 ≤ iv (σ 38) →
 iv (σ 38) ≤ 52 →
 tI (σ 39) →
 (-53) ≤ iv (σ 39) →
 iv (σ 39) ≤ 51 →
 tF (σ 40) →
 tF (σ 41) →
 modRPre [σ 0, σ 1] →
 infR [σ 0, vZ, σ 3] →
 nanR [σ 0, σ 4] →
 nanR [σ 1, σ 5] →
 absR [σ 1, σ 6] →
 frR [σ 6, σ 7, σ 8] →
 unV .neg (σ 0) = some (σ 10) →
 modI [σ 0, σ 6, σ 11, σ 12, σ 13, σ 14, σ 15, σ 16, σ 17, σ 18, σ 19, σ 20, σ 21, σ 22, σ 23, σ 24, σ 25, σ 26, σ 27, σ 28, σ 29, σ 30, σ 31, σ 32, σ 33] →
 frR [σ 11, σ 35, σ 36] →
 iv (σ 38) = iv (σ 36) - 1 →
 iv (σ 39) = iv (σ 38) - iv (σ 8) →
 ldR [σ 6, σ 39, σ 40] →
 (farV .sub .f64 (fv (σ 11)) (fv (σ 40)) = some (some (fv (σ 41))) ∨ (farV .sub .f64 (fv (σ 11)) (fv (σ 40)) = some none ∧ Nan64 (fv (σ 41)))) →
    ((fitsL [.any, .any, .float .f64, .any, .any, .any, .any, .any, .any, .any, .any, .any, .any, .any, .any, .any, .any, .any, .any, .any, .any, .any, .any, .any, .any] [σ 0, σ 6, σ 41, σ 35, σ 38, σ 11, σ 6, σ 34, (Value.tuple #[σ 35, σ 36]), σ 11, (Value.tuple #[σ 35, σ 36]), σ 35, σ 36, σ 35, σ 7, σ 37, σ 36, σ 38, σ 11, σ 6, σ 38, σ 8, σ 39, σ 40, σ 41] → modI [σ 0, σ 6, σ 41, σ 35, σ 38, σ 11, σ 6, σ 34, (Value.tuple #[σ 35, σ 36]), σ 11, (Value.tuple #[σ 35, σ 36]), σ 35, σ 36, σ 35, σ 7, σ 37, σ 36, σ 38, σ 11, σ 6, σ 38, σ 8, σ 39, σ 40, σ 41] → ¬ modIM [σ 0, σ 6, σ 41, σ 35, σ 38, σ 11, σ 6, σ 34, (Value.tuple #[σ 35, σ 36]), σ 11, (Value.tuple #[σ 35, σ 36]), σ 35, σ 36, σ 35, σ 7, σ 37, σ 36, σ 38, σ 11, σ 6, σ 38, σ 8, σ 39, σ 40, σ 41] < modIM [σ 0, σ 6, σ 11, σ 12, σ 13, σ 14, σ 15, σ 16, σ 17, σ 18, σ 19, σ 20, σ 21, σ 22, σ 23, σ 24, σ 25, σ 26, σ 27, σ 28, σ 29, σ 30, σ 31, σ 32, σ 33])) →
 ford (fv (σ 35)) (fv (σ 7)) = some .lt →
 ford (fv (σ 11)) (fv (σ 6)) = some .gt ∨ ford (fv (σ 11)) (fv (σ 6)) = some .eq →
 ford (fv (σ 0)) (0) = some .lt →
 bv (σ 5) = false →
 bv (σ 4) = false →
 bv (σ 3) = false →
 ford (fv (σ 1)) (0) ≠ some .eq →
    False
def modR_L6 : Prop := ∀ σ : Nat → Value,
 tF (σ 0) →
 tF (σ 1) →
 tF (σ 6) →
 tF (σ 7) →
 tI (σ 8) →
 1 ≤ iv (σ 8) →
 iv (σ 8) ≤ 53 →
 tF (σ 10) →
 tF (σ 11) →
 tF (σ 35) →
 tI (σ 36) →
 1 ≤ iv (σ 36) →
 iv (σ 36) ≤ 53 →
 tI (σ 38) →
 0 ≤ iv (σ 38) →
 iv (σ 38) ≤ 52 →
 tI (σ 39) →
 (-53) ≤ iv (σ 39) →
 iv (σ 39) ≤ 51 →
 modRPre [σ 0, σ 1] →
 infR [σ 0, vZ, σ 3] →
 nanR [σ 0, σ 4] →
 nanR [σ 1, σ 5] →
 absR [σ 1, σ 6] →
 frR [σ 6, σ 7, σ 8] →
 unV .neg (σ 0) = some (σ 10) →
 modI [σ 0, σ 6, σ 11, σ 12, σ 13, σ 14, σ 15, σ 16, σ 17, σ 18, σ 19, σ 20, σ 21, σ 22, σ 23, σ 24, σ 25, σ 26, σ 27, σ 28, σ 29, σ 30, σ 31, σ 32, σ 33] →
 frR [σ 11, σ 35, σ 36] →
 iv (σ 38) = iv (σ 36) - 1 →
 iv (σ 39) = iv (σ 38) - iv (σ 8) →
 ¬ ldRPre [σ 6, σ 39] →
 ford (fv (σ 35)) (fv (σ 7)) = some .lt →
 ford (fv (σ 11)) (fv (σ 6)) = some .gt ∨ ford (fv (σ 11)) (fv (σ 6)) = some .eq →
 ford (fv (σ 0)) (0) = some .lt →
 bv (σ 5) = false →
 bv (σ 4) = false →
 bv (σ 3) = false →
 ford (fv (σ 1)) (0) ≠ some .eq →
    False
def modR_L7 : Prop := ∀ σ : Nat → Value,
 tF (σ 0) →
 tF (σ 1) →
 tF (σ 6) →
 tF (σ 7) →
 tI (σ 8) →
 1 ≤ iv (σ 8) →
 iv (σ 8) ≤ 53 →
 tF (σ 10) →
 tF (σ 11) →
 tF (σ 35) →
 tI (σ 36) →
 1 ≤ iv (σ 36) →
 iv (σ 36) ≤ 53 →
 tI (σ 38) →
 (-52) ≤ iv (σ 38) →
 iv (σ 38) ≤ 52 →
 tF (σ 39) →
 tF (σ 40) →
 modRPre [σ 0, σ 1] →
 infR [σ 0, vZ, σ 3] →
 nanR [σ 0, σ 4] →
 nanR [σ 1, σ 5] →
 absR [σ 1, σ 6] →
 frR [σ 6, σ 7, σ 8] →
 unV .neg (σ 0) = some (σ 10) →
 modI [σ 0, σ 6, σ 11, σ 12, σ 13, σ 14, σ 15, σ 16, σ 17, σ 18, σ 19, σ 20, σ 21, σ 22, σ 23, σ 24, σ 25, σ 26, σ 27, σ 28, σ 29, σ 30, σ 31, σ 32, σ 33] →
 frR [σ 11, σ 35, σ 36] →
 iv (σ 38) = iv (σ 36) - iv (σ 8) →
 ldR [σ 6, σ 38, σ 39] →
 (farV .sub .f64 (fv (σ 11)) (fv (σ 39)) = some (some (fv (σ 40))) ∨ (farV .sub .f64 (fv (σ 11)) (fv (σ 39)) = some none ∧ Nan64 (fv (σ 40)))) →
    ((fitsL [.any, .any, .float .f64, .any, .any, .any, .any, .any, .any, .any, .any, .any, .any, .any, .any, .any, .any, .any, .any, .any, .any, .any, .any, .any, .any] [σ 0, σ 6, σ 40, σ 35, σ 36, σ 11, σ 6, σ 34, (Value.tuple #[σ 35, σ 36]), σ 11, (Value.tuple #[σ 35, σ 36]), σ 35, σ 36, σ 35, σ 7, σ 37, σ 25, σ 26, σ 11, σ 6, σ 36, σ 8, σ 38, σ 39, σ 40] → modI [σ 0, σ 6, σ 40, σ 35, σ 36, σ 11, σ 6, σ 34, (Value.tuple #[σ 35, σ 36]), σ 11, (Value.tuple #[σ 35, σ 36]), σ 35, σ 36, σ 35, σ 7, σ 37, σ 25, σ 26, σ 11, σ 6, σ 36, σ 8, σ 38, σ 39, σ 40] → ¬ modIM [σ 0, σ 6, σ 40, σ 35, σ 36, σ 11, σ 6, σ 34, (Value.tuple #[σ 35, σ 36]), σ 11, (Value.tuple #[σ 35, σ 36]), σ 35, σ 36, σ 35, σ 7, σ 37, σ 25, σ 26, σ 11, σ 6, σ 36, σ 8, σ 38, σ 39, σ 40] < modIM [σ 0, σ 6, σ 11, σ 12, σ 13, σ 14, σ 15, σ 16, σ 17, σ 18, σ 19, σ 20, σ 21, σ 22, σ 23, σ 24, σ 25, σ 26, σ 27, σ 28, σ 29, σ 30, σ 31, σ 32, σ 33])) →
 ford (fv (σ 35)) (fv (σ 7)) ≠ some .lt →
 ford (fv (σ 11)) (fv (σ 6)) = some .gt ∨ ford (fv (σ 11)) (fv (σ 6)) = some .eq →
 ford (fv (σ 0)) (0) = some .lt →
 bv (σ 5) = false →
 bv (σ 4) = false →
 bv (σ 3) = false →
 ford (fv (σ 1)) (0) ≠ some .eq →
    False
def modR_L8 : Prop := ∀ σ : Nat → Value,
 tF (σ 0) →
 tF (σ 1) →
 tF (σ 6) →
 tF (σ 7) →
 tI (σ 8) →
 1 ≤ iv (σ 8) →
 iv (σ 8) ≤ 53 →
 tF (σ 10) →
 tF (σ 11) →
 tF (σ 35) →
 tI (σ 36) →
 1 ≤ iv (σ 36) →
 iv (σ 36) ≤ 53 →
 tI (σ 38) →
 (-52) ≤ iv (σ 38) →
 iv (σ 38) ≤ 52 →
 modRPre [σ 0, σ 1] →
 infR [σ 0, vZ, σ 3] →
 nanR [σ 0, σ 4] →
 nanR [σ 1, σ 5] →
 absR [σ 1, σ 6] →
 frR [σ 6, σ 7, σ 8] →
 unV .neg (σ 0) = some (σ 10) →
 modI [σ 0, σ 6, σ 11, σ 12, σ 13, σ 14, σ 15, σ 16, σ 17, σ 18, σ 19, σ 20, σ 21, σ 22, σ 23, σ 24, σ 25, σ 26, σ 27, σ 28, σ 29, σ 30, σ 31, σ 32, σ 33] →
 frR [σ 11, σ 35, σ 36] →
 iv (σ 38) = iv (σ 36) - iv (σ 8) →
 ¬ ldRPre [σ 6, σ 38] →
 ford (fv (σ 35)) (fv (σ 7)) ≠ some .lt →
 ford (fv (σ 11)) (fv (σ 6)) = some .gt ∨ ford (fv (σ 11)) (fv (σ 6)) = some .eq →
 ford (fv (σ 0)) (0) = some .lt →
 bv (σ 5) = false →
 bv (σ 4) = false →
 bv (σ 3) = false →
 ford (fv (σ 1)) (0) ≠ some .eq →
    False
def modR_L9 : Prop := ∀ σ : Nat → Value,
 tF (σ 0) →
 tF (σ 1) →
 tF (σ 6) →
 tF (σ 7) →
 tI (σ 8) →
 1 ≤ iv (σ 8) →
 iv (σ 8) ≤ 53 →
 tF (σ 10) →
 tF (σ 11) →
 modRPre [σ 0, σ 1] →
 infR [σ 0, vZ, σ 3] →
 nanR [σ 0, σ 4] →
 nanR [σ 1, σ 5] →
 absR [σ 1, σ 6] →
 frR [σ 6, σ 7, σ 8] →
 unV .neg (σ 0) = some (σ 10) →
 modI [σ 0, σ 6, σ 11, σ 12, σ 13, σ 14, σ 15, σ 16, σ 17, σ 18, σ 19, σ 20, σ 21, σ 22, σ 23, σ 24, σ 25, σ 26, σ 27, σ 28, σ 29, σ 30, σ 31, σ 32, σ 33] →
 ¬ frRPre [σ 11] →
 ford (fv (σ 11)) (fv (σ 6)) = some .gt ∨ ford (fv (σ 11)) (fv (σ 6)) = some .eq →
 ford (fv (σ 0)) (0) = some .lt →
 bv (σ 5) = false →
 bv (σ 4) = false →
 bv (σ 3) = false →
 ford (fv (σ 1)) (0) ≠ some .eq →
    False
def modR_L10 : Prop := ∀ σ : Nat → Value,
 tF (σ 0) →
 tF (σ 1) →
 tF (σ 6) →
 tF (σ 7) →
 tI (σ 8) →
 1 ≤ iv (σ 8) →
 iv (σ 8) ≤ 53 →
 tF (σ 10) →
 tF (σ 11) →
 tF (σ 35) →
 modRPre [σ 0, σ 1] →
 infR [σ 0, vZ, σ 3] →
 nanR [σ 0, σ 4] →
 nanR [σ 1, σ 5] →
 absR [σ 1, σ 6] →
 frR [σ 6, σ 7, σ 8] →
 unV .neg (σ 0) = some (σ 10) →
 modI [σ 0, σ 6, σ 11, σ 12, σ 13, σ 14, σ 15, σ 16, σ 17, σ 18, σ 19, σ 20, σ 21, σ 22, σ 23, σ 24, σ 25, σ 26, σ 27, σ 28, σ 29, σ 30, σ 31, σ 32, σ 33] →
 unV .neg (σ 11) = some (σ 35) →
 ford (fv (σ 11)) (fv (σ 6)) ≠ some .gt ∧ ford (fv (σ 11)) (fv (σ 6)) ≠ some .eq →
 ford (fv (σ 0)) (0) = some .lt →
 bv (σ 5) = false →
 bv (σ 4) = false →
 bv (σ 3) = false →
 ford (fv (σ 1)) (0) ≠ some .eq →
    modR [σ 0, σ 1, σ 35]
def modR_L11 : Prop := ∀ σ : Nat → Value,
 tF (σ 0) →
 tF (σ 1) →
 tF (σ 6) →
 tF (σ 7) →
 tI (σ 8) →
 1 ≤ iv (σ 8) →
 iv (σ 8) ≤ 53 →
 modRPre [σ 0, σ 1] →
 infR [σ 0, vZ, σ 3] →
 nanR [σ 0, σ 4] →
 nanR [σ 1, σ 5] →
 absR [σ 1, σ 6] →
 frR [σ 6, σ 7, σ 8] →
    ((fitsL [.any, .any, .float .f64, .any, .any, .any, .any, .any, .any, .any, .any, .any, .any, .any, .any, .any, .any, .any, .any, .any, .any, .any, .any, .any, .any] [σ 0, σ 6, σ 0, vU, vU, vU, vU, vU, vU, vU, vU, vU, vU, vU, vU, vU, vU, vU, vU, vU, vU, vU, vU, vU, vU] → ¬ modI [σ 0, σ 6, σ 0, vU, vU, vU, vU, vU, vU, vU, vU, vU, vU, vU, vU, vU, vU, vU, vU, vU, vU, vU, vU, vU, vU])) →
 ford (fv (σ 0)) (0) ≠ some .lt →
 bv (σ 5) = false →
 bv (σ 4) = false →
 bv (σ 3) = false →
 ford (fv (σ 1)) (0) ≠ some .eq →
    False
def modR_L12 : Prop := ∀ σ : Nat → Value,
 tF (σ 0) →
 tF (σ 1) →
 tF (σ 6) →
 tF (σ 7) →
 tI (σ 8) →
 1 ≤ iv (σ 8) →
 iv (σ 8) ≤ 53 →
 tF (σ 10) →
 tF (σ 34) →
 tI (σ 35) →
 1 ≤ iv (σ 35) →
 iv (σ 35) ≤ 53 →
 tI (σ 37) →
 0 ≤ iv (σ 37) →
 iv (σ 37) ≤ 52 →
 tI (σ 38) →
 (-53) ≤ iv (σ 38) →
 iv (σ 38) ≤ 51 →
 tF (σ 39) →
 tF (σ 40) →
 modRPre [σ 0, σ 1] →
 infR [σ 0, vZ, σ 3] →
 nanR [σ 0, σ 4] →
 nanR [σ 1, σ 5] →
 absR [σ 1, σ 6] →
 frR [σ 6, σ 7, σ 8] →
 modI [σ 0, σ 6, σ 10, σ 11, σ 12, σ 13, σ 14, σ 15, σ 16, σ 17, σ 18, σ 19, σ 20, σ 21, σ 22, σ 23, σ 24, σ 25, σ 26, σ 27, σ 28, σ 29, σ 30, σ 31, σ 32] →
 frR [σ 10, σ 34, σ 35] →
 iv (σ 37) = iv (σ 35) - 1 →
 iv (σ 38) = iv (σ 37) - iv (σ 8) →
 ldR [σ 6, σ 38, σ 39] →
 (farV .sub .f64 (fv (σ 10)) (fv (σ 39)) = some (some (fv (σ 40))) ∨ (farV .sub .f64 (fv (σ 10)) (fv (σ 39)) = some none ∧ Nan64 (fv (σ 40)))) →
    ((fitsL [.any, .any, .float .f64, .any, .any, .any, .any, .any, .any, .any, .any, .any, .any, .any, .any, .any, .any, .any, .any, .any, .any, .any, .any, .any, .any] [σ 0, σ 6, σ 40, σ 34, σ 37, σ 10, σ 6, σ 33, (Value.tuple #[σ 34, σ 35]), σ 10, (Value.tuple #[σ 34, σ 35]), σ 34, σ 35, σ 34, σ 7, σ 36, σ 35, σ 37, σ 10, σ 6, σ 37, σ 8, σ 38, σ 39, σ 40] → modI [σ 0, σ 6, σ 40, σ 34, σ 37, σ 10, σ 6, σ 33, (Value.tuple #[σ 34, σ 35]), σ 10, (Value.tuple #[σ 34, σ 35]), σ 34, σ 35, σ 34, σ 7, σ 36, σ 35, σ 37, σ 10, σ 6, σ 37, σ 8, σ 38, σ 39, σ 40] → ¬ modIM [σ 0, σ 6, σ 40, σ 34, σ 37, σ 10, σ 6, σ 33, (Value.tuple #[σ 34, σ 35]), σ 10, (Value.tuple #[σ 34, σ 35]), σ 34, σ 35, σ 34, σ 7, σ 36, σ 35, σ 37, σ 10, σ 6, σ 37, σ 8, σ 38, σ 39, σ 40] < modIM [σ 0, σ 6, σ 10, σ 11, σ 12, σ 13, σ 14, σ 15, σ 16, σ 17, σ 18, σ 19, σ 20, σ 21, σ 22, σ 23, σ 24, σ 25, σ 26, σ 27, σ 28, σ 29, σ 30, σ 31, σ 32])) →
 ford (fv (σ 34)) (fv (σ 7)) = some .lt →
 ford (fv (σ 10)) (fv (σ 6)) = some .gt ∨ ford (fv (σ 10)) (fv (σ 6)) = some .eq →
 ford (fv (σ 0)) (0) ≠ some .lt →
 bv (σ 5) = false →
 bv (σ 4) = false →
 bv (σ 3) = false →
 ford (fv (σ 1)) (0) ≠ some .eq →
    False
def modR_L13 : Prop := ∀ σ : Nat → Value,
 tF (σ 0) →
 tF (σ 1) →
 tF (σ 6) →
 tF (σ 7) →
 tI (σ 8) →
 1 ≤ iv (σ 8) →
 iv (σ 8) ≤ 53 →
 tF (σ 10) →
 tF (σ 34) →
 tI (σ 35) →
 1 ≤ iv (σ 35) →
 iv (σ 35) ≤ 53 →
 tI (σ 37) →
 0 ≤ iv (σ 37) →
 iv (σ 37) ≤ 52 →
 tI (σ 38) →
 (-53) ≤ iv (σ 38) →
 iv (σ 38) ≤ 51 →
 modRPre [σ 0, σ 1] →
 infR [σ 0, vZ, σ 3] →
 nanR [σ 0, σ 4] →
 nanR [σ 1, σ 5] →
 absR [σ 1, σ 6] →
 frR [σ 6, σ 7, σ 8] →
 modI [σ 0, σ 6, σ 10, σ 11, σ 12, σ 13, σ 14, σ 15, σ 16, σ 17, σ 18, σ 19, σ 20, σ 21, σ 22, σ 23, σ 24, σ 25, σ 26, σ 27, σ 28, σ 29, σ 30, σ 31, σ 32] →
 frR [σ 10, σ 34, σ 35] →
 iv (σ 37) = iv (σ 35) - 1 →
 iv (σ 38) = iv (σ 37) - iv (σ 8) →
 ¬ ldRPre [σ 6, σ 38] →
 ford (fv (σ 34)) (fv (σ 7)) = some .lt →
 ford (fv (σ 10)) (fv (σ 6)) = some .gt ∨ ford (fv (σ 10)) (fv (σ 6)) = some .eq →
 ford (fv (σ 0)) (0) ≠ some .lt →
 bv (σ 5) = false →
 bv (σ 4) = false →
 bv (σ 3) = false →
 ford (fv (σ 1)) (0) ≠ some .eq →
    False
def modR_L14 : Prop := ∀ σ : Nat → Value,
 tF (σ 0) →
 tF (σ 1) →
 tF (σ 6) →
 tF (σ 7) →
 tI (σ 8) →
 1 ≤ iv (σ 8) →
 iv (σ 8) ≤ 53 →
 tF (σ 10) →
 tF (σ 34) →
 tI (σ 35) →
 1 ≤ iv (σ 35) →
 iv (σ 35) ≤ 53 →
 tI (σ 37) →
 (-52) ≤ iv (σ 37) →
 iv (σ 37) ≤ 52 →
 tF (σ 38) →
 tF (σ 39) →
 modRPre [σ 0, σ 1] →
 infR [σ 0, vZ, σ 3] →
 nanR [σ 0, σ 4] →
 nanR [σ 1, σ 5] →
 absR [σ 1, σ 6] →
 frR [σ 6, σ 7, σ 8] →
 modI [σ 0, σ 6, σ 10, σ 11, σ 12, σ 13, σ 14, σ 15, σ 16, σ 17, σ 18, σ 19, σ 20, σ 21, σ 22, σ 23, σ 24, σ 25, σ 26, σ 27, σ 28, σ 29, σ 30, σ 31, σ 32] →
 frR [σ 10, σ 34, σ 35] →
 iv (σ 37) = iv (σ 35) - iv (σ 8) →
 ldR [σ 6, σ 37, σ 38] →
 (farV .sub .f64 (fv (σ 10)) (fv (σ 38)) = some (some (fv (σ 39))) ∨ (farV .sub .f64 (fv (σ 10)) (fv (σ 38)) = some none ∧ Nan64 (fv (σ 39)))) →
    ((fitsL [.any, .any, .float .f64, .any, .any, .any, .any, .any, .any, .any, .any, .any, .any, .any, .any, .any, .any, .any, .any, .any, .any, .any, .any, .any, .any] [σ 0, σ 6, σ 39, σ 34, σ 35, σ 10, σ 6, σ 33, (Value.tuple #[σ 34, σ 35]), σ 10, (Value.tuple #[σ 34, σ 35]), σ 34, σ 35, σ 34, σ 7, σ 36, σ 24, σ 25, σ 10, σ 6, σ 35, σ 8, σ 37, σ 38, σ 39] → modI [σ 0, σ 6, σ 39, σ 34, σ 35, σ 10, σ 6, σ 33, (Value.tuple #[σ 34, σ 35]), σ 10, (Value.tuple #[σ 34, σ 35]), σ 34, σ 35, σ 34, σ 7, σ 36, σ 24, σ 25, σ 10, σ 6, σ 35, σ 8, σ 37, σ 38, σ 39] → ¬ modIM [σ 0, σ 6, σ 39, σ 34, σ 35, σ 10, σ 6, σ 33, (Value.tuple #[σ 34, σ 35]), σ 10, (Value.tuple #[σ 34, σ 35]), σ 34, σ 35, σ 34, σ 7, σ 36, σ 24, σ 25, σ 10, σ 6, σ 35, σ 8, σ 37, σ 38, σ 39] < modIM [σ 0, σ 6, σ 10, σ 11, σ 12, σ 13, σ 14, σ 15, σ 16, σ 17, σ 18, σ 19, σ 20, σ 21, σ 22, σ 23, σ 24, σ 25, σ 26, σ 27, σ 28, σ 29, σ 30, σ 31, σ 32])) →
 ford (fv (σ 34)) (fv (σ 7)) ≠ some .lt →
 ford (fv (σ 10)) (fv (σ 6)) = some .gt ∨ ford (fv (σ 10)) (fv (σ 6)) = some .eq →
 ford (fv (σ 0)) (0) ≠ some .lt →
 bv (σ 5) = false →
 bv (σ 4) = false →
 bv (σ 3) = false →
 ford (fv (σ 1)) (0) ≠ some .eq →
    False
def modR_L15 : Prop := ∀ σ : Nat → Value,
 tF (σ 0) →
 tF (σ 1) →
 tF (σ 6) →
 tF (σ 7) →
 tI (σ 8) →
 1 ≤ iv (σ 8) →
 iv (σ 8) ≤ 53 →
 tF (σ 10) →
 tF (σ 34) →
 tI (σ 35) →
 1 ≤ iv (σ 35) →
 iv (σ 35) ≤ 53 →
 tI (σ 37) →
 (-52) ≤ iv (σ 37) →
 iv (σ 37) ≤ 52 →
 modRPre [σ 0, σ 1] →
 infR [σ 0, vZ, σ 3] →
 nanR [σ 0, σ 4] →
 nanR [σ 1, σ 5] →
 absR [σ 1, σ 6] →
 frR [σ 6, σ 7, σ 8] →
 modI [σ 0, σ 6, σ 10, σ 11, σ 12, σ 13, σ 14, σ 15, σ 16, σ 17, σ 18, σ 19, σ 20, σ 21, σ 22, σ 23, σ 24, σ 25, σ 26, σ 27, σ 28, σ 29, σ 30, σ 31, σ 32] →
 frR [σ 10, σ 34, σ 35] →
 iv (σ 37) = iv (σ 35) - iv (σ 8) →
 ¬ ldRPre [σ 6, σ 37] →
 ford (fv (σ 34)) (fv (σ 7)) ≠ some .lt →
 ford (fv (σ 10)) (fv (σ 6)) = some .gt ∨ ford (fv (σ 10)) (fv (σ 6)) = some .eq →
 ford (fv (σ 0)) (0) ≠ some .lt →
 bv (σ 5) = false →
 bv (σ 4) = false →
 bv (σ 3) = false →
 ford (fv (σ 1)) (0) ≠ some .eq →
    False
def modR_L16 : Prop := ∀ σ : Nat → Value,
 tF (σ 0) →
 tF (σ 1) →
 tF (σ 6) →
 tF (σ 7) →
 tI (σ 8) →
 1 ≤ iv (σ 8) →
 iv (σ 8) ≤ 53 →
 tF (σ 10) →
 modRPre [σ 0, σ 1] →
 infR [σ 0, vZ, σ 3] →
 nanR [σ 0, σ 4] →
 nanR [σ 1, σ 5] →
 absR [σ 1, σ 6] →
 frR [σ 6, σ 7, σ 8] →
 modI [σ 0, σ 6, σ 10, σ 11, σ 12, σ 13, σ 14, σ 15, σ 16, σ 17, σ 18, σ 19, σ 20, σ 21, σ 22, σ 23, σ 24, σ 25, σ 26, σ 27, σ 28, σ 29, σ 30, σ 31, σ 32] →
 ¬ frRPre [σ 10] →
 ford (fv (σ 10)) (fv (σ 6)) = some .gt ∨ ford (fv (σ 10)) (fv (σ 6)) = some .eq →
 ford (fv (σ 0)) (0) ≠ some .lt →
 bv (σ 5) = false →
 bv (σ 4) = false →
 bv (σ 3) = false →
 ford (fv (σ 1)) (0) ≠ some .eq →
    False
def modR_L17 : Prop := ∀ σ : Nat → Value,
 tF (σ 0) →
 tF (σ 1) →
 tF (σ 6) →
 tF (σ 7) →
 tI (σ 8) →
 1 ≤ iv (σ 8) →
 iv (σ 8) ≤ 53 →
 tF (σ 10) →
 modRPre [σ 0, σ 1] →
 infR [σ 0, vZ, σ 3] →
 nanR [σ 0, σ 4] →
 nanR [σ 1, σ 5] →
 absR [σ 1, σ 6] →
 frR [σ 6, σ 7, σ 8] →
 modI [σ 0, σ 6, σ 10, σ 11, σ 12, σ 13, σ 14, σ 15, σ 16, σ 17, σ 18, σ 19, σ 20, σ 21, σ 22, σ 23, σ 24, σ 25, σ 26, σ 27, σ 28, σ 29, σ 30, σ 31, σ 32] →
 ford (fv (σ 10)) (fv (σ 6)) ≠ some .gt ∧ ford (fv (σ 10)) (fv (σ 6)) ≠ some .eq →
 ford (fv (σ 0)) (0) ≠ some .lt →
 bv (σ 5) = false →
 bv (σ 4) = false →
 bv (σ 3) = false →
 ford (fv (σ 1)) (0) ≠ some .eq →
    modR [σ 0, σ 1, σ 10]
def modR_L18 : Prop := ∀ σ : Nat → Value,
 tF (σ 0) →
 tF (σ 1) →
 tF (σ 6) →
 modRPre [σ 0, σ 1] →
 infR [σ 0, vZ, σ 3] →
 nanR [σ 0, σ 4] →
 nanR [σ 1, σ 5] →
 absR [σ 1, σ 6] →
 ¬ frRPre [σ 6] →
 bv (σ 5) = false →
 bv (σ 4) = false →
 bv (σ 3) = false →
 ford (fv (σ 1)) (0) ≠ some .eq →
    False
theorem modR_tie : modC.goals (cfgB modC.base [absC, infC, nanC, frexpC, ldexpC]) [(114, 8, modI_)] 2000 = (modR_L0 ∧ modR_L1 ∧ modR_L2 ∧ modR_L3 ∧ modR_L4 ∧ modR_L5 ∧ modR_L6 ∧ modR_L7 ∧ modR_L8 ∧ modR_L9 ∧ modR_L10 ∧ modR_L11 ∧ modR_L12 ∧ modR_L13 ∧ modR_L14 ∧ modR_L15 ∧ modR_L16 ∧ modR_L17 ∧ modR_L18 ∧ True) := by kernel_rfl
theorem modR_L0_ok : modR_L0 := by
  intro σ; intros
  obtain ⟨x, y, hx, hy0, hy, ex, ey⟩ : ∃ x y : Nat, x < 4294967296 ∧ y ≠ 0 ∧ y < 4294967296 ∧ fv (σ 0) = nr x ∧ fv (σ 1) = nr y := (by have h := ‹modRPre _›; exact h)
  exfalso
  exact nr_ne ey hy hy0 ‹ford (fv (σ 1)) 0 = some .eq›
theorem modR_L1_ok : modR_L1 := by
  intro σ; intros
  obtain ⟨x, y, hx, hy0, hy, ex, ey⟩ : ∃ x y : Nat, x < 4294967296 ∧ y ≠ 0 ∧ y < 4294967296 ∧ fv (σ 0) = nr x ∧ fv (σ 1) = nr y := (by have h := ‹modRPre _›; exact h)
  exfalso
  have i0_ := ‹infR [σ 0, vZ, σ 3]›
  have i0 : Fin64 (fv (σ 0)) → bv (σ 3) = false := i0_
  have i1 := ‹bv (σ 3) = true›
  rw [i0 (nr_fin ex hx)] at i1
  cases i1
theorem modR_L2_ok : modR_L2 := by
  intro σ; intros
  obtain ⟨x, y, hx, hy0, hy, ex, ey⟩ : ∃ x y : Nat, x < 4294967296 ∧ y ≠ 0 ∧ y < 4294967296 ∧ fv (σ 0) = nr x ∧ fv (σ 1) = nr y := (by have h := ‹modRPre _›; exact h)
  exfalso
  have i0_ := ‹nanR [σ 0, σ 4]›
  have i0 : Fin64 (fv (σ 0)) → bv (σ 4) = false := i0_
  have i1 := ‹bv (σ 4) = true›
  rw [i0 (nr_fin ex hx)] at i1
  cases i1
theorem modR_L3_ok : modR_L3 := by
  intro σ; intros
  obtain ⟨x, y, hx, hy0, hy, ex, ey⟩ : ∃ x y : Nat, x < 4294967296 ∧ y ≠ 0 ∧ y < 4294967296 ∧ fv (σ 0) = nr x ∧ fv (σ 1) = nr y := (by have h := ‹modRPre _›; exact h)
  exfalso
  have i0_ := ‹nanR [σ 1, σ 5]›
  have i0 : Fin64 (fv (σ 1)) → bv (σ 5) = false := i0_
  have i1 := ‹bv (σ 5) = true›
  rw [i0 (nr_fin ey hy)] at i1
  cases i1
theorem modR_L4_ok : modR_L4 := by
  intro σ; intros
  obtain ⟨x, y, hx, hy0, hy, ex, ey⟩ : ∃ x y : Nat, x < 4294967296 ∧ y ≠ 0 ∧ y < 4294967296 ∧ fv (σ 0) = nr x ∧ fv (σ 1) = nr y := (by have h := ‹modRPre _›; exact h)
  exact not_neg ex hx ‹ford (fv (σ 0)) 0 = some .lt›
theorem modR_L5_ok : modR_L5 := by
  intro σ; intros
  obtain ⟨x, y, hx, hy0, hy, ex, ey⟩ : ∃ x y : Nat, x < 4294967296 ∧ y ≠ 0 ∧ y < 4294967296 ∧ fv (σ 0) = nr x ∧ fv (σ 1) = nr y := (by have h := ‹modRPre _›; exact h)
  exact not_neg ex hx ‹ford (fv (σ 0)) 0 = some .lt›
theorem modR_L6_ok : modR_L6 := by
  intro σ; intros
  obtain ⟨x, y, hx, hy0, hy, ex, ey⟩ : ∃ x y : Nat, x < 4294967296 ∧ y ≠ 0 ∧ y < 4294967296 ∧ fv (σ 0) = nr x ∧ fv (σ 1) = nr y := (by have h := ‹modRPre _›; exact h)
  exact not_neg ex hx ‹ford (fv (σ 0)) 0 = some .lt›
theorem modR_L7_ok : modR_L7 := by
  intro σ; intros
  obtain ⟨x, y, hx, hy0, hy, ex, ey⟩ : ∃ x y : Nat, x < 4294967296 ∧ y ≠ 0 ∧ y < 4294967296 ∧ fv (σ 0) = nr x ∧ fv (σ 1) = nr y := (by have h := ‹modRPre _›; exact h)
  exact not_neg ex hx ‹ford (fv (σ 0)) 0 = some .lt›
theorem modR_L8_ok : modR_L8 := by
  intro σ; intros
  obtain ⟨x, y, hx, hy0, hy, ex, ey⟩ : ∃ x y : Nat, x < 4294967296 ∧ y ≠ 0 ∧ y < 4294967296 ∧ fv (σ 0) = nr x ∧ fv (σ 1) = nr y := (by have h := ‹modRPre _›; exact h)
  exact not_neg ex hx ‹ford (fv (σ 0)) 0 = some .lt›
theorem modR_L9_ok : modR_L9 := by
  intro σ; intros
  obtain ⟨x, y, hx, hy0, hy, ex, ey⟩ : ∃ x y : Nat, x < 4294967296 ∧ y ≠ 0 ∧ y < 4294967296 ∧ fv (σ 0) = nr x ∧ fv (σ 1) = nr y := (by have h := ‹modRPre _›; exact h)
  exact not_neg ex hx ‹ford (fv (σ 0)) 0 = some .lt›
theorem modR_L10_ok : modR_L10 := by
  intro σ; intros
  obtain ⟨x, y, hx, hy0, hy, ex, ey⟩ : ∃ x y : Nat, x < 4294967296 ∧ y ≠ 0 ∧ y < 4294967296 ∧ fv (σ 0) = nr x ∧ fv (σ 1) = nr y := (by have h := ‹modRPre _›; exact h)
  exfalso
  exact not_neg ex hx ‹ford (fv (σ 0)) 0 = some .lt›
theorem modR_L11_ok : modR_L11 := by
  intro σ; intros
  obtain ⟨x, y, hx, hy0, hy, ex, ey⟩ : ∃ x y : Nat, x < 4294967296 ∧ y ≠ 0 ∧ y < 4294967296 ∧ fv (σ 0) = nr x ∧ fv (σ 1) = nr y := (by have h := ‹modRPre _›; exact h)
  have a0_ := ‹absR [σ 1, σ 6]›
  have a0 : fv (σ 6) = fv (σ 1) % 2 ^ 63 := a0_
  have ea := abs_nr a0 ey hy0 hy
  specialize ‹fitsL _ _ → ¬ modI _› (by (simp only [fitsL, Sort_.fits]; repeat' (first | exact True.intro | (with_reducible refine And.intro ?_ ?_) | exact ⟨_, ‹_›⟩ | exact ⟨_, rfl⟩ | exact ⟨_, ‹_›, fun a h => by cases h; omega, fun b h => by cases h; omega⟩ | exact ⟨_, rfl, fun a h => by cases h; decide, fun b h => by cases h; decide⟩)))
  have c_ := ‹¬ modI _›
  have c : ¬ ∃ x y r : Nat, x < 4294967296 ∧ y ≠ 0 ∧ y < 4294967296 ∧ r < 4294967296 ∧ fv (σ 0) = nr x ∧ fv (σ 6) = nr y ∧ fv (σ 0) = nr r ∧ r % y = x % y := c_
  exact c ⟨x, y, x, hx, hy0, hy, hx, ex, ea, ex, rfl⟩
theorem modR_L12_ok : modR_L12 := by
  intro σ; intros
  obtain ⟨x, y, hx, hy0, hy, ex, ey⟩ : ∃ x y : Nat, x < 4294967296 ∧ y ≠ 0 ∧ y < 4294967296 ∧ fv (σ 0) = nr x ∧ fv (σ 1) = nr y := (by have h := ‹modRPre _›; exact h)
  have a0_ := ‹absR [σ 1, σ 6]›
  have a0 : fv (σ 6) = fv (σ 1) % 2 ^ 63 := a0_
  have ea := abs_nr a0 ey hy0 hy
  obtain ⟨x2, y2, R, hx2, _, hy2, hR, ex2, ea2, eR, em⟩ : ∃ x y r : Nat, x < 4294967296 ∧ y ≠ 0 ∧ y < 4294967296 ∧ r < 4294967296 ∧ fv (σ 0) = nr x ∧ fv (σ 6) = nr y ∧ fv (σ 10) = nr r ∧ r % y = x % y := (by have h := ‹modI _›; exact h)
  have qx := nr_inj (show x2 ≤ 2 ^ 53 by omega) (show x ≤ 2 ^ 53 by omega) (ex2.symm.trans ex)
  have qy := nr_inj (show y2 ≤ 2 ^ 53 by omega) (show y ≤ 2 ^ 53 by omega) (ea2.symm.trans ea)
  subst qx; subst qy
  have ge := ge_of eR ea hR hy ‹ford (fv (σ 10)) (fv (σ 6)) = some .gt ∨ _›
  have y1 := ‹frR [σ 6, σ 7, σ 8]›
  have y1 := y1 y2 hy0 hy ea
  have r1 := ‹frR [σ 10, σ 34, σ 35]›
  have r1 := r1 R (by omega) hR eR
  have y1 : fv (σ 7) = frw y2 ∧ iv (σ 8) = (y2.log2 : Nat) + 1 := y1
  have r1 : fv (σ 34) = frw R ∧ iv (σ 35) = (R.log2 : Nat) + 1 := r1
  have pk := pick hR hy0 ge r1 y1
  obtain ⟨k, k1, k2⟩ := pk.1 ‹ford (fv (σ 34)) (fv (σ 7)) = some .lt›
  have ek : iv (σ 38) = (k : Nat) := by omega
  have l1 := ‹ldR [σ 6, σ 38, σ 39]›
  have l1 : fv (σ 39) = nr (y2 * 2 ^ k) := l1 y2 k hy0 (by omega) ea ek
  have sb := ‹farV .sub .f64 _ _ = _ ∨ _›
  rw [eR, l1] at sb
  have en := nr_sub k2 (by omega) sb
  obtain ⟨t1, t2⟩ := take k2 hy0 em
  specialize ‹fitsL _ _ → modI _ → ¬ (_ : Nat) < _› (by (simp only [fitsL, Sort_.fits]; repeat' (first | exact True.intro | (with_reducible refine And.intro ?_ ?_) | exact ⟨_, ‹_›⟩ | exact ⟨_, rfl⟩ | exact ⟨_, ‹_›, fun a h => by cases h; omega, fun b h => by cases h; omega⟩ | exact ⟨_, rfl, fun a h => by cases h; decide, fun b h => by cases h; decide⟩)))
  have c0 := ‹modI _ → ¬ (_ : Nat) < _›
  have c := c0 ⟨x2, y2, R - y2 * 2 ^ k, hx, hy0, hy, by omega, ex, ea, en, t1⟩
  have c2 : ¬ (flr (fv (σ 40))).toNat < (flr (fv (σ 10))).toNat := c
  rw [flr_nr en (by omega), flr_nr eR hR] at c2
  omega
theorem modR_L13_ok : modR_L13 := by
  intro σ; intros
  obtain ⟨x, y, hx, hy0, hy, ex, ey⟩ : ∃ x y : Nat, x < 4294967296 ∧ y ≠ 0 ∧ y < 4294967296 ∧ fv (σ 0) = nr x ∧ fv (σ 1) = nr y := (by have h := ‹modRPre _›; exact h)
  have a0_ := ‹absR [σ 1, σ 6]›
  have a0 : fv (σ 6) = fv (σ 1) % 2 ^ 63 := a0_
  have ea := abs_nr a0 ey hy0 hy
  obtain ⟨x2, y2, R, hx2, _, hy2, hR, ex2, ea2, eR, em⟩ : ∃ x y r : Nat, x < 4294967296 ∧ y ≠ 0 ∧ y < 4294967296 ∧ r < 4294967296 ∧ fv (σ 0) = nr x ∧ fv (σ 6) = nr y ∧ fv (σ 10) = nr r ∧ r % y = x % y := (by have h := ‹modI _›; exact h)
  have qx := nr_inj (show x2 ≤ 2 ^ 53 by omega) (show x ≤ 2 ^ 53 by omega) (ex2.symm.trans ex)
  have qy := nr_inj (show y2 ≤ 2 ^ 53 by omega) (show y ≤ 2 ^ 53 by omega) (ea2.symm.trans ea)
  subst qx; subst qy
  have ge := ge_of eR ea hR hy ‹ford (fv (σ 10)) (fv (σ 6)) = some .gt ∨ _›
  have y1 := ‹frR [σ 6, σ 7, σ 8]›
  have y1 := y1 y2 hy0 hy ea
  have r1 := ‹frR [σ 10, σ 34, σ 35]›
  have r1 := r1 R (by omega) hR eR
  have y1 : fv (σ 7) = frw y2 ∧ iv (σ 8) = (y2.log2 : Nat) + 1 := y1
  have r1 : fv (σ 34) = frw R ∧ iv (σ 35) = (R.log2 : Nat) + 1 := r1
  have pk := pick hR hy0 ge r1 y1
  obtain ⟨k, k1, k2⟩ := pk.1 ‹ford (fv (σ 34)) (fv (σ 7)) = some .lt›
  have ek : iv (σ 38) = (k : Nat) := by omega
  have n_ := ‹¬ ldRPre _›
  exact n_ ⟨y2, k, hy0, by omega, ea, ek⟩
theorem modR_L14_ok : modR_L14 := by
  intro σ; intros
  obtain ⟨x, y, hx, hy0, hy, ex, ey⟩ : ∃ x y : Nat, x < 4294967296 ∧ y ≠ 0 ∧ y < 4294967296 ∧ fv (σ 0) = nr x ∧ fv (σ 1) = nr y := (by have h := ‹modRPre _›; exact h)
  have a0_ := ‹absR [σ 1, σ 6]›
  have a0 : fv (σ 6) = fv (σ 1) % 2 ^ 63 := a0_
  have ea := abs_nr a0 ey hy0 hy
  obtain ⟨x2, y2, R, hx2, _, hy2, hR, ex2, ea2, eR, em⟩ : ∃ x y r : Nat, x < 4294967296 ∧ y ≠ 0 ∧ y < 4294967296 ∧ r < 4294967296 ∧ fv (σ 0) = nr x ∧ fv (σ 6) = nr y ∧ fv (σ 10) = nr r ∧ r % y = x % y := (by have h := ‹modI _›; exact h)
  have qx := nr_inj (show x2 ≤ 2 ^ 53 by omega) (show x ≤ 2 ^ 53 by omega) (ex2.symm.trans ex)
  have qy := nr_inj (show y2 ≤ 2 ^ 53 by omega) (show y ≤ 2 ^ 53 by omega) (ea2.symm.trans ea)
  subst qx; subst qy
  have ge := ge_of eR ea hR hy ‹ford (fv (σ 10)) (fv (σ 6)) = some .gt ∨ _›
  have y1 := ‹frR [σ 6, σ 7, σ 8]›
  have y1 := y1 y2 hy0 hy ea
  have r1 := ‹frR [σ 10, σ 34, σ 35]›
  have r1 := r1 R (by omega) hR eR
  have y1 : fv (σ 7) = frw y2 ∧ iv (σ 8) = (y2.log2 : Nat) + 1 := y1
  have r1 : fv (σ 34) = frw R ∧ iv (σ 35) = (R.log2 : Nat) + 1 := r1
  have pk := pick hR hy0 ge r1 y1
  obtain ⟨k, k1, k2⟩ := pk.2 ‹ford (fv (σ 34)) (fv (σ 7)) ≠ some .lt›
  have ek : iv (σ 37) = (k : Nat) := by omega
  have l1 := ‹ldR [σ 6, σ 37, σ 38]›
  have l1 : fv (σ 38) = nr (y2 * 2 ^ k) := l1 y2 k hy0 (by omega) ea ek
  have sb := ‹farV .sub .f64 _ _ = _ ∨ _›
  rw [eR, l1] at sb
  have en := nr_sub k2 (by omega) sb
  obtain ⟨t1, t2⟩ := take k2 hy0 em
  specialize ‹fitsL _ _ → modI _ → ¬ (_ : Nat) < _› (by (simp only [fitsL, Sort_.fits]; repeat' (first | exact True.intro | (with_reducible refine And.intro ?_ ?_) | exact ⟨_, ‹_›⟩ | exact ⟨_, rfl⟩ | exact ⟨_, ‹_›, fun a h => by cases h; omega, fun b h => by cases h; omega⟩ | exact ⟨_, rfl, fun a h => by cases h; decide, fun b h => by cases h; decide⟩)))
  have c0 := ‹modI _ → ¬ (_ : Nat) < _›
  have c := c0 ⟨x2, y2, R - y2 * 2 ^ k, hx, hy0, hy, by omega, ex, ea, en, t1⟩
  have c2 : ¬ (flr (fv (σ 39))).toNat < (flr (fv (σ 10))).toNat := c
  rw [flr_nr en (by omega), flr_nr eR hR] at c2
  omega
theorem modR_L15_ok : modR_L15 := by
  intro σ; intros
  obtain ⟨x, y, hx, hy0, hy, ex, ey⟩ : ∃ x y : Nat, x < 4294967296 ∧ y ≠ 0 ∧ y < 4294967296 ∧ fv (σ 0) = nr x ∧ fv (σ 1) = nr y := (by have h := ‹modRPre _›; exact h)
  have a0_ := ‹absR [σ 1, σ 6]›
  have a0 : fv (σ 6) = fv (σ 1) % 2 ^ 63 := a0_
  have ea := abs_nr a0 ey hy0 hy
  obtain ⟨x2, y2, R, hx2, _, hy2, hR, ex2, ea2, eR, em⟩ : ∃ x y r : Nat, x < 4294967296 ∧ y ≠ 0 ∧ y < 4294967296 ∧ r < 4294967296 ∧ fv (σ 0) = nr x ∧ fv (σ 6) = nr y ∧ fv (σ 10) = nr r ∧ r % y = x % y := (by have h := ‹modI _›; exact h)
  have qx := nr_inj (show x2 ≤ 2 ^ 53 by omega) (show x ≤ 2 ^ 53 by omega) (ex2.symm.trans ex)
  have qy := nr_inj (show y2 ≤ 2 ^ 53 by omega) (show y ≤ 2 ^ 53 by omega) (ea2.symm.trans ea)
  subst qx; subst qy
  have ge := ge_of eR ea hR hy ‹ford (fv (σ 10)) (fv (σ 6)) = some .gt ∨ _›
  have y1 := ‹frR [σ 6, σ 7, σ 8]›
  have y1 := y1 y2 hy0 hy ea
  have r1 := ‹frR [σ 10, σ 34, σ 35]›
  have r1 := r1 R (by omega) hR eR
  have y1 : fv (σ 7) = frw y2 ∧ iv (σ 8) = (y2.log2 : Nat) + 1 := y1
  have r1 : fv (σ 34) = frw R ∧ iv (σ 35) = (R.log2 : Nat) + 1 := r1
  have pk := pick hR hy0 ge r1 y1
  obtain ⟨k, k1, k2⟩ := pk.2 ‹ford (fv (σ 34)) (fv (σ 7)) ≠ some .lt›
  have ek : iv (σ 37) = (k : Nat) := by omega
  have n_ := ‹¬ ldRPre _›
  exact n_ ⟨y2, k, hy0, by omega, ea, ek⟩
theorem modR_L16_ok : modR_L16 := by
  intro σ; intros
  obtain ⟨x, y, hx, hy0, hy, ex, ey⟩ : ∃ x y : Nat, x < 4294967296 ∧ y ≠ 0 ∧ y < 4294967296 ∧ fv (σ 0) = nr x ∧ fv (σ 1) = nr y := (by have h := ‹modRPre _›; exact h)
  have a0_ := ‹absR [σ 1, σ 6]›
  have a0 : fv (σ 6) = fv (σ 1) % 2 ^ 63 := a0_
  have ea := abs_nr a0 ey hy0 hy
  obtain ⟨x2, y2, R, hx2, _, hy2, hR, ex2, ea2, eR, em⟩ : ∃ x y r : Nat, x < 4294967296 ∧ y ≠ 0 ∧ y < 4294967296 ∧ r < 4294967296 ∧ fv (σ 0) = nr x ∧ fv (σ 6) = nr y ∧ fv (σ 10) = nr r ∧ r % y = x % y := (by have h := ‹modI _›; exact h)
  have qx := nr_inj (show x2 ≤ 2 ^ 53 by omega) (show x ≤ 2 ^ 53 by omega) (ex2.symm.trans ex)
  have qy := nr_inj (show y2 ≤ 2 ^ 53 by omega) (show y ≤ 2 ^ 53 by omega) (ea2.symm.trans ea)
  subst qx; subst qy
  have ge := ge_of eR ea hR hy ‹ford (fv (σ 10)) (fv (σ 6)) = some .gt ∨ _›
  have n_ := ‹¬ frRPre _›
  exact n_ ⟨R, by omega, hR, eR⟩
theorem modR_L17_ok : modR_L17 := by
  intro σ; intros
  obtain ⟨x, y, hx, hy0, hy, ex, ey⟩ : ∃ x y : Nat, x < 4294967296 ∧ y ≠ 0 ∧ y < 4294967296 ∧ fv (σ 0) = nr x ∧ fv (σ 1) = nr y := (by have h := ‹modRPre _›; exact h)
  have a0_ := ‹absR [σ 1, σ 6]›
  have a0 : fv (σ 6) = fv (σ 1) % 2 ^ 63 := a0_
  have ea := abs_nr a0 ey hy0 hy
  obtain ⟨x2, y2, R, hx2, _, hy2, hR, ex2, ea2, eR, em⟩ : ∃ x y r : Nat, x < 4294967296 ∧ y ≠ 0 ∧ y < 4294967296 ∧ r < 4294967296 ∧ fv (σ 0) = nr x ∧ fv (σ 6) = nr y ∧ fv (σ 10) = nr r ∧ r % y = x % y := (by have h := ‹modI _›; exact h)
  have qx := nr_inj (show x2 ≤ 2 ^ 53 by omega) (show x ≤ 2 ^ 53 by omega) (ex2.symm.trans ex)
  have qy := nr_inj (show y2 ≤ 2 ^ 53 by omega) (show y ≤ 2 ^ 53 by omega) (ea2.symm.trans ea)
  subst qx; subst qy
  have lt := lt_of eR ea hR hy ‹ford (fv (σ 10)) (fv (σ 6)) ≠ some .gt ∧ _›
  rw [Nat.mod_eq_of_lt lt] at em
  intro x3 y3 h1 h2 h3 h4 h5
  have h4 : fv (σ 0) = nr x3 := h4
  have h5 : fv (σ 1) = nr y3 := h5
  have q1 := nr_inj (show x2 ≤ 2 ^ 53 by omega) (show x3 ≤ 2 ^ 53 by omega) (ex.symm.trans h4)
  have q2 := nr_inj (show y2 ≤ 2 ^ 53 by omega) (show y3 ≤ 2 ^ 53 by omega) (ey.symm.trans h5)
  subst q1; subst q2
  show fv (σ 10) = nr (x2 % y2)
  rw [← em]; exact eR
theorem modR_L18_ok : modR_L18 := by
  intro σ; intros
  obtain ⟨x, y, hx, hy0, hy, ex, ey⟩ : ∃ x y : Nat, x < 4294967296 ∧ y ≠ 0 ∧ y < 4294967296 ∧ fv (σ 0) = nr x ∧ fv (σ 1) = nr y := (by have h := ‹modRPre _›; exact h)
  have a0_ := ‹absR [σ 1, σ 6]›
  have a0 : fv (σ 6) = fv (σ 1) % 2 ^ 63 := a0_
  have ea := abs_nr a0 ey hy0 hy
  have n_ := ‹¬ frRPre _›
  exact n_ ⟨y, hy0, hy, ea⟩
theorem mod_ok : modC.ok Tryz.prog All :=
  by_tie modR_tie (by kernel_rfl) (all_cons abs_ok (all_cons inf_ok (all_cons nan_ok (all_cons frexp_ok (all_cons ldexp_ok all_nil))))) ⟨modR_L0_ok, modR_L1_ok, modR_L2_ok, modR_L3_ok, modR_L4_ok, modR_L5_ok, modR_L6_ok, modR_L7_ok, modR_L8_ok, modR_L9_ok, modR_L10_ok, modR_L11_ok, modR_L12_ok, modR_L13_ok, modR_L14_ok, modR_L15_ok, modR_L16_ok, modR_L17_ok, modR_L18_ok, trivial⟩
def gcdR_L0 : Prop := ∀ σ : Nat → Value,
 tF (σ 0) →
 tF (σ 1) →
 gcdRPre [σ 0, σ 1] →
    ((fitsL [.any, .any, .float .f64, .float .f64, .any, .any, .any, .any, .any, .any] [σ 0, σ 1, σ 0, σ 1, vU, vU, vU, vU, vU, vU] → ¬ gcdI [σ 0, σ 1, σ 0, σ 1, vU, vU, vU, vU, vU, vU])) →
    False
def gcdR_L1 : Prop := ∀ σ : Nat → Value,
 tF (σ 0) →
 tF (σ 1) →
 tF (σ 2) →
 tF (σ 3) →
 tF (σ 11) →
 gcdRPre [σ 0, σ 1] →
 gcdI [σ 0, σ 1, σ 2, σ 3, σ 4, σ 5, σ 6, σ 7, σ 8, σ 9] →
 modR [σ 2, σ 3, σ 11] →
    ((fitsL [.any, .any, .float .f64, .float .f64, .any, .any, .any, .any, .any, .any] [σ 0, σ 1, σ 3, σ 11, σ 3, σ 10, σ 3, σ 2, σ 3, σ 11] → gcdI [σ 0, σ 1, σ 3, σ 11, σ 3, σ 10, σ 3, σ 2, σ 3, σ 11] → ¬ gcdIM [σ 0, σ 1, σ 3, σ 11, σ 3, σ 10, σ 3, σ 2, σ 3, σ 11] < gcdIM [σ 0, σ 1, σ 2, σ 3, σ 4, σ 5, σ 6, σ 7, σ 8, σ 9])) →
 ford (fv (σ 3)) (0) ≠ some .eq →
    False
def gcdR_L2 : Prop := ∀ σ : Nat → Value,
 tF (σ 0) →
 tF (σ 1) →
 tF (σ 2) →
 tF (σ 3) →
 gcdRPre [σ 0, σ 1] →
 gcdI [σ 0, σ 1, σ 2, σ 3, σ 4, σ 5, σ 6, σ 7, σ 8, σ 9] →
 ¬ modRPre [σ 2, σ 3] →
 ford (fv (σ 3)) (0) ≠ some .eq →
    False
def gcdR_L3 : Prop := ∀ σ : Nat → Value,
 tF (σ 0) →
 tF (σ 1) →
 tF (σ 2) →
 tF (σ 3) →
 gcdRPre [σ 0, σ 1] →
 gcdI [σ 0, σ 1, σ 2, σ 3, σ 4, σ 5, σ 6, σ 7, σ 8, σ 9] →
 ford (fv (σ 3)) (0) = some .eq →
    gcdR [σ 0, σ 1, σ 2]
theorem gcdR_tie : gcdC.goals (cfgB gcdC.base [modC]) [(51, 1, gcdI_)] 2000 = (gcdR_L0 ∧ gcdR_L1 ∧ gcdR_L2 ∧ gcdR_L3 ∧ True) := by kernel_rfl
theorem gcdR_L0_ok : gcdR_L0 := by
  intro σ; intros
  obtain ⟨x, y, hx, hy, ex, ey⟩ : ∃ x y : Nat, x < 4294967296 ∧ y < 4294967296 ∧ fv (σ 0) = nr x ∧ fv (σ 1) = nr y := (by have h := ‹gcdRPre _›; exact h)
  specialize ‹fitsL _ _ → ¬ gcdI _› (by (simp only [fitsL, Sort_.fits]; repeat' (first | exact True.intro | (with_reducible refine And.intro ?_ ?_) | exact ⟨_, ‹_›⟩ | exact ⟨_, rfl⟩ | exact ⟨_, ‹_›, fun a h => by cases h; omega, fun b h => by cases h; omega⟩ | exact ⟨_, rfl, fun a h => by cases h; decide, fun b h => by cases h; decide⟩)))
  have c_ := ‹¬ gcdI _›
  have c : ¬ ∃ x y a b : Nat, x < 4294967296 ∧ y < 4294967296 ∧ a < 4294967296 ∧ b < 4294967296 ∧ fv (σ 0) = nr x ∧ fv (σ 1) = nr y ∧ fv (σ 0) = nr a ∧ fv (σ 1) = nr b ∧ Nat.gcd a b = Nat.gcd x y := c_
  exact c ⟨x, y, x, y, hx, hy, hx, hy, ex, ey, ex, ey, rfl⟩
theorem gcdR_L1_ok : gcdR_L1 := by
  intro σ; intros
  obtain ⟨x, y, a, b, hx, hy, ha, hb, ex, ey, ea, eb, eg⟩ : ∃ x y a b : Nat, x < 4294967296 ∧ y < 4294967296 ∧ a < 4294967296 ∧ b < 4294967296 ∧ fv (σ 0) = nr x ∧ fv (σ 1) = nr y ∧ fv (σ 2) = nr a ∧ fv (σ 3) = nr b ∧ Nat.gcd a b = Nat.gcd x y := (by have h := ‹gcdI _›; exact h)
  have hb0 : b ≠ 0 := fun e => ‹ford (fv (σ 3)) 0 ≠ some .eq› (by rw [eb]; exact (nr_nought (by omega)).2 e)
  have m0 := ‹modR _›
  have m1 : fv (σ 11) = nr (a % b) := m0 a b ha hb0 hb ea eb
  have lt := Nat.mod_lt a (show b > 0 by omega)
  specialize ‹fitsL _ _ → gcdI _ → ¬ (_ : Nat) < _› (by (simp only [fitsL, Sort_.fits]; repeat' (first | exact True.intro | (with_reducible refine And.intro ?_ ?_) | exact ⟨_, ‹_›⟩ | exact ⟨_, rfl⟩ | exact ⟨_, ‹_›, fun a h => by cases h; omega, fun b h => by cases h; omega⟩ | exact ⟨_, rfl, fun a h => by cases h; decide, fun b h => by cases h; decide⟩)))
  have c0 := ‹gcdI _ → ¬ (_ : Nat) < _›
  have c := c0 ⟨x, y, b, a % b, hx, hy, hb, by omega, ex, ey, eb, m1, by rw [← eg, Nat.gcd_comm b, ← Nat.gcd_rec, Nat.gcd_comm]⟩
  have c2 : ¬ (flr (fv (σ 11))).toNat < (flr (fv (σ 3))).toNat := c
  rw [flr_nr m1 (by omega), flr_nr eb hb] at c2
  omega
theorem gcdR_L2_ok : gcdR_L2 := by
  intro σ; intros
  obtain ⟨x, y, a, b, hx, hy, ha, hb, ex, ey, ea, eb, eg⟩ : ∃ x y a b : Nat, x < 4294967296 ∧ y < 4294967296 ∧ a < 4294967296 ∧ b < 4294967296 ∧ fv (σ 0) = nr x ∧ fv (σ 1) = nr y ∧ fv (σ 2) = nr a ∧ fv (σ 3) = nr b ∧ Nat.gcd a b = Nat.gcd x y := (by have h := ‹gcdI _›; exact h)
  have hb0 : b ≠ 0 := fun e => ‹ford (fv (σ 3)) 0 ≠ some .eq› (by rw [eb]; exact (nr_nought (by omega)).2 e)
  have n_ := ‹¬ modRPre _›
  exact n_ ⟨a, b, ha, hb0, hb, ea, eb⟩
theorem gcdR_L3_ok : gcdR_L3 := by
  intro σ; intros
  obtain ⟨x, y, a, b, hx, hy, ha, hb, ex, ey, ea, eb, eg⟩ : ∃ x y a b : Nat, x < 4294967296 ∧ y < 4294967296 ∧ a < 4294967296 ∧ b < 4294967296 ∧ fv (σ 0) = nr x ∧ fv (σ 1) = nr y ∧ fv (σ 2) = nr a ∧ fv (σ 3) = nr b ∧ Nat.gcd a b = Nat.gcd x y := (by have h := ‹gcdI _›; exact h)
  have z := ‹ford (fv (σ 3)) 0 = some .eq›
  rw [eb] at z
  have b0 := (nr_nought (by omega)).1 z
  intro x3 y3 h1 h2 h3 h4
  have h3 : fv (σ 0) = nr x3 := h3
  have h4 : fv (σ 1) = nr y3 := h4
  have q1 := nr_inj (show x ≤ 2 ^ 53 by omega) (show x3 ≤ 2 ^ 53 by omega) (ex.symm.trans h3)
  have q2 := nr_inj (show y ≤ 2 ^ 53 by omega) (show y3 ≤ 2 ^ 53 by omega) (ey.symm.trans h4)
  subst q1; subst q2
  rw [b0, Nat.gcd_zero_right] at eg
  show fv (σ 2) = nr (Nat.gcd x y)
  rw [← eg]; exact ea
theorem gcd_ok : gcdC.ok Tryz.prog All :=
  by_tie gcdR_tie (by kernel_rfl) (all_cons mod_ok all_nil) ⟨gcdR_L0_ok, gcdR_L1_ok, gcdR_L2_ok, gcdR_L3_ok, trivial⟩
end Go.Proofs.Dv
