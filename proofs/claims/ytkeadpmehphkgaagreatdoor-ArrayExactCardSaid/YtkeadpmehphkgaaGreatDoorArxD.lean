/- The law of exact operators. -/
import Derived.Test.YtkeadpmehphkgaaGreatDoorArxB
import Derived.Test.YtkeadpmehphkgaaGreatDoorArxC
namespace Go.Proofs.Arx
open Go.Ev Go.RowKit Ieee Go.Proofs.YtkeadpmehphkgaaGreatDoor
set_option maxRecDepth 1000000
theorem same_of {l : List Value} (h : sameR l) (e1 : iv (gv l 0) = iv (gv l 5)) (e2 : fv (gv l 1) = fv (gv l 6)) (e3 : iv (gv l 4) = iv (gv l 9)) (b : bv (gv l 10) = false) : False := by
  have := h e1 e2 e3
  rw [b] at this; cases this
theorem true_of {v : Value} (h : isTrue [v]) : bv v = true := by cases h; rfl
theorem nice_of {x d : Nat} (h : farV .sub .f64 x x = some (some d) ∨ farV .sub .f64 x x = some none ∧ Nan64 d) (e : ford d 0 = some .eq) (n : ford x 0 ≠ some .eq) : niceF x ∧ sv x ≠ 0 := by
  have f := (sub_test h).1 e
  have s : sv x ≠ 0 := fun c => n ((ford_zero f).2 c)
  exact ⟨⟨f, fun c => (s c).elim⟩, s⟩
theorem shl_word {n : Int} (h : 0 ≤ n) : (((n + 1) * 2 ^ (52 : Int).toNat).toNat) = PW n.toNat := by
  unfold PW
  have e : (52 : Int).toNat = 52 := rfl
  rw [e]
  obtain ⟨k, rfl⟩ : ∃ k : Nat, n = k := ⟨n.toNat, by omega⟩
  show (((k : Int) + 1) * 4503599627370496).toNat = k * 4503599627370496 + 4503599627370496
  omega
def exactR_L0 : Prop := ∀ σ : Nat → Value,
 σ 0 = .int .u64 (iv (σ 0)) →
 σ 1 = .int .u64 (iv (σ 1)) →
 tI (σ 2) →
 tF (σ 3) →
 tF (σ 4) →
 σ 7 = .bool (bv (σ 7)) →
 extRel .ffrom [σ 0] (σ 3) →
 extRel .ffrom [σ 1] (σ 4) →
 isTrue [σ 5] →
 isTrue [σ 7] →
 bv (σ 5) = false →
 bv (σ 5) = !true →
    exactR [σ 0, σ 1, σ 2, σ 7]
def exactR_L1 : Prop := ∀ σ : Nat → Value,
 σ 0 = .int .u64 (iv (σ 0)) →
 σ 1 = .int .u64 (iv (σ 1)) →
 tI (σ 2) →
 tF (σ 3) →
 tF (σ 4) →
 tF (σ 7) →
 σ 9 = .bool (bv (σ 9)) →
 extRel .ffrom [σ 0] (σ 3) →
 extRel .ffrom [σ 1] (σ 4) →
 isTrue [σ 5] →
 (farV .sub .f64 (fv (σ 3)) (fv (σ 3)) = some (some (fv (σ 7))) ∨ (farV .sub .f64 (fv (σ 3)) (fv (σ 3)) = some none ∧ Nan64 (fv (σ 7)))) →
 isTrue [σ 9] →
 ford (fv (σ 7)) (0) ≠ some .eq →
 bv (σ 5) = true →
 bv (σ 5) = !false →
    exactR [σ 0, σ 1, σ 2, σ 9]
def exactR_L2 : Prop := ∀ σ : Nat → Value,
 σ 0 = .int .u64 (iv (σ 0)) →
 σ 1 = .int .u64 (iv (σ 1)) →
 tI (σ 2) →
 tF (σ 3) →
 tF (σ 4) →
 tF (σ 7) →
 tF (σ 9) →
 σ 11 = .bool (bv (σ 11)) →
 extRel .ffrom [σ 0] (σ 3) →
 extRel .ffrom [σ 1] (σ 4) →
 isTrue [σ 5] →
 (farV .sub .f64 (fv (σ 3)) (fv (σ 3)) = some (some (fv (σ 7))) ∨ (farV .sub .f64 (fv (σ 3)) (fv (σ 3)) = some none ∧ Nan64 (fv (σ 7)))) →
 (farV .sub .f64 (fv (σ 4)) (fv (σ 4)) = some (some (fv (σ 9))) ∨ (farV .sub .f64 (fv (σ 4)) (fv (σ 4)) = some none ∧ Nan64 (fv (σ 9)))) →
 isTrue [σ 11] →
 ford (fv (σ 9)) (0) ≠ some .eq →
 ford (fv (σ 7)) (0) = some .eq →
 bv (σ 5) = true →
 bv (σ 5) = !false →
    exactR [σ 0, σ 1, σ 2, σ 11]
def exactR_L3 : Prop := ∀ σ : Nat → Value,
 σ 0 = .int .u64 (iv (σ 0)) →
 σ 1 = .int .u64 (iv (σ 1)) →
 tI (σ 2) →
 tF (σ 3) →
 tF (σ 4) →
 tF (σ 7) →
 tF (σ 9) →
 σ 12 = .bool (bv (σ 12)) →
 extRel .ffrom [σ 0] (σ 3) →
 extRel .ffrom [σ 1] (σ 4) →
 isTrue [σ 5] →
 (farV .sub .f64 (fv (σ 3)) (fv (σ 3)) = some (some (fv (σ 7))) ∨ (farV .sub .f64 (fv (σ 3)) (fv (σ 3)) = some none ∧ Nan64 (fv (σ 7)))) →
 (farV .sub .f64 (fv (σ 4)) (fv (σ 4)) = some (some (fv (σ 9))) ∨ (farV .sub .f64 (fv (σ 4)) (fv (σ 4)) = some none ∧ Nan64 (fv (σ 9)))) →
 isTrue [σ 12] →
 ford (fv (σ 3)) (0) = some .eq →
 ford (fv (σ 9)) (0) = some .eq →
 ford (fv (σ 7)) (0) = some .eq →
 bv (σ 5) = true →
 bv (σ 5) = !false →
    exactR [σ 0, σ 1, σ 2, σ 12]
def exactR_L4 : Prop := ∀ σ : Nat → Value,
 σ 0 = .int .u64 (iv (σ 0)) →
 σ 1 = .int .u64 (iv (σ 1)) →
 tI (σ 2) →
 tF (σ 3) →
 tF (σ 4) →
 tF (σ 7) →
 tF (σ 9) →
 σ 13 = .bool (bv (σ 13)) →
 extRel .ffrom [σ 0] (σ 3) →
 extRel .ffrom [σ 1] (σ 4) →
 isTrue [σ 5] →
 (farV .sub .f64 (fv (σ 3)) (fv (σ 3)) = some (some (fv (σ 7))) ∨ (farV .sub .f64 (fv (σ 3)) (fv (σ 3)) = some none ∧ Nan64 (fv (σ 7)))) →
 (farV .sub .f64 (fv (σ 4)) (fv (σ 4)) = some (some (fv (σ 9))) ∨ (farV .sub .f64 (fv (σ 4)) (fv (σ 4)) = some none ∧ Nan64 (fv (σ 9)))) →
 isTrue [σ 13] →
 ford (fv (σ 4)) (0) = some .eq →
 ford (fv (σ 3)) (0) ≠ some .eq →
 ford (fv (σ 9)) (0) = some .eq →
 ford (fv (σ 7)) (0) = some .eq →
 bv (σ 5) = true →
 bv (σ 5) = !false →
    exactR [σ 0, σ 1, σ 2, σ 13]
def exactR_L5 : Prop := ∀ σ : Nat → Value,
 σ 0 = .int .u64 (iv (σ 0)) →
 σ 1 = .int .u64 (iv (σ 1)) →
 tI (σ 2) →
 tF (σ 3) →
 tF (σ 4) →
 tF (σ 7) →
 tF (σ 9) →
 tF (σ 13) →
 tF (σ 14) →
 tF (σ 15) →
 tF (σ 16) →
 extRel .ffrom [σ 0] (σ 3) →
 extRel .ffrom [σ 1] (σ 4) →
 isTrue [σ 5] →
 (farV .sub .f64 (fv (σ 3)) (fv (σ 3)) = some (some (fv (σ 7))) ∨ (farV .sub .f64 (fv (σ 3)) (fv (σ 3)) = some none ∧ Nan64 (fv (σ 7)))) →
 (farV .sub .f64 (fv (σ 4)) (fv (σ 4)) = some (some (fv (σ 9))) ∨ (farV .sub .f64 (fv (σ 4)) (fv (σ 4)) = some none ∧ Nan64 (fv (σ 9)))) →
 (farV .add .f64 (fv (σ 3)) (fv (σ 4)) = some (some (fv (σ 13))) ∨ (farV .add .f64 (fv (σ 3)) (fv (σ 4)) = some none ∧ Nan64 (fv (σ 13)))) →
 (farV .sub .f64 (fv (σ 3)) (fv (σ 4)) = some (some (fv (σ 14))) ∨ (farV .sub .f64 (fv (σ 3)) (fv (σ 4)) = some none ∧ Nan64 (fv (σ 14)))) →
 (farV .mul .f64 (fv (σ 3)) (fv (σ 4)) = some (some (fv (σ 15))) ∨ (farV .mul .f64 (fv (σ 3)) (fv (σ 4)) = some none ∧ Nan64 (fv (σ 15)))) →
 (farV .quo .f64 (fv (σ 3)) (fv (σ 4)) = some (some (fv (σ 16))) ∨ (farV .quo .f64 (fv (σ 3)) (fv (σ 4)) = some none ∧ Nan64 (fv (σ 16)))) →
 ¬ addRPre [(vI 15), vO, σ 3, vE, vF, vZ, vO, σ 4, vE, vF, vZ] →
 ford (fv (σ 4)) (0) ≠ some .eq →
 ford (fv (σ 3)) (0) ≠ some .eq →
 ford (fv (σ 9)) (0) = some .eq →
 ford (fv (σ 7)) (0) = some .eq →
 bv (σ 5) = true →
 bv (σ 5) = !false →
    False
def exactR_L6 : Prop := ∀ σ : Nat → Value,
 σ 0 = .int .u64 (iv (σ 0)) →
 σ 1 = .int .u64 (iv (σ 1)) →
 tI (σ 2) →
 tF (σ 3) →
 tF (σ 4) →
 tF (σ 7) →
 tF (σ 9) →
 tF (σ 13) →
 tF (σ 14) →
 tF (σ 15) →
 tF (σ 16) →
 tI (σ 17) →
 tF (σ 18) →
 σ 19 = vE →
 σ 20 = vF →
 tI (σ 21) →
 tI (σ 22) →
 tF (σ 23) →
 σ 24 = vE →
 σ 25 = vF →
 tI (σ 26) →
 extRel .ffrom [σ 0] (σ 3) →
 extRel .ffrom [σ 1] (σ 4) →
 isTrue [σ 5] →
 (farV .sub .f64 (fv (σ 3)) (fv (σ 3)) = some (some (fv (σ 7))) ∨ (farV .sub .f64 (fv (σ 3)) (fv (σ 3)) = some none ∧ Nan64 (fv (σ 7)))) →
 (farV .sub .f64 (fv (σ 4)) (fv (σ 4)) = some (some (fv (σ 9))) ∨ (farV .sub .f64 (fv (σ 4)) (fv (σ 4)) = some none ∧ Nan64 (fv (σ 9)))) →
 (farV .add .f64 (fv (σ 3)) (fv (σ 4)) = some (some (fv (σ 13))) ∨ (farV .add .f64 (fv (σ 3)) (fv (σ 4)) = some none ∧ Nan64 (fv (σ 13)))) →
 (farV .sub .f64 (fv (σ 3)) (fv (σ 4)) = some (some (fv (σ 14))) ∨ (farV .sub .f64 (fv (σ 3)) (fv (σ 4)) = some none ∧ Nan64 (fv (σ 14)))) →
 (farV .mul .f64 (fv (σ 3)) (fv (σ 4)) = some (some (fv (σ 15))) ∨ (farV .mul .f64 (fv (σ 3)) (fv (σ 4)) = some none ∧ Nan64 (fv (σ 15)))) →
 (farV .quo .f64 (fv (σ 3)) (fv (σ 4)) = some (some (fv (σ 16))) ∨ (farV .quo .f64 (fv (σ 3)) (fv (σ 4)) = some none ∧ Nan64 (fv (σ 16)))) →
 addR [(vI 15), vO, σ 3, vE, vF, vZ, vO, σ 4, vE, vF, vZ, σ 17, σ 18, vE, vF, σ 21] →
 reckR [σ 13, σ 22, σ 23, vE, vF, σ 26] →
 sameR [σ 17, σ 18, vE, vF, σ 21, σ 22, σ 23, vE, vF, σ 26, σ 27] →
 bv (σ 27) = false →
 bv (σ 27) = !true →
 ford (fv (σ 4)) (0) ≠ some .eq →
 ford (fv (σ 3)) (0) ≠ some .eq →
 ford (fv (σ 9)) (0) = some .eq →
 ford (fv (σ 7)) (0) = some .eq →
 bv (σ 5) = true →
 bv (σ 5) = !false →
    exactR [σ 0, σ 1, σ 2, vF]
def exactR_L7 : Prop := ∀ σ : Nat → Value,
 σ 0 = .int .u64 (iv (σ 0)) →
 σ 1 = .int .u64 (iv (σ 1)) →
 tI (σ 2) →
 tF (σ 3) →
 tF (σ 4) →
 tF (σ 7) →
 tF (σ 9) →
 tF (σ 13) →
 tF (σ 14) →
 tF (σ 15) →
 tF (σ 16) →
 tI (σ 17) →
 tF (σ 18) →
 σ 19 = vE →
 σ 20 = vF →
 tI (σ 21) →
 tI (σ 22) →
 tF (σ 23) →
 σ 24 = vE →
 σ 25 = vF →
 tI (σ 26) →
 extRel .ffrom [σ 0] (σ 3) →
 extRel .ffrom [σ 1] (σ 4) →
 isTrue [σ 5] →
 (farV .sub .f64 (fv (σ 3)) (fv (σ 3)) = some (some (fv (σ 7))) ∨ (farV .sub .f64 (fv (σ 3)) (fv (σ 3)) = some none ∧ Nan64 (fv (σ 7)))) →
 (farV .sub .f64 (fv (σ 4)) (fv (σ 4)) = some (some (fv (σ 9))) ∨ (farV .sub .f64 (fv (σ 4)) (fv (σ 4)) = some none ∧ Nan64 (fv (σ 9)))) →
 (farV .add .f64 (fv (σ 3)) (fv (σ 4)) = some (some (fv (σ 13))) ∨ (farV .add .f64 (fv (σ 3)) (fv (σ 4)) = some none ∧ Nan64 (fv (σ 13)))) →
 (farV .sub .f64 (fv (σ 3)) (fv (σ 4)) = some (some (fv (σ 14))) ∨ (farV .sub .f64 (fv (σ 3)) (fv (σ 4)) = some none ∧ Nan64 (fv (σ 14)))) →
 (farV .mul .f64 (fv (σ 3)) (fv (σ 4)) = some (some (fv (σ 15))) ∨ (farV .mul .f64 (fv (σ 3)) (fv (σ 4)) = some none ∧ Nan64 (fv (σ 15)))) →
 (farV .quo .f64 (fv (σ 3)) (fv (σ 4)) = some (some (fv (σ 16))) ∨ (farV .quo .f64 (fv (σ 3)) (fv (σ 4)) = some none ∧ Nan64 (fv (σ 16)))) →
 addR [(vI 15), vO, σ 3, vE, vF, vZ, vO, σ 4, vE, vF, vZ, σ 17, σ 18, vE, vF, σ 21] →
 reckR [σ 13, σ 22, σ 23, vE, vF, σ 26] →
 sameR [σ 17, σ 18, vE, vF, σ 21, σ 22, σ 23, vE, vF, σ 26, σ 27] →
 ¬ subRPre [(vI 16), vO, σ 3, vE, vF, vZ, vO, σ 4, vE, vF, vZ] →
 bv (σ 27) = true →
 bv (σ 27) = !false →
 ford (fv (σ 4)) (0) ≠ some .eq →
 ford (fv (σ 3)) (0) ≠ some .eq →
 ford (fv (σ 9)) (0) = some .eq →
 ford (fv (σ 7)) (0) = some .eq →
 bv (σ 5) = true →
 bv (σ 5) = !false →
    False
def exactR_L8 : Prop := ∀ σ : Nat → Value,
 σ 0 = .int .u64 (iv (σ 0)) →
 σ 1 = .int .u64 (iv (σ 1)) →
 tI (σ 2) →
 tF (σ 3) →
 tF (σ 4) →
 tF (σ 7) →
 tF (σ 9) →
 tF (σ 13) →
 tF (σ 14) →
 tF (σ 15) →
 tF (σ 16) →
 tI (σ 17) →
 tF (σ 18) →
 σ 19 = vE →
 σ 20 = vF →
 tI (σ 21) →
 tI (σ 22) →
 tF (σ 23) →
 σ 24 = vE →
 σ 25 = vF →
 tI (σ 26) →
 tI (σ 29) →
 tF (σ 30) →
 σ 31 = vE →
 σ 32 = vF →
 tI (σ 33) →
 tI (σ 34) →
 tF (σ 35) →
 σ 36 = vE →
 σ 37 = vF →
 tI (σ 38) →
 extRel .ffrom [σ 0] (σ 3) →
 extRel .ffrom [σ 1] (σ 4) →
 isTrue [σ 5] →
 (farV .sub .f64 (fv (σ 3)) (fv (σ 3)) = some (some (fv (σ 7))) ∨ (farV .sub .f64 (fv (σ 3)) (fv (σ 3)) = some none ∧ Nan64 (fv (σ 7)))) →
 (farV .sub .f64 (fv (σ 4)) (fv (σ 4)) = some (some (fv (σ 9))) ∨ (farV .sub .f64 (fv (σ 4)) (fv (σ 4)) = some none ∧ Nan64 (fv (σ 9)))) →
 (farV .add .f64 (fv (σ 3)) (fv (σ 4)) = some (some (fv (σ 13))) ∨ (farV .add .f64 (fv (σ 3)) (fv (σ 4)) = some none ∧ Nan64 (fv (σ 13)))) →
 (farV .sub .f64 (fv (σ 3)) (fv (σ 4)) = some (some (fv (σ 14))) ∨ (farV .sub .f64 (fv (σ 3)) (fv (σ 4)) = some none ∧ Nan64 (fv (σ 14)))) →
 (farV .mul .f64 (fv (σ 3)) (fv (σ 4)) = some (some (fv (σ 15))) ∨ (farV .mul .f64 (fv (σ 3)) (fv (σ 4)) = some none ∧ Nan64 (fv (σ 15)))) →
 (farV .quo .f64 (fv (σ 3)) (fv (σ 4)) = some (some (fv (σ 16))) ∨ (farV .quo .f64 (fv (σ 3)) (fv (σ 4)) = some none ∧ Nan64 (fv (σ 16)))) →
 addR [(vI 15), vO, σ 3, vE, vF, vZ, vO, σ 4, vE, vF, vZ, σ 17, σ 18, vE, vF, σ 21] →
 reckR [σ 13, σ 22, σ 23, vE, vF, σ 26] →
 sameR [σ 17, σ 18, vE, vF, σ 21, σ 22, σ 23, vE, vF, σ 26, σ 27] →
 subR [(vI 16), vO, σ 3, vE, vF, vZ, vO, σ 4, vE, vF, vZ, σ 29, σ 30, vE, vF, σ 33] →
 reckR [σ 14, σ 34, σ 35, vE, vF, σ 38] →
 sameR [σ 29, σ 30, vE, vF, σ 33, σ 34, σ 35, vE, vF, σ 38, σ 39] →
 bv (σ 39) = false →
 bv (σ 39) = !true →
 bv (σ 27) = true →
 bv (σ 27) = !false →
 ford (fv (σ 4)) (0) ≠ some .eq →
 ford (fv (σ 3)) (0) ≠ some .eq →
 ford (fv (σ 9)) (0) = some .eq →
 ford (fv (σ 7)) (0) = some .eq →
 bv (σ 5) = true →
 bv (σ 5) = !false →
    exactR [σ 0, σ 1, σ 2, vF]
def exactR_L9 : Prop := ∀ σ : Nat → Value,
 σ 0 = .int .u64 (iv (σ 0)) →
 σ 1 = .int .u64 (iv (σ 1)) →
 tI (σ 2) →
 tF (σ 3) →
 tF (σ 4) →
 tF (σ 7) →
 tF (σ 9) →
 tF (σ 13) →
 tF (σ 14) →
 tF (σ 15) →
 tF (σ 16) →
 tI (σ 17) →
 tF (σ 18) →
 σ 19 = vE →
 σ 20 = vF →
 tI (σ 21) →
 tI (σ 22) →
 tF (σ 23) →
 σ 24 = vE →
 σ 25 = vF →
 tI (σ 26) →
 tI (σ 29) →
 tF (σ 30) →
 σ 31 = vE →
 σ 32 = vF →
 tI (σ 33) →
 tI (σ 34) →
 tF (σ 35) →
 σ 36 = vE →
 σ 37 = vF →
 tI (σ 38) →
 extRel .ffrom [σ 0] (σ 3) →
 extRel .ffrom [σ 1] (σ 4) →
 isTrue [σ 5] →
 (farV .sub .f64 (fv (σ 3)) (fv (σ 3)) = some (some (fv (σ 7))) ∨ (farV .sub .f64 (fv (σ 3)) (fv (σ 3)) = some none ∧ Nan64 (fv (σ 7)))) →
 (farV .sub .f64 (fv (σ 4)) (fv (σ 4)) = some (some (fv (σ 9))) ∨ (farV .sub .f64 (fv (σ 4)) (fv (σ 4)) = some none ∧ Nan64 (fv (σ 9)))) →
 (farV .add .f64 (fv (σ 3)) (fv (σ 4)) = some (some (fv (σ 13))) ∨ (farV .add .f64 (fv (σ 3)) (fv (σ 4)) = some none ∧ Nan64 (fv (σ 13)))) →
 (farV .sub .f64 (fv (σ 3)) (fv (σ 4)) = some (some (fv (σ 14))) ∨ (farV .sub .f64 (fv (σ 3)) (fv (σ 4)) = some none ∧ Nan64 (fv (σ 14)))) →
 (farV .mul .f64 (fv (σ 3)) (fv (σ 4)) = some (some (fv (σ 15))) ∨ (farV .mul .f64 (fv (σ 3)) (fv (σ 4)) = some none ∧ Nan64 (fv (σ 15)))) →
 (farV .quo .f64 (fv (σ 3)) (fv (σ 4)) = some (some (fv (σ 16))) ∨ (farV .quo .f64 (fv (σ 3)) (fv (σ 4)) = some none ∧ Nan64 (fv (σ 16)))) →
 addR [(vI 15), vO, σ 3, vE, vF, vZ, vO, σ 4, vE, vF, vZ, σ 17, σ 18, vE, vF, σ 21] →
 reckR [σ 13, σ 22, σ 23, vE, vF, σ 26] →
 sameR [σ 17, σ 18, vE, vF, σ 21, σ 22, σ 23, vE, vF, σ 26, σ 27] →
 subR [(vI 16), vO, σ 3, vE, vF, vZ, vO, σ 4, vE, vF, vZ, σ 29, σ 30, vE, vF, σ 33] →
 reckR [σ 14, σ 34, σ 35, vE, vF, σ 38] →
 sameR [σ 29, σ 30, vE, vF, σ 33, σ 34, σ 35, vE, vF, σ 38, σ 39] →
 ¬ mulRPre [(vI 13), vO, σ 3, vE, vF, vZ, vO, σ 4, vE, vF, vZ] →
 bv (σ 39) = true →
 bv (σ 39) = !false →
 bv (σ 27) = true →
 bv (σ 27) = !false →
 ford (fv (σ 4)) (0) ≠ some .eq →
 ford (fv (σ 3)) (0) ≠ some .eq →
 ford (fv (σ 9)) (0) = some .eq →
 ford (fv (σ 7)) (0) = some .eq →
 bv (σ 5) = true →
 bv (σ 5) = !false →
    False
def exactR_L10 : Prop := ∀ σ : Nat → Value,
 σ 0 = .int .u64 (iv (σ 0)) →
 σ 1 = .int .u64 (iv (σ 1)) →
 tI (σ 2) →
 tF (σ 3) →
 tF (σ 4) →
 tF (σ 7) →
 tF (σ 9) →
 tF (σ 13) →
 tF (σ 14) →
 tF (σ 15) →
 tF (σ 16) →
 tI (σ 17) →
 tF (σ 18) →
 σ 19 = vE →
 σ 20 = vF →
 tI (σ 21) →
 tI (σ 22) →
 tF (σ 23) →
 σ 24 = vE →
 σ 25 = vF →
 tI (σ 26) →
 tI (σ 29) →
 tF (σ 30) →
 σ 31 = vE →
 σ 32 = vF →
 tI (σ 33) →
 tI (σ 34) →
 tF (σ 35) →
 σ 36 = vE →
 σ 37 = vF →
 tI (σ 38) →
 tI (σ 41) →
 tF (σ 42) →
 σ 43 = vE →
 σ 44 = vF →
 tI (σ 45) →
 tI (σ 46) →
 tF (σ 47) →
 σ 48 = vE →
 σ 49 = vF →
 tI (σ 50) →
 extRel .ffrom [σ 0] (σ 3) →
 extRel .ffrom [σ 1] (σ 4) →
 isTrue [σ 5] →
 (farV .sub .f64 (fv (σ 3)) (fv (σ 3)) = some (some (fv (σ 7))) ∨ (farV .sub .f64 (fv (σ 3)) (fv (σ 3)) = some none ∧ Nan64 (fv (σ 7)))) →
 (farV .sub .f64 (fv (σ 4)) (fv (σ 4)) = some (some (fv (σ 9))) ∨ (farV .sub .f64 (fv (σ 4)) (fv (σ 4)) = some none ∧ Nan64 (fv (σ 9)))) →
 (farV .add .f64 (fv (σ 3)) (fv (σ 4)) = some (some (fv (σ 13))) ∨ (farV .add .f64 (fv (σ 3)) (fv (σ 4)) = some none ∧ Nan64 (fv (σ 13)))) →
 (farV .sub .f64 (fv (σ 3)) (fv (σ 4)) = some (some (fv (σ 14))) ∨ (farV .sub .f64 (fv (σ 3)) (fv (σ 4)) = some none ∧ Nan64 (fv (σ 14)))) →
 (farV .mul .f64 (fv (σ 3)) (fv (σ 4)) = some (some (fv (σ 15))) ∨ (farV .mul .f64 (fv (σ 3)) (fv (σ 4)) = some none ∧ Nan64 (fv (σ 15)))) →
 (farV .quo .f64 (fv (σ 3)) (fv (σ 4)) = some (some (fv (σ 16))) ∨ (farV .quo .f64 (fv (σ 3)) (fv (σ 4)) = some none ∧ Nan64 (fv (σ 16)))) →
 addR [(vI 15), vO, σ 3, vE, vF, vZ, vO, σ 4, vE, vF, vZ, σ 17, σ 18, vE, vF, σ 21] →
 reckR [σ 13, σ 22, σ 23, vE, vF, σ 26] →
 sameR [σ 17, σ 18, vE, vF, σ 21, σ 22, σ 23, vE, vF, σ 26, σ 27] →
 subR [(vI 16), vO, σ 3, vE, vF, vZ, vO, σ 4, vE, vF, vZ, σ 29, σ 30, vE, vF, σ 33] →
 reckR [σ 14, σ 34, σ 35, vE, vF, σ 38] →
 sameR [σ 29, σ 30, vE, vF, σ 33, σ 34, σ 35, vE, vF, σ 38, σ 39] →
 mulR [(vI 13), vO, σ 3, vE, vF, vZ, vO, σ 4, vE, vF, vZ, σ 41, σ 42, vE, vF, σ 45] →
 reckR [σ 15, σ 46, σ 47, vE, vF, σ 50] →
 sameR [σ 41, σ 42, vE, vF, σ 45, σ 46, σ 47, vE, vF, σ 50, σ 51] →
 bv (σ 51) = false →
 bv (σ 51) = !true →
 bv (σ 39) = true →
 bv (σ 39) = !false →
 bv (σ 27) = true →
 bv (σ 27) = !false →
 ford (fv (σ 4)) (0) ≠ some .eq →
 ford (fv (σ 3)) (0) ≠ some .eq →
 ford (fv (σ 9)) (0) = some .eq →
 ford (fv (σ 7)) (0) = some .eq →
 bv (σ 5) = true →
 bv (σ 5) = !false →
    exactR [σ 0, σ 1, σ 2, vF]
def exactR_L11 : Prop := ∀ σ : Nat → Value,
 σ 0 = .int .u64 (iv (σ 0)) →
 σ 1 = .int .u64 (iv (σ 1)) →
 tI (σ 2) →
 tF (σ 3) →
 tF (σ 4) →
 tF (σ 7) →
 tF (σ 9) →
 tF (σ 13) →
 tF (σ 14) →
 tF (σ 15) →
 tF (σ 16) →
 tI (σ 17) →
 tF (σ 18) →
 σ 19 = vE →
 σ 20 = vF →
 tI (σ 21) →
 tI (σ 22) →
 tF (σ 23) →
 σ 24 = vE →
 σ 25 = vF →
 tI (σ 26) →
 tI (σ 29) →
 tF (σ 30) →
 σ 31 = vE →
 σ 32 = vF →
 tI (σ 33) →
 tI (σ 34) →
 tF (σ 35) →
 σ 36 = vE →
 σ 37 = vF →
 tI (σ 38) →
 tI (σ 41) →
 tF (σ 42) →
 σ 43 = vE →
 σ 44 = vF →
 tI (σ 45) →
 tI (σ 46) →
 tF (σ 47) →
 σ 48 = vE →
 σ 49 = vF →
 tI (σ 50) →
 extRel .ffrom [σ 0] (σ 3) →
 extRel .ffrom [σ 1] (σ 4) →
 isTrue [σ 5] →
 (farV .sub .f64 (fv (σ 3)) (fv (σ 3)) = some (some (fv (σ 7))) ∨ (farV .sub .f64 (fv (σ 3)) (fv (σ 3)) = some none ∧ Nan64 (fv (σ 7)))) →
 (farV .sub .f64 (fv (σ 4)) (fv (σ 4)) = some (some (fv (σ 9))) ∨ (farV .sub .f64 (fv (σ 4)) (fv (σ 4)) = some none ∧ Nan64 (fv (σ 9)))) →
 (farV .add .f64 (fv (σ 3)) (fv (σ 4)) = some (some (fv (σ 13))) ∨ (farV .add .f64 (fv (σ 3)) (fv (σ 4)) = some none ∧ Nan64 (fv (σ 13)))) →
 (farV .sub .f64 (fv (σ 3)) (fv (σ 4)) = some (some (fv (σ 14))) ∨ (farV .sub .f64 (fv (σ 3)) (fv (σ 4)) = some none ∧ Nan64 (fv (σ 14)))) →
 (farV .mul .f64 (fv (σ 3)) (fv (σ 4)) = some (some (fv (σ 15))) ∨ (farV .mul .f64 (fv (σ 3)) (fv (σ 4)) = some none ∧ Nan64 (fv (σ 15)))) →
 (farV .quo .f64 (fv (σ 3)) (fv (σ 4)) = some (some (fv (σ 16))) ∨ (farV .quo .f64 (fv (σ 3)) (fv (σ 4)) = some none ∧ Nan64 (fv (σ 16)))) →
 addR [(vI 15), vO, σ 3, vE, vF, vZ, vO, σ 4, vE, vF, vZ, σ 17, σ 18, vE, vF, σ 21] →
 reckR [σ 13, σ 22, σ 23, vE, vF, σ 26] →
 sameR [σ 17, σ 18, vE, vF, σ 21, σ 22, σ 23, vE, vF, σ 26, σ 27] →
 subR [(vI 16), vO, σ 3, vE, vF, vZ, vO, σ 4, vE, vF, vZ, σ 29, σ 30, vE, vF, σ 33] →
 reckR [σ 14, σ 34, σ 35, vE, vF, σ 38] →
 sameR [σ 29, σ 30, vE, vF, σ 33, σ 34, σ 35, vE, vF, σ 38, σ 39] →
 mulR [(vI 13), vO, σ 3, vE, vF, vZ, vO, σ 4, vE, vF, vZ, σ 41, σ 42, vE, vF, σ 45] →
 reckR [σ 15, σ 46, σ 47, vE, vF, σ 50] →
 sameR [σ 41, σ 42, vE, vF, σ 45, σ 46, σ 47, vE, vF, σ 50, σ 51] →
 ¬ divRPre [(vI 14), vO, σ 3, vE, vF, vZ, vO, σ 4, vE, vF, vZ] →
 bv (σ 51) = true →
 bv (σ 51) = !false →
 bv (σ 39) = true →
 bv (σ 39) = !false →
 bv (σ 27) = true →
 bv (σ 27) = !false →
 ford (fv (σ 4)) (0) ≠ some .eq →
 ford (fv (σ 3)) (0) ≠ some .eq →
 ford (fv (σ 9)) (0) = some .eq →
 ford (fv (σ 7)) (0) = some .eq →
 bv (σ 5) = true →
 bv (σ 5) = !false →
    False
def exactR_L12 : Prop := ∀ σ : Nat → Value,
 σ 0 = .int .u64 (iv (σ 0)) →
 σ 1 = .int .u64 (iv (σ 1)) →
 tI (σ 2) →
 tF (σ 3) →
 tF (σ 4) →
 tF (σ 7) →
 tF (σ 9) →
 tF (σ 13) →
 tF (σ 14) →
 tF (σ 15) →
 tF (σ 16) →
 tI (σ 17) →
 tF (σ 18) →
 σ 19 = vE →
 σ 20 = vF →
 tI (σ 21) →
 tI (σ 22) →
 tF (σ 23) →
 σ 24 = vE →
 σ 25 = vF →
 tI (σ 26) →
 tI (σ 29) →
 tF (σ 30) →
 σ 31 = vE →
 σ 32 = vF →
 tI (σ 33) →
 tI (σ 34) →
 tF (σ 35) →
 σ 36 = vE →
 σ 37 = vF →
 tI (σ 38) →
 tI (σ 41) →
 tF (σ 42) →
 σ 43 = vE →
 σ 44 = vF →
 tI (σ 45) →
 tI (σ 46) →
 tF (σ 47) →
 σ 48 = vE →
 σ 49 = vF →
 tI (σ 50) →
 tI (σ 53) →
 tF (σ 54) →
 σ 55 = vE →
 σ 56 = vF →
 tI (σ 57) →
 tI (σ 58) →
 tF (σ 59) →
 σ 60 = vE →
 σ 61 = vF →
 tI (σ 62) →
 extRel .ffrom [σ 0] (σ 3) →
 extRel .ffrom [σ 1] (σ 4) →
 isTrue [σ 5] →
 (farV .sub .f64 (fv (σ 3)) (fv (σ 3)) = some (some (fv (σ 7))) ∨ (farV .sub .f64 (fv (σ 3)) (fv (σ 3)) = some none ∧ Nan64 (fv (σ 7)))) →
 (farV .sub .f64 (fv (σ 4)) (fv (σ 4)) = some (some (fv (σ 9))) ∨ (farV .sub .f64 (fv (σ 4)) (fv (σ 4)) = some none ∧ Nan64 (fv (σ 9)))) →
 (farV .add .f64 (fv (σ 3)) (fv (σ 4)) = some (some (fv (σ 13))) ∨ (farV .add .f64 (fv (σ 3)) (fv (σ 4)) = some none ∧ Nan64 (fv (σ 13)))) →
 (farV .sub .f64 (fv (σ 3)) (fv (σ 4)) = some (some (fv (σ 14))) ∨ (farV .sub .f64 (fv (σ 3)) (fv (σ 4)) = some none ∧ Nan64 (fv (σ 14)))) →
 (farV .mul .f64 (fv (σ 3)) (fv (σ 4)) = some (some (fv (σ 15))) ∨ (farV .mul .f64 (fv (σ 3)) (fv (σ 4)) = some none ∧ Nan64 (fv (σ 15)))) →
 (farV .quo .f64 (fv (σ 3)) (fv (σ 4)) = some (some (fv (σ 16))) ∨ (farV .quo .f64 (fv (σ 3)) (fv (σ 4)) = some none ∧ Nan64 (fv (σ 16)))) →
 addR [(vI 15), vO, σ 3, vE, vF, vZ, vO, σ 4, vE, vF, vZ, σ 17, σ 18, vE, vF, σ 21] →
 reckR [σ 13, σ 22, σ 23, vE, vF, σ 26] →
 sameR [σ 17, σ 18, vE, vF, σ 21, σ 22, σ 23, vE, vF, σ 26, σ 27] →
 subR [(vI 16), vO, σ 3, vE, vF, vZ, vO, σ 4, vE, vF, vZ, σ 29, σ 30, vE, vF, σ 33] →
 reckR [σ 14, σ 34, σ 35, vE, vF, σ 38] →
 sameR [σ 29, σ 30, vE, vF, σ 33, σ 34, σ 35, vE, vF, σ 38, σ 39] →
 mulR [(vI 13), vO, σ 3, vE, vF, vZ, vO, σ 4, vE, vF, vZ, σ 41, σ 42, vE, vF, σ 45] →
 reckR [σ 15, σ 46, σ 47, vE, vF, σ 50] →
 sameR [σ 41, σ 42, vE, vF, σ 45, σ 46, σ 47, vE, vF, σ 50, σ 51] →
 divR [(vI 14), vO, σ 3, vE, vF, vZ, vO, σ 4, vE, vF, vZ, σ 53, σ 54, vE, vF, σ 57] →
 reckR [σ 16, σ 58, σ 59, vE, vF, σ 62] →
 sameR [σ 53, σ 54, vE, vF, σ 57, σ 58, σ 59, vE, vF, σ 62, σ 63] →
 bv (σ 63) = false →
 bv (σ 63) = !true →
 bv (σ 51) = true →
 bv (σ 51) = !false →
 bv (σ 39) = true →
 bv (σ 39) = !false →
 bv (σ 27) = true →
 bv (σ 27) = !false →
 ford (fv (σ 4)) (0) ≠ some .eq →
 ford (fv (σ 3)) (0) ≠ some .eq →
 ford (fv (σ 9)) (0) = some .eq →
 ford (fv (σ 7)) (0) = some .eq →
 bv (σ 5) = true →
 bv (σ 5) = !false →
    exactR [σ 0, σ 1, σ 2, vF]
def exactR_L13 : Prop := ∀ σ : Nat → Value,
 σ 0 = .int .u64 (iv (σ 0)) →
 σ 1 = .int .u64 (iv (σ 1)) →
 tI (σ 2) →
 iv (σ 2) ≤ (-1023) →
 tF (σ 3) →
 tF (σ 4) →
 tF (σ 7) →
 tF (σ 9) →
 tF (σ 13) →
 tF (σ 14) →
 tF (σ 15) →
 tF (σ 16) →
 tI (σ 17) →
 tF (σ 18) →
 σ 19 = vE →
 σ 20 = vF →
 tI (σ 21) →
 tI (σ 22) →
 tF (σ 23) →
 σ 24 = vE →
 σ 25 = vF →
 tI (σ 26) →
 tI (σ 29) →
 tF (σ 30) →
 σ 31 = vE →
 σ 32 = vF →
 tI (σ 33) →
 tI (σ 34) →
 tF (σ 35) →
 σ 36 = vE →
 σ 37 = vF →
 tI (σ 38) →
 tI (σ 41) →
 tF (σ 42) →
 σ 43 = vE →
 σ 44 = vF →
 tI (σ 45) →
 tI (σ 46) →
 tF (σ 47) →
 σ 48 = vE →
 σ 49 = vF →
 tI (σ 50) →
 tI (σ 53) →
 tF (σ 54) →
 σ 55 = vE →
 σ 56 = vF →
 tI (σ 57) →
 tI (σ 58) →
 tF (σ 59) →
 σ 60 = vE →
 σ 61 = vF →
 tI (σ 62) →
 extRel .ffrom [σ 0] (σ 3) →
 extRel .ffrom [σ 1] (σ 4) →
 isTrue [σ 5] →
 (farV .sub .f64 (fv (σ 3)) (fv (σ 3)) = some (some (fv (σ 7))) ∨ (farV .sub .f64 (fv (σ 3)) (fv (σ 3)) = some none ∧ Nan64 (fv (σ 7)))) →
 (farV .sub .f64 (fv (σ 4)) (fv (σ 4)) = some (some (fv (σ 9))) ∨ (farV .sub .f64 (fv (σ 4)) (fv (σ 4)) = some none ∧ Nan64 (fv (σ 9)))) →
 (farV .add .f64 (fv (σ 3)) (fv (σ 4)) = some (some (fv (σ 13))) ∨ (farV .add .f64 (fv (σ 3)) (fv (σ 4)) = some none ∧ Nan64 (fv (σ 13)))) →
 (farV .sub .f64 (fv (σ 3)) (fv (σ 4)) = some (some (fv (σ 14))) ∨ (farV .sub .f64 (fv (σ 3)) (fv (σ 4)) = some none ∧ Nan64 (fv (σ 14)))) →
 (farV .mul .f64 (fv (σ 3)) (fv (σ 4)) = some (some (fv (σ 15))) ∨ (farV .mul .f64 (fv (σ 3)) (fv (σ 4)) = some none ∧ Nan64 (fv (σ 15)))) →
 (farV .quo .f64 (fv (σ 3)) (fv (σ 4)) = some (some (fv (σ 16))) ∨ (farV .quo .f64 (fv (σ 3)) (fv (σ 4)) = some none ∧ Nan64 (fv (σ 16)))) →
 addR [(vI 15), vO, σ 3, vE, vF, vZ, vO, σ 4, vE, vF, vZ, σ 17, σ 18, vE, vF, σ 21] →
 reckR [σ 13, σ 22, σ 23, vE, vF, σ 26] →
 sameR [σ 17, σ 18, vE, vF, σ 21, σ 22, σ 23, vE, vF, σ 26, σ 27] →
 subR [(vI 16), vO, σ 3, vE, vF, vZ, vO, σ 4, vE, vF, vZ, σ 29, σ 30, vE, vF, σ 33] →
 reckR [σ 14, σ 34, σ 35, vE, vF, σ 38] →
 sameR [σ 29, σ 30, vE, vF, σ 33, σ 34, σ 35, vE, vF, σ 38, σ 39] →
 mulR [(vI 13), vO, σ 3, vE, vF, vZ, vO, σ 4, vE, vF, vZ, σ 41, σ 42, vE, vF, σ 45] →
 reckR [σ 15, σ 46, σ 47, vE, vF, σ 50] →
 sameR [σ 41, σ 42, vE, vF, σ 45, σ 46, σ 47, vE, vF, σ 50, σ 51] →
 divR [(vI 14), vO, σ 3, vE, vF, vZ, vO, σ 4, vE, vF, vZ, σ 53, σ 54, vE, vF, σ 57] →
 reckR [σ 16, σ 58, σ 59, vE, vF, σ 62] →
 sameR [σ 53, σ 54, vE, vF, σ 57, σ 58, σ 59, vE, vF, σ 62, σ 63] →
 iv (σ 2) < (-1022) →
 bv (σ 63) = true →
 bv (σ 63) = !false →
 bv (σ 51) = true →
 bv (σ 51) = !false →
 bv (σ 39) = true →
 bv (σ 39) = !false →
 bv (σ 27) = true →
 bv (σ 27) = !false →
 ford (fv (σ 4)) (0) ≠ some .eq →
 ford (fv (σ 3)) (0) ≠ some .eq →
 ford (fv (σ 9)) (0) = some .eq →
 ford (fv (σ 7)) (0) = some .eq →
 bv (σ 5) = true →
 bv (σ 5) = !false →
    exactR [σ 0, σ 1, σ 2, vT]
def exactR_L14 : Prop := ∀ σ : Nat → Value,
 σ 0 = .int .u64 (iv (σ 0)) →
 σ 1 = .int .u64 (iv (σ 1)) →
 tI (σ 2) →
 1024 ≤ iv (σ 2) →
 tF (σ 3) →
 tF (σ 4) →
 tF (σ 7) →
 tF (σ 9) →
 tF (σ 13) →
 tF (σ 14) →
 tF (σ 15) →
 tF (σ 16) →
 tI (σ 17) →
 tF (σ 18) →
 σ 19 = vE →
 σ 20 = vF →
 tI (σ 21) →
 tI (σ 22) →
 tF (σ 23) →
 σ 24 = vE →
 σ 25 = vF →
 tI (σ 26) →
 tI (σ 29) →
 tF (σ 30) →
 σ 31 = vE →
 σ 32 = vF →
 tI (σ 33) →
 tI (σ 34) →
 tF (σ 35) →
 σ 36 = vE →
 σ 37 = vF →
 tI (σ 38) →
 tI (σ 41) →
 tF (σ 42) →
 σ 43 = vE →
 σ 44 = vF →
 tI (σ 45) →
 tI (σ 46) →
 tF (σ 47) →
 σ 48 = vE →
 σ 49 = vF →
 tI (σ 50) →
 tI (σ 53) →
 tF (σ 54) →
 σ 55 = vE →
 σ 56 = vF →
 tI (σ 57) →
 tI (σ 58) →
 tF (σ 59) →
 σ 60 = vE →
 σ 61 = vF →
 tI (σ 62) →
 extRel .ffrom [σ 0] (σ 3) →
 extRel .ffrom [σ 1] (σ 4) →
 isTrue [σ 5] →
 (farV .sub .f64 (fv (σ 3)) (fv (σ 3)) = some (some (fv (σ 7))) ∨ (farV .sub .f64 (fv (σ 3)) (fv (σ 3)) = some none ∧ Nan64 (fv (σ 7)))) →
 (farV .sub .f64 (fv (σ 4)) (fv (σ 4)) = some (some (fv (σ 9))) ∨ (farV .sub .f64 (fv (σ 4)) (fv (σ 4)) = some none ∧ Nan64 (fv (σ 9)))) →
 (farV .add .f64 (fv (σ 3)) (fv (σ 4)) = some (some (fv (σ 13))) ∨ (farV .add .f64 (fv (σ 3)) (fv (σ 4)) = some none ∧ Nan64 (fv (σ 13)))) →
 (farV .sub .f64 (fv (σ 3)) (fv (σ 4)) = some (some (fv (σ 14))) ∨ (farV .sub .f64 (fv (σ 3)) (fv (σ 4)) = some none ∧ Nan64 (fv (σ 14)))) →
 (farV .mul .f64 (fv (σ 3)) (fv (σ 4)) = some (some (fv (σ 15))) ∨ (farV .mul .f64 (fv (σ 3)) (fv (σ 4)) = some none ∧ Nan64 (fv (σ 15)))) →
 (farV .quo .f64 (fv (σ 3)) (fv (σ 4)) = some (some (fv (σ 16))) ∨ (farV .quo .f64 (fv (σ 3)) (fv (σ 4)) = some none ∧ Nan64 (fv (σ 16)))) →
 addR [(vI 15), vO, σ 3, vE, vF, vZ, vO, σ 4, vE, vF, vZ, σ 17, σ 18, vE, vF, σ 21] →
 reckR [σ 13, σ 22, σ 23, vE, vF, σ 26] →
 sameR [σ 17, σ 18, vE, vF, σ 21, σ 22, σ 23, vE, vF, σ 26, σ 27] →
 subR [(vI 16), vO, σ 3, vE, vF, vZ, vO, σ 4, vE, vF, vZ, σ 29, σ 30, vE, vF, σ 33] →
 reckR [σ 14, σ 34, σ 35, vE, vF, σ 38] →
 sameR [σ 29, σ 30, vE, vF, σ 33, σ 34, σ 35, vE, vF, σ 38, σ 39] →
 mulR [(vI 13), vO, σ 3, vE, vF, vZ, vO, σ 4, vE, vF, vZ, σ 41, σ 42, vE, vF, σ 45] →
 reckR [σ 15, σ 46, σ 47, vE, vF, σ 50] →
 sameR [σ 41, σ 42, vE, vF, σ 45, σ 46, σ 47, vE, vF, σ 50, σ 51] →
 divR [(vI 14), vO, σ 3, vE, vF, vZ, vO, σ 4, vE, vF, vZ, σ 53, σ 54, vE, vF, σ 57] →
 reckR [σ 16, σ 58, σ 59, vE, vF, σ 62] →
 sameR [σ 53, σ 54, vE, vF, σ 57, σ 58, σ 59, vE, vF, σ 62, σ 63] →
 1023 < iv (σ 2) →
 (-1022) ≤ iv (σ 2) →
 bv (σ 63) = true →
 bv (σ 63) = !false →
 bv (σ 51) = true →
 bv (σ 51) = !false →
 bv (σ 39) = true →
 bv (σ 39) = !false →
 bv (σ 27) = true →
 bv (σ 27) = !false →
 ford (fv (σ 4)) (0) ≠ some .eq →
 ford (fv (σ 3)) (0) ≠ some .eq →
 ford (fv (σ 9)) (0) = some .eq →
 ford (fv (σ 7)) (0) = some .eq →
 bv (σ 5) = true →
 bv (σ 5) = !false →
    exactR [σ 0, σ 1, σ 2, vT]
def exactR_L15 : Prop := ∀ σ : Nat → Value,
 σ 0 = .int .u64 (iv (σ 0)) →
 σ 1 = .int .u64 (iv (σ 1)) →
 tI (σ 2) →
 (-1022) ≤ iv (σ 2) →
 iv (σ 2) ≤ 1023 →
 tF (σ 3) →
 tF (σ 4) →
 tF (σ 7) →
 tF (σ 9) →
 tF (σ 13) →
 tF (σ 14) →
 tF (σ 15) →
 tF (σ 16) →
 tI (σ 17) →
 tF (σ 18) →
 σ 19 = vE →
 σ 20 = vF →
 tI (σ 21) →
 tI (σ 22) →
 tF (σ 23) →
 σ 24 = vE →
 σ 25 = vF →
 tI (σ 26) →
 tI (σ 29) →
 tF (σ 30) →
 σ 31 = vE →
 σ 32 = vF →
 tI (σ 33) →
 tI (σ 34) →
 tF (σ 35) →
 σ 36 = vE →
 σ 37 = vF →
 tI (σ 38) →
 tI (σ 41) →
 tF (σ 42) →
 σ 43 = vE →
 σ 44 = vF →
 tI (σ 45) →
 tI (σ 46) →
 tF (σ 47) →
 σ 48 = vE →
 σ 49 = vF →
 tI (σ 50) →
 tI (σ 53) →
 tF (σ 54) →
 σ 55 = vE →
 σ 56 = vF →
 tI (σ 57) →
 tI (σ 58) →
 tF (σ 59) →
 σ 60 = vE →
 σ 61 = vF →
 tI (σ 62) →
 tF (σ 67) →
 tI (σ 68) →
 tF (σ 69) →
 σ 70 = vE →
 σ 71 = vF →
 tI (σ 72) →
 tI (σ 73) →
 1 ≤ iv (σ 73) →
 iv (σ 73) ≤ 2046 →
 σ 74 = .int .u64 (iv (σ 74)) →
 1 ≤ iv (σ 74) →
 iv (σ 74) ≤ 2046 →
 σ 75 = .int .u64 (iv (σ 75)) →
 4503599627370496 ≤ iv (σ 75) →
 iv (σ 75) ≤ 9214364837600034816 →
 tF (σ 76) →
 σ 77 = .bool (bv (σ 77)) →
 extRel .ffrom [σ 0] (σ 3) →
 extRel .ffrom [σ 1] (σ 4) →
 isTrue [σ 5] →
 (farV .sub .f64 (fv (σ 3)) (fv (σ 3)) = some (some (fv (σ 7))) ∨ (farV .sub .f64 (fv (σ 3)) (fv (σ 3)) = some none ∧ Nan64 (fv (σ 7)))) →
 (farV .sub .f64 (fv (σ 4)) (fv (σ 4)) = some (some (fv (σ 9))) ∨ (farV .sub .f64 (fv (σ 4)) (fv (σ 4)) = some none ∧ Nan64 (fv (σ 9)))) →
 (farV .add .f64 (fv (σ 3)) (fv (σ 4)) = some (some (fv (σ 13))) ∨ (farV .add .f64 (fv (σ 3)) (fv (σ 4)) = some none ∧ Nan64 (fv (σ 13)))) →
 (farV .sub .f64 (fv (σ 3)) (fv (σ 4)) = some (some (fv (σ 14))) ∨ (farV .sub .f64 (fv (σ 3)) (fv (σ 4)) = some none ∧ Nan64 (fv (σ 14)))) →
 (farV .mul .f64 (fv (σ 3)) (fv (σ 4)) = some (some (fv (σ 15))) ∨ (farV .mul .f64 (fv (σ 3)) (fv (σ 4)) = some none ∧ Nan64 (fv (σ 15)))) →
 (farV .quo .f64 (fv (σ 3)) (fv (σ 4)) = some (some (fv (σ 16))) ∨ (farV .quo .f64 (fv (σ 3)) (fv (σ 4)) = some none ∧ Nan64 (fv (σ 16)))) →
 addR [(vI 15), vO, σ 3, vE, vF, vZ, vO, σ 4, vE, vF, vZ, σ 17, σ 18, vE, vF, σ 21] →
 reckR [σ 13, σ 22, σ 23, vE, vF, σ 26] →
 sameR [σ 17, σ 18, vE, vF, σ 21, σ 22, σ 23, vE, vF, σ 26, σ 27] →
 subR [(vI 16), vO, σ 3, vE, vF, vZ, vO, σ 4, vE, vF, vZ, σ 29, σ 30, vE, vF, σ 33] →
 reckR [σ 14, σ 34, σ 35, vE, vF, σ 38] →
 sameR [σ 29, σ 30, vE, vF, σ 33, σ 34, σ 35, vE, vF, σ 38, σ 39] →
 mulR [(vI 13), vO, σ 3, vE, vF, vZ, vO, σ 4, vE, vF, vZ, σ 41, σ 42, vE, vF, σ 45] →
 reckR [σ 15, σ 46, σ 47, vE, vF, σ 50] →
 sameR [σ 41, σ 42, vE, vF, σ 45, σ 46, σ 47, vE, vF, σ 50, σ 51] →
 divR [(vI 14), vO, σ 3, vE, vF, vZ, vO, σ 4, vE, vF, vZ, σ 53, σ 54, vE, vF, σ 57] →
 reckR [σ 16, σ 58, σ 59, vE, vF, σ 62] →
 sameR [σ 53, σ 54, vE, vF, σ 57, σ 58, σ 59, vE, vF, σ 62, σ 63] →
 fv (σ 67) = FloatKind.f64.nearest (iv (σ 2)) →
 powBR [(vI 12), vO, (vG 4611686018427387904), vE, vF, vZ, vO, σ 2, σ 67, vE, vF, vZ, σ 68, σ 69, vE, vF, σ 72] →
 iv (σ 73) = iv (σ 2) + 1023 →
 iv (σ 74) = iv (σ 73) →
 iv (σ 75) = iv (σ 74) * 2 ^ (52 : Int).toNat →
 extRel .ffrom [σ 75] (σ 76) →
 sameR [σ 68, σ 69, vE, vF, σ 72, vO, σ 76, vE, vF, vZ, σ 77] →
 iv (σ 2) ≤ 1023 →
 (-1022) ≤ iv (σ 2) →
 bv (σ 63) = true →
 bv (σ 63) = !false →
 bv (σ 51) = true →
 bv (σ 51) = !false →
 bv (σ 39) = true →
 bv (σ 39) = !false →
 bv (σ 27) = true →
 bv (σ 27) = !false →
 ford (fv (σ 4)) (0) ≠ some .eq →
 ford (fv (σ 3)) (0) ≠ some .eq →
 ford (fv (σ 9)) (0) = some .eq →
 ford (fv (σ 7)) (0) = some .eq →
 bv (σ 5) = true →
 bv (σ 5) = !false →
    exactR [σ 0, σ 1, σ 2, σ 77]
theorem exactR_tie : lawC.goals (cfgB lawC.base [begunC, addC, subC, mulC, divC, powC, rreckC, sameC]) [] 2000 = (exactR_L0 ∧ exactR_L1 ∧ exactR_L2 ∧ exactR_L3 ∧ exactR_L4 ∧ exactR_L5 ∧ exactR_L6 ∧ exactR_L7 ∧ exactR_L8 ∧ exactR_L9 ∧ exactR_L10 ∧ exactR_L11 ∧ exactR_L12 ∧ exactR_L13 ∧ exactR_L14 ∧ exactR_L15 ∧ True) := by kernel_rfl
theorem exactR_L0_ok : exactR_L0 := by
  intro σ; intros
  have t_ := ‹isTrue [σ 7]›
  have t : isTrue [σ 7] := t_
  exact true_of t
theorem exactR_L1_ok : exactR_L1 := by
  intro σ; intros
  have t_ := ‹isTrue [σ 9]›
  have t : isTrue [σ 9] := t_
  exact true_of t
theorem exactR_L2_ok : exactR_L2 := by
  intro σ; intros
  have t_ := ‹isTrue [σ 11]›
  have t : isTrue [σ 11] := t_
  exact true_of t
theorem exactR_L3_ok : exactR_L3 := by
  intro σ; intros
  have t_ := ‹isTrue [σ 12]›
  have t : isTrue [σ 12] := t_
  exact true_of t
theorem exactR_L4_ok : exactR_L4 := by
  intro σ; intros
  have t_ := ‹isTrue [σ 13]›
  have t : isTrue [σ 13] := t_
  exact true_of t
theorem exactR_L5_ok : exactR_L5 := by
  intro σ; intros
  have n3 := nice_of (x := fv (σ 3)) (d := fv (σ 7)) ‹_› ‹_› ‹_›
  have n4 := nice_of (x := fv (σ 4)) (d := fv (σ 9)) ‹_› ‹_› ‹_›
  have q : niceF (fv (σ 3)) ∧ niceF (fv (σ 4)) := ⟨n3.1, n4.1⟩
  have n_ := ‹¬ addRPre _›
  exact n_ q
theorem exactR_L6_ok : exactR_L6 := by
  intro σ; intros
  have r2_ := ‹reckR [σ 13, σ 22, σ 23, vE, vF, σ 26]›
  have r2 : RK (fv (σ 13)) (iv (σ 22)) (fv (σ 23)) (iv (σ 26)) := r2_
  have f2_ := ‹farV .add .f64 (fv (σ 3)) (fv (σ 4)) = _ ∨ _›
  have f2 : FarR .add (fv (σ 3)) (fv (σ 4)) (fv (σ 13)) := f2_
  obtain ⟨z, f1, r1⟩ : ∃ z, FarR .add (fv (σ 3)) (fv (σ 4)) z ∧ RK z (iv (σ 17)) (fv (σ 18)) (iv (σ 21)) := (by have h := ‹addR _›; exact h)
  obtain ⟨g1, g2, g3⟩ := rk_one f1 f2 r1 r2
  have s0_ := ‹sameR [σ 17, σ 18, vE, vF, σ 21, σ 22, σ 23, vE, vF, σ 26, σ 27]›
  have s0 : sameR [σ 17, σ 18, vE, vF, σ 21, σ 22, σ 23, vE, vF, σ 26, σ 27] := s0_
  exact (same_of s0 g1 g2 g3 ‹bv (σ 27) = false›).elim
theorem exactR_L7_ok : exactR_L7 := by
  intro σ; intros
  have n3 := nice_of (x := fv (σ 3)) (d := fv (σ 7)) ‹_› ‹_› ‹_›
  have n4 := nice_of (x := fv (σ 4)) (d := fv (σ 9)) ‹_› ‹_› ‹_›
  have q : niceF (fv (σ 3)) ∧ niceF (fv (σ 4)) := ⟨n3.1, n4.1⟩
  have n_ := ‹¬ subRPre _›
  exact n_ q
theorem exactR_L8_ok : exactR_L8 := by
  intro σ; intros
  have r2_ := ‹reckR [σ 14, σ 34, σ 35, vE, vF, σ 38]›
  have r2 : RK (fv (σ 14)) (iv (σ 34)) (fv (σ 35)) (iv (σ 38)) := r2_
  have f2_ := ‹farV .sub .f64 (fv (σ 3)) (fv (σ 4)) = _ ∨ _›
  have f2 : FarR .sub (fv (σ 3)) (fv (σ 4)) (fv (σ 14)) := f2_
  obtain ⟨z, f1, r1⟩ : ∃ z, FarR .sub (fv (σ 3)) (fv (σ 4)) z ∧ RK z (iv (σ 29)) (fv (σ 30)) (iv (σ 33)) := (by have h := ‹subR _›; exact h)
  obtain ⟨g1, g2, g3⟩ := rk_one f1 f2 r1 r2
  have s0_ := ‹sameR [σ 29, σ 30, vE, vF, σ 33, σ 34, σ 35, vE, vF, σ 38, σ 39]›
  have s0 : sameR [σ 29, σ 30, vE, vF, σ 33, σ 34, σ 35, vE, vF, σ 38, σ 39] := s0_
  exact (same_of s0 g1 g2 g3 ‹bv (σ 39) = false›).elim
theorem exactR_L9_ok : exactR_L9 := by
  intro σ; intros
  have n3 := nice_of (x := fv (σ 3)) (d := fv (σ 7)) ‹_› ‹_› ‹_›
  have n4 := nice_of (x := fv (σ 4)) (d := fv (σ 9)) ‹_› ‹_› ‹_›
  have q : niceF (fv (σ 3)) ∧ niceF (fv (σ 4)) := ⟨n3.1, n4.1⟩
  have n_ := ‹¬ mulRPre _›
  exact n_ q
theorem exactR_L10_ok : exactR_L10 := by
  intro σ; intros
  have r2_ := ‹reckR [σ 15, σ 46, σ 47, vE, vF, σ 50]›
  have r2 : RK (fv (σ 15)) (iv (σ 46)) (fv (σ 47)) (iv (σ 50)) := r2_
  have f2_ := ‹farV .mul .f64 (fv (σ 3)) (fv (σ 4)) = _ ∨ _›
  have f2 : FarR .mul (fv (σ 3)) (fv (σ 4)) (fv (σ 15)) := f2_
  obtain ⟨z, f1, r1⟩ : ∃ z, FarR .mul (fv (σ 3)) (fv (σ 4)) z ∧ RK z (iv (σ 41)) (fv (σ 42)) (iv (σ 45)) := (by have h := ‹mulR _›; exact h)
  obtain ⟨g1, g2, g3⟩ := rk_one f1 f2 r1 r2
  have s0_ := ‹sameR [σ 41, σ 42, vE, vF, σ 45, σ 46, σ 47, vE, vF, σ 50, σ 51]›
  have s0 : sameR [σ 41, σ 42, vE, vF, σ 45, σ 46, σ 47, vE, vF, σ 50, σ 51] := s0_
  exact (same_of s0 g1 g2 g3 ‹bv (σ 51) = false›).elim
theorem exactR_L11_ok : exactR_L11 := by
  intro σ; intros
  have n3 := nice_of (x := fv (σ 3)) (d := fv (σ 7)) ‹_› ‹_› ‹_›
  have n4 := nice_of (x := fv (σ 4)) (d := fv (σ 9)) ‹_› ‹_› ‹_›
  have q : (niceF (fv (σ 3)) ∧ niceF (fv (σ 4))) ∧ sv (fv (σ 4)) ≠ 0 := ⟨⟨n3.1, n4.1⟩, n4.2⟩
  have n_ := ‹¬ divRPre _›
  exact n_ q
theorem exactR_L12_ok : exactR_L12 := by
  intro σ; intros
  have r2_ := ‹reckR [σ 16, σ 58, σ 59, vE, vF, σ 62]›
  have r2 : RK (fv (σ 16)) (iv (σ 58)) (fv (σ 59)) (iv (σ 62)) := r2_
  have f2_ := ‹farV .quo .f64 (fv (σ 3)) (fv (σ 4)) = _ ∨ _›
  have f2 : FarR .quo (fv (σ 3)) (fv (σ 4)) (fv (σ 16)) := f2_
  obtain ⟨z, f1, r1⟩ : ∃ z, FarR .quo (fv (σ 3)) (fv (σ 4)) z ∧ RK z (iv (σ 53)) (fv (σ 54)) (iv (σ 57)) := (by have h := ‹divR _›; exact h)
  obtain ⟨g1, g2, g3⟩ := rk_one f1 f2 r1 r2
  have s0_ := ‹sameR [σ 53, σ 54, vE, vF, σ 57, σ 58, σ 59, vE, vF, σ 62, σ 63]›
  have s0 : sameR [σ 53, σ 54, vE, vF, σ 57, σ 58, σ 59, vE, vF, σ 62, σ 63] := s0_
  exact (same_of s0 g1 g2 g3 ‹bv (σ 63) = false›).elim
theorem exactR_L13_ok : exactR_L13 := by
  intro σ; intros
  exact rfl
theorem exactR_L14_ok : exactR_L14 := by
  intro σ; intros
  exact rfl
theorem exactR_L15_ok : exactR_L15 := by
  intro σ; intros
  have r_ := ‹powBR _›
  have r : iv (σ 68) = 1 ∧ fv (σ 69) = PW (iv (σ 2) + 1022).toNat ∧ iv (σ 72) = 0 := r_
  have w := ffrom_fv (a := σ 75) (r := σ 76) ‹_› ‹_›
  have a1 := ‹iv (σ 75) = iv (σ 74) * 2 ^ (52 : Int).toNat›
  have a2 : iv (σ 74) = iv (σ 2) + 1022 + 1 := by omega
  rw [a2] at a1
  rw [a1, shl_word (by omega)] at w
  have s0_ := ‹sameR [σ 68, σ 69, vE, vF, σ 72, vO, σ 76, vE, vF, vZ, σ 77]›
  have s0 : sameR [σ 68, σ 69, vE, vF, σ 72, vO, σ 76, vE, vF, vZ, σ 77] := s0_
  exact s0 r.1 (r.2.1.trans w.symm) r.2.2
theorem law_ok : lawC.ok Tryz.prog All :=
  by_tie exactR_tie (by kernel_rfl) (all_cons begun_ok (all_cons add_ok (all_cons sub_ok (all_cons mul_ok (all_cons div_ok (all_cons pow_ok (all_cons R.ok (all_cons same_ok all_nil)))))))) ⟨exactR_L0_ok, exactR_L1_ok, exactR_L2_ok, exactR_L3_ok, exactR_L4_ok, exactR_L5_ok, exactR_L6_ok, exactR_L7_ok, exactR_L8_ok, exactR_L9_ok, exactR_L10_ok, exactR_L11_ok, exactR_L12_ok, exactR_L13_ok, exactR_L14_ok, exactR_L15_ok, trivial⟩
end Go.Proofs.Arx
