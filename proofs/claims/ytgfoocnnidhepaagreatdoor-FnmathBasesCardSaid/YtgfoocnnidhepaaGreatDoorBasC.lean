/- DECIMAL. -/
import Derived.Test.YtgfoocnnidhepaaGreatDoorBasA
namespace Go.Proofs.Bs
open Go.Ev Go.RowKit Ieee
set_option maxRecDepth 1000000
def deciR_L0 : Prop := ∀ σ : Nat → Value,
 σ 0 = (vS #[68,69,67,73,77,65,76]) →
 σ 2 = vF →
 σ 3 = vF →
 σ 4 = vO →
 σ 5 = vO →
 σ 7 = vZ →
 σ 8 = vZ →
 σ 9 = (vI 2) →
 σ 10 = (vG 0) →
 tS (σ 11) →
 σ 12 = vF →
 σ 13 = vZ →
 σ 14 = vF →
 σ 15 = vF →
 σ 16 = vO →
 σ 17 = vO →
 σ 19 = vZ →
 σ 20 = vZ →
 σ 21 = vO →
 tI (σ 22) →
 2 ≤ iv (σ 22) →
 iv (σ 22) ≤ 36 →
 tF (σ 23) →
 σ 24 = vE →
 σ 25 = vF →
 σ 26 = vZ →
 fv (σ 23) = nE (iv (σ 22)) →
 deciRPre [(vS #[68,69,67,73,77,65,76]),vU, vF, vF, vO, vO,vU,vZ,vZ, (vI 2), (vG 0),σ 11, vF,vZ, vF, vF, vO, vO,vU,vZ,vZ, vO,σ 22,σ 23, vE, vF,vZ] →
 ¬ vldRPre [σ 11] →
    False
def deciR_L1 : Prop := ∀ σ : Nat → Value,
 σ 0 = (vS #[68,69,67,73,77,65,76]) →
 σ 2 = vF →
 σ 3 = vF →
 σ 4 = vO →
 σ 5 = vO →
 σ 7 = vZ →
 σ 8 = vZ →
 σ 9 = (vI 2) →
 σ 10 = (vG 0) →
 tS (σ 11) →
 σ 12 = vF →
 σ 13 = vZ →
 σ 14 = vF →
 σ 15 = vF →
 σ 16 = vO →
 σ 17 = vO →
 σ 19 = vZ →
 σ 20 = vZ →
 σ 21 = vO →
 tI (σ 22) →
 2 ≤ iv (σ 22) →
 iv (σ 22) ≤ 36 →
 tF (σ 23) →
 σ 24 = vE →
 σ 25 = vF →
 σ 26 = vZ →
 tI (σ 28) →
 32769 ≤ iv (σ 28) →
 fv (σ 23) = nE (iv (σ 22)) →
 deciRPre [(vS #[68,69,67,73,77,65,76]),vU, vF, vF, vO, vO,vU,vZ,vZ, (vI 2), (vG 0),σ 11, vF,vZ, vF, vF, vO, vO,vU,vZ,vZ, vO,σ 22,σ 23, vE, vF,vZ] →
 vldR [σ 11,σ 27] →
 iv (σ 28) = ((tv (σ 11)).size : Nat) →
 32768 < iv (σ 28) →
 bv (σ 27) = true →
    False
def deciR_L2 : Prop := ∀ σ : Nat → Value,
 σ 0 = (vS #[68,69,67,73,77,65,76]) →
 σ 2 = vF →
 σ 3 = vF →
 σ 4 = vO →
 σ 5 = vO →
 σ 7 = vZ →
 σ 8 = vZ →
 σ 9 = (vI 2) →
 σ 10 = (vG 0) →
 tS (σ 11) →
 σ 12 = vF →
 σ 13 = vZ →
 σ 14 = vF →
 σ 15 = vF →
 σ 16 = vO →
 σ 17 = vO →
 σ 19 = vZ →
 σ 20 = vZ →
 σ 21 = vO →
 tI (σ 22) →
 2 ≤ iv (σ 22) →
 iv (σ 22) ≤ 36 →
 tF (σ 23) →
 σ 24 = vE →
 σ 25 = vF →
 σ 26 = vZ →
 tI (σ 28) →
 0 ≤ iv (σ 28) →
 iv (σ 28) ≤ 32768 →
 tU (σ 30) →
 tU (σ 31) →
 σ 33 = vE →
 fv (σ 23) = nE (iv (σ 22)) →
 deciRPre [(vS #[68,69,67,73,77,65,76]),vU, vF, vF, vO, vO,vU,vZ,vZ, (vI 2), (vG 0),σ 11, vF,vZ, vF, vF, vO, vO,vU,vZ,vZ, vO,σ 22,σ 23, vE, vF,vZ] →
 vldR [σ 11,σ 27] →
 iv (σ 28) = ((tv (σ 11)).size : Nat) →
 extRel .fbits [σ 23] (σ 30) →
 aN (σ 30) (σ 31) →
 vldR [σ 11,σ 32] →
 uppR [σ 11,σ 33] →
 bv (σ 32) = true →
 iv (σ 28) ≤ 32768 →
 bv (σ 27) = true →
    False
def deciR_L3 : Prop := ∀ σ : Nat → Value,
 σ 0 = (vS #[68,69,67,73,77,65,76]) →
 σ 2 = vF →
 σ 3 = vF →
 σ 4 = vO →
 σ 5 = vO →
 σ 7 = vZ →
 σ 8 = vZ →
 σ 9 = (vI 2) →
 σ 10 = (vG 0) →
 tS (σ 11) →
 σ 12 = vF →
 σ 13 = vZ →
 σ 14 = vF →
 σ 15 = vF →
 σ 16 = vO →
 σ 17 = vO →
 σ 19 = vZ →
 σ 20 = vZ →
 σ 21 = vO →
 tI (σ 22) →
 2 ≤ iv (σ 22) →
 iv (σ 22) ≤ 36 →
 tF (σ 23) →
 σ 24 = vE →
 σ 25 = vF →
 σ 26 = vZ →
 tI (σ 28) →
 0 ≤ iv (σ 28) →
 iv (σ 28) ≤ 32768 →
 tU (σ 30) →
 tU (σ 31) →
 tS (σ 33) →
    (∀ x ∈ ([⟨#[]⟩] : List ByteArray), (tv (σ 33)).toList ≠ x.toList) →
 tI (σ 34) →
 0 ≤ iv (σ 34) →
 fv (σ 23) = nE (iv (σ 22)) →
 deciRPre [(vS #[68,69,67,73,77,65,76]),vU, vF, vF, vO, vO,vU,vZ,vZ, (vI 2), (vG 0),σ 11, vF,vZ, vF, vF, vO, vO,vU,vZ,vZ, vO,σ 22,σ 23, vE, vF,vZ] →
 vldR [σ 11,σ 27] →
 iv (σ 28) = ((tv (σ 11)).size : Nat) →
 extRel .fbits [σ 23] (σ 30) →
 aN (σ 30) (σ 31) →
 vldR [σ 11,σ 32] →
 uppR [σ 11,σ 33] →
 iv (σ 34) = ((tv (σ 33)).size : Nat) →
    ((fitsL [.any, .any, .float .f64, .any, .any, .int .i64, .any, .any, .any, .any, .any, .any, .any, .any, .any, .any, .any, .any, .any, .any, .any, .any, .any, .any, .any] [σ 33,σ 23, (vG 0),vU,vU,vZ,vU,vU,vU,vU,vU,vU,vU,vU,vU,vU,vU,vU,vU,vU,vU,vU,vU,vU,vU] → ¬ deciI [σ 33,σ 23, (vG 0),vU,vU,vZ,vU,vU,vU,vU,vU,vU,vU,vU,vU,vU,vU,vU,vU,vU,vU,vU,vU,vU,vU])) →
 bv (σ 32) = true →
 iv (σ 28) ≤ 32768 →
 bv (σ 27) = true →
    False
def deciR_L4 : Prop := ∀ σ : Nat → Value,
 σ 0 = (vS #[68,69,67,73,77,65,76]) →
 σ 2 = vF →
 σ 3 = vF →
 σ 4 = vO →
 σ 5 = vO →
 σ 7 = vZ →
 σ 8 = vZ →
 σ 9 = (vI 2) →
 σ 10 = (vG 0) →
 tS (σ 11) →
 σ 12 = vF →
 σ 13 = vZ →
 σ 14 = vF →
 σ 15 = vF →
 σ 16 = vO →
 σ 17 = vO →
 σ 19 = vZ →
 σ 20 = vZ →
 σ 21 = vO →
 tI (σ 22) →
 2 ≤ iv (σ 22) →
 iv (σ 22) ≤ 36 →
 tF (σ 23) →
 σ 24 = vE →
 σ 25 = vF →
 σ 26 = vZ →
 tI (σ 28) →
 0 ≤ iv (σ 28) →
 iv (σ 28) ≤ 32768 →
 tU (σ 30) →
 tU (σ 31) →
 tS (σ 33) →
    (∀ x ∈ ([⟨#[]⟩] : List ByteArray), (tv (σ 33)).toList ≠ x.toList) →
 tI (σ 34) →
 0 ≤ iv (σ 34) →
 tF (σ 35) →
 tI (σ 38) →
 fv (σ 23) = nE (iv (σ 22)) →
 deciRPre [(vS #[68,69,67,73,77,65,76]),vU, vF, vF, vO, vO,vU,vZ,vZ, (vI 2), (vG 0),σ 11, vF,vZ, vF, vF, vO, vO,vU,vZ,vZ, vO,σ 22,σ 23, vE, vF,vZ] →
 vldR [σ 11,σ 27] →
 iv (σ 28) = ((tv (σ 11)).size : Nat) →
 extRel .fbits [σ 23] (σ 30) →
 aN (σ 30) (σ 31) →
 vldR [σ 11,σ 32] →
 uppR [σ 11,σ 33] →
 iv (σ 34) = ((tv (σ 33)).size : Nat) →
 deciI [σ 33,σ 23,σ 35,σ 36,σ 37,σ 38,σ 39,σ 40,σ 41,σ 42,σ 43,σ 44,σ 45,σ 46,σ 47,σ 48,σ 49,σ 50,σ 51,σ 52,σ 53,σ 54,σ 55,σ 56,σ 57] →
 iv (σ 38) < 0 →
 iv (σ 38) < iv (σ 34) →
 bv (σ 32) = true →
 iv (σ 28) ≤ 32768 →
 bv (σ 27) = true →
    False
def deciR_L6 : Prop := ∀ σ : Nat → Value,
 σ 0 = (vS #[68,69,67,73,77,65,76]) →
 σ 2 = vF →
 σ 3 = vF →
 σ 4 = vO →
 σ 5 = vO →
 σ 7 = vZ →
 σ 8 = vZ →
 σ 9 = (vI 2) →
 σ 10 = (vG 0) →
 tS (σ 11) →
 σ 12 = vF →
 σ 13 = vZ →
 σ 14 = vF →
 σ 15 = vF →
 σ 16 = vO →
 σ 17 = vO →
 σ 19 = vZ →
 σ 20 = vZ →
 σ 21 = vO →
 tI (σ 22) →
 2 ≤ iv (σ 22) →
 iv (σ 22) ≤ 36 →
 tF (σ 23) →
 σ 24 = vE →
 σ 25 = vF →
 σ 26 = vZ →
 tI (σ 28) →
 0 ≤ iv (σ 28) →
 iv (σ 28) ≤ 32768 →
 tU (σ 30) →
 tU (σ 31) →
 tS (σ 33) →
    (∀ x ∈ ([⟨#[]⟩] : List ByteArray), (tv (σ 33)).toList ≠ x.toList) →
 tI (σ 34) →
 0 ≤ iv (σ 34) →
 tF (σ 35) →
 tI (σ 38) →
 tS (σ 59) →
 fv (σ 23) = nE (iv (σ 22)) →
 deciRPre [(vS #[68,69,67,73,77,65,76]),vU, vF, vF, vO, vO,vU,vZ,vZ, (vI 2), (vG 0),σ 11, vF,vZ, vF, vF, vO, vO,vU,vZ,vZ, vO,σ 22,σ 23, vE, vF,vZ] →
 vldR [σ 11,σ 27] →
 iv (σ 28) = ((tv (σ 11)).size : Nat) →
 extRel .fbits [σ 23] (σ 30) →
 aN (σ 30) (σ 31) →
 vldR [σ 11,σ 32] →
 uppR [σ 11,σ 33] →
 iv (σ 34) = ((tv (σ 33)).size : Nat) →
 deciI [σ 33,σ 23,σ 35,σ 36,σ 37,σ 38,σ 39,σ 40,σ 41,σ 42,σ 43,σ 44,σ 45,σ 46,σ 47,σ 48,σ 49,σ 50,σ 51,σ 52,σ 53,σ 54,σ 55,σ 56,σ 57] →
 (0 : Int) ≤ 0 →
 (0 : Int) ≤ iv (σ 22) →
 (iv (σ 22) : Int) ≤ (sgB.size : Nat) →
 tv (σ 59) = sgB.extract (0 : Int).toNat (iv (σ 22) : Int).toNat →
 iv (σ 38) < 0 →
 iv (σ 38) < iv (σ 34) →
 bv (σ 32) = true →
 iv (σ 28) ≤ 32768 →
 bv (σ 27) = true →
    False
def deciR_L7 : Prop := ∀ σ : Nat → Value,
 σ 0 = (vS #[68,69,67,73,77,65,76]) →
 σ 2 = vF →
 σ 3 = vF →
 σ 4 = vO →
 σ 5 = vO →
 σ 7 = vZ →
 σ 8 = vZ →
 σ 9 = (vI 2) →
 σ 10 = (vG 0) →
 tS (σ 11) →
 σ 12 = vF →
 σ 13 = vZ →
 σ 14 = vF →
 σ 15 = vF →
 σ 16 = vO →
 σ 17 = vO →
 σ 19 = vZ →
 σ 20 = vZ →
 σ 21 = vO →
 tI (σ 22) →
 2 ≤ iv (σ 22) →
 iv (σ 22) ≤ 36 →
 tF (σ 23) →
 σ 24 = vE →
 σ 25 = vF →
 σ 26 = vZ →
 tI (σ 28) →
 0 ≤ iv (σ 28) →
 iv (σ 28) ≤ 32768 →
 tU (σ 30) →
 tU (σ 31) →
 tS (σ 33) →
    (∀ x ∈ ([⟨#[]⟩] : List ByteArray), (tv (σ 33)).toList ≠ x.toList) →
 tI (σ 34) →
 0 ≤ iv (σ 34) →
 tF (σ 35) →
 tI (σ 38) →
 tS (σ 59) →
 σ 61 = .int .u8 (iv (σ 61)) →
 0 ≤ iv (σ 61) →
 iv (σ 61) ≤ 255 →
 fv (σ 23) = nE (iv (σ 22)) →
 deciRPre [(vS #[68,69,67,73,77,65,76]),vU, vF, vF, vO, vO,vU,vZ,vZ, (vI 2), (vG 0),σ 11, vF,vZ, vF, vF, vO, vO,vU,vZ,vZ, vO,σ 22,σ 23, vE, vF,vZ] →
 vldR [σ 11,σ 27] →
 iv (σ 28) = ((tv (σ 11)).size : Nat) →
 extRel .fbits [σ 23] (σ 30) →
 aN (σ 30) (σ 31) →
 vldR [σ 11,σ 32] →
 uppR [σ 11,σ 33] →
 iv (σ 34) = ((tv (σ 33)).size : Nat) →
 deciI [σ 33,σ 23,σ 35,σ 36,σ 37,σ 38,σ 39,σ 40,σ 41,σ 42,σ 43,σ 44,σ 45,σ 46,σ 47,σ 48,σ 49,σ 50,σ 51,σ 52,σ 53,σ 54,σ 55,σ 56,σ 57] →
 (0 : Int) ≤ 0 →
 (0 : Int) ≤ iv (σ 22) →
 (iv (σ 22) : Int) ≤ (sgB.size : Nat) →
 tv (σ 59) = sgB.extract (0 : Int).toNat (iv (σ 22) : Int).toNat →
 (0 : Int) ≤ iv (σ 38) →
    ((tv (σ 33))[(iv (σ 38) : Int).toNat]?.map (fun b => (b.toNat : Int)) = some (iv (σ 61))) →
 ¬ ixbRPre [σ 59,σ 61] →
 0 ≤ iv (σ 38) →
 iv (σ 38) < iv (σ 34) →
 bv (σ 32) = true →
 iv (σ 28) ≤ 32768 →
 bv (σ 27) = true →
    False
def deciR_L8 : Prop := ∀ σ : Nat → Value,
 σ 0 = (vS #[68,69,67,73,77,65,76]) →
 σ 2 = vF →
 σ 3 = vF →
 σ 4 = vO →
 σ 5 = vO →
 σ 7 = vZ →
 σ 8 = vZ →
 σ 9 = (vI 2) →
 σ 10 = (vG 0) →
 tS (σ 11) →
 σ 12 = vF →
 σ 13 = vZ →
 σ 14 = vF →
 σ 15 = vF →
 σ 16 = vO →
 σ 17 = vO →
 σ 19 = vZ →
 σ 20 = vZ →
 σ 21 = vO →
 tI (σ 22) →
 2 ≤ iv (σ 22) →
 iv (σ 22) ≤ 36 →
 tF (σ 23) →
 σ 24 = vE →
 σ 25 = vF →
 σ 26 = vZ →
 tI (σ 28) →
 0 ≤ iv (σ 28) →
 iv (σ 28) ≤ 32768 →
 tU (σ 30) →
 tU (σ 31) →
 tS (σ 33) →
    (∀ x ∈ ([⟨#[]⟩] : List ByteArray), (tv (σ 33)).toList ≠ x.toList) →
 tI (σ 34) →
 0 ≤ iv (σ 34) →
 tF (σ 35) →
 tI (σ 38) →
 σ 60 = .int .u8 (iv (σ 60)) →
 0 ≤ iv (σ 60) →
 iv (σ 60) ≤ 255 →
 tS (σ 61) →
 fv (σ 23) = nE (iv (σ 22)) →
 deciRPre [(vS #[68,69,67,73,77,65,76]),vU, vF, vF, vO, vO,vU,vZ,vZ, (vI 2), (vG 0),σ 11, vF,vZ, vF, vF, vO, vO,vU,vZ,vZ, vO,σ 22,σ 23, vE, vF,vZ] →
 vldR [σ 11,σ 27] →
 iv (σ 28) = ((tv (σ 11)).size : Nat) →
 extRel .fbits [σ 23] (σ 30) →
 aN (σ 30) (σ 31) →
 vldR [σ 11,σ 32] →
 uppR [σ 11,σ 33] →
 iv (σ 34) = ((tv (σ 33)).size : Nat) →
 deciI [σ 33,σ 23,σ 35,σ 36,σ 37,σ 38,σ 39,σ 40,σ 41,σ 42,σ 43,σ 44,σ 45,σ 46,σ 47,σ 48,σ 49,σ 50,σ 51,σ 52,σ 53,σ 54,σ 55,σ 56,σ 57] →
 (0 : Int) ≤ iv (σ 38) →
    ((tv (σ 33))[(iv (σ 38) : Int).toNat]?.map (fun b => (b.toNat : Int)) = some (iv (σ 60))) →
 (0 : Int) ≤ 0 →
 (0 : Int) ≤ iv (σ 22) →
 (iv (σ 22) : Int) ≤ (sgB.size : Nat) →
 tv (σ 61) = sgB.extract (0 : Int).toNat (iv (σ 22) : Int).toNat →
 ¬ ixbRPre [σ 61,σ 60] →
 0 ≤ iv (σ 38) →
 iv (σ 38) < iv (σ 34) →
 bv (σ 32) = true →
 iv (σ 28) ≤ 32768 →
 bv (σ 27) = true →
    False
def deciR_L10 : Prop := ∀ σ : Nat → Value,
 σ 0 = (vS #[68,69,67,73,77,65,76]) →
 σ 2 = vF →
 σ 3 = vF →
 σ 4 = vO →
 σ 5 = vO →
 σ 7 = vZ →
 σ 8 = vZ →
 σ 9 = (vI 2) →
 σ 10 = (vG 0) →
 tS (σ 11) →
 σ 12 = vF →
 σ 13 = vZ →
 σ 14 = vF →
 σ 15 = vF →
 σ 16 = vO →
 σ 17 = vO →
 σ 19 = vZ →
 σ 20 = vZ →
 σ 21 = vO →
 tI (σ 22) →
 2 ≤ iv (σ 22) →
 iv (σ 22) ≤ 36 →
 tF (σ 23) →
 σ 24 = vE →
 σ 25 = vF →
 σ 26 = vZ →
 tI (σ 28) →
 0 ≤ iv (σ 28) →
 iv (σ 28) ≤ 32768 →
 tU (σ 30) →
 tU (σ 31) →
 tS (σ 33) →
    (∀ x ∈ ([⟨#[]⟩] : List ByteArray), (tv (σ 33)).toList ≠ x.toList) →
 tI (σ 34) →
 0 ≤ iv (σ 34) →
 tF (σ 35) →
 tI (σ 38) →
 tS (σ 59) →
 σ 61 = .int .u8 (iv (σ 61)) →
 0 ≤ iv (σ 61) →
 iv (σ 61) ≤ 255 →
 tI (σ 62) →
 iv (σ 62) ≤ (-1) →
 fv (σ 23) = nE (iv (σ 22)) →
 deciRPre [(vS #[68,69,67,73,77,65,76]),vU, vF, vF, vO, vO,vU,vZ,vZ, (vI 2), (vG 0),σ 11, vF,vZ, vF, vF, vO, vO,vU,vZ,vZ, vO,σ 22,σ 23, vE, vF,vZ] →
 vldR [σ 11,σ 27] →
 iv (σ 28) = ((tv (σ 11)).size : Nat) →
 extRel .fbits [σ 23] (σ 30) →
 aN (σ 30) (σ 31) →
 vldR [σ 11,σ 32] →
 uppR [σ 11,σ 33] →
 iv (σ 34) = ((tv (σ 33)).size : Nat) →
 deciI [σ 33,σ 23,σ 35,σ 36,σ 37,σ 38,σ 39,σ 40,σ 41,σ 42,σ 43,σ 44,σ 45,σ 46,σ 47,σ 48,σ 49,σ 50,σ 51,σ 52,σ 53,σ 54,σ 55,σ 56,σ 57] →
 (0 : Int) ≤ 0 →
 (0 : Int) ≤ iv (σ 22) →
 (iv (σ 22) : Int) ≤ (sgB.size : Nat) →
 tv (σ 59) = sgB.extract (0 : Int).toNat (iv (σ 22) : Int).toNat →
 (0 : Int) ≤ iv (σ 38) →
    ((tv (σ 33))[(iv (σ 38) : Int).toNat]?.map (fun b => (b.toNat : Int)) = some (iv (σ 61))) →
 ixbR [σ 59,σ 61,σ 62] →
 iv (σ 62) < 0 →
 bv (σ 63) = !true →
 0 ≤ iv (σ 38) →
 iv (σ 38) < iv (σ 34) →
 bv (σ 32) = true →
 iv (σ 28) ≤ 32768 →
 bv (σ 27) = true →
    False
def deciR_L11 : Prop := ∀ σ : Nat → Value,
 σ 0 = (vS #[68,69,67,73,77,65,76]) →
 σ 2 = vF →
 σ 3 = vF →
 σ 4 = vO →
 σ 5 = vO →
 σ 7 = vZ →
 σ 8 = vZ →
 σ 9 = (vI 2) →
 σ 10 = (vG 0) →
 tS (σ 11) →
 σ 12 = vF →
 σ 13 = vZ →
 σ 14 = vF →
 σ 15 = vF →
 σ 16 = vO →
 σ 17 = vO →
 σ 19 = vZ →
 σ 20 = vZ →
 σ 21 = vO →
 tI (σ 22) →
 2 ≤ iv (σ 22) →
 iv (σ 22) ≤ 36 →
 tF (σ 23) →
 σ 24 = vE →
 σ 25 = vF →
 σ 26 = vZ →
 tI (σ 28) →
 0 ≤ iv (σ 28) →
 iv (σ 28) ≤ 32768 →
 tU (σ 30) →
 tU (σ 31) →
 tS (σ 33) →
    (∀ x ∈ ([⟨#[]⟩] : List ByteArray), (tv (σ 33)).toList ≠ x.toList) →
 tI (σ 34) →
 0 ≤ iv (σ 34) →
 tF (σ 35) →
 tI (σ 38) →
 tS (σ 59) →
 σ 61 = .int .u8 (iv (σ 61)) →
 0 ≤ iv (σ 61) →
 iv (σ 61) ≤ 255 →
 tI (σ 62) →
 0 ≤ iv (σ 62) →
 tF (σ 65) →
 tF (σ 66) →
 tF (σ 67) →
 tI (σ 69) →
 fv (σ 23) = nE (iv (σ 22)) →
 deciRPre [(vS #[68,69,67,73,77,65,76]),vU, vF, vF, vO, vO,vU,vZ,vZ, (vI 2), (vG 0),σ 11, vF,vZ, vF, vF, vO, vO,vU,vZ,vZ, vO,σ 22,σ 23, vE, vF,vZ] →
 vldR [σ 11,σ 27] →
 iv (σ 28) = ((tv (σ 11)).size : Nat) →
 extRel .fbits [σ 23] (σ 30) →
 aN (σ 30) (σ 31) →
 vldR [σ 11,σ 32] →
 uppR [σ 11,σ 33] →
 iv (σ 34) = ((tv (σ 33)).size : Nat) →
 deciI [σ 33,σ 23,σ 35,σ 36,σ 37,σ 38,σ 39,σ 40,σ 41,σ 42,σ 43,σ 44,σ 45,σ 46,σ 47,σ 48,σ 49,σ 50,σ 51,σ 52,σ 53,σ 54,σ 55,σ 56,σ 57] →
 (0 : Int) ≤ 0 →
 (0 : Int) ≤ iv (σ 22) →
 (iv (σ 22) : Int) ≤ (sgB.size : Nat) →
 tv (σ 59) = sgB.extract (0 : Int).toNat (iv (σ 22) : Int).toNat →
 (0 : Int) ≤ iv (σ 38) →
    ((tv (σ 33))[(iv (σ 38) : Int).toNat]?.map (fun b => (b.toNat : Int)) = some (iv (σ 61))) →
 ixbR [σ 59,σ 61,σ 62] →
 (farV .mul .f64 (fv (σ 35)) (fv (σ 23)) = some (some (fv (σ 65))) ∨ (farV .mul .f64 (fv (σ 35)) (fv (σ 23)) = some none ∧ Nan64 (fv (σ 65)))) →
 fv (σ 66) = nE (iv (σ 62)) →
 (farV .add .f64 (fv (σ 65)) (fv (σ 66)) = some (some (fv (σ 67))) ∨ (farV .add .f64 (fv (σ 65)) (fv (σ 66)) = some none ∧ Nan64 (fv (σ 67)))) →
 iv (σ 69) = IntKind.i64.wrap (iv (σ 38) + 1) →
    ((fitsL [.any, .any, .float .f64, .any, .any, .int .i64, .any, .any, .any, .any, .any, .any, .any, .any, .any, .any, .any, .any, .any, .any, .any, .any, .any, .any, .any] [σ 33,σ 23,σ 67,σ 38,σ 62,σ 69,σ 58,σ 38,σ 23,σ 22,σ 59,σ 33,σ 38,σ 61,σ 62,σ 62,σ 63,σ 35,σ 23,σ 65,σ 62,σ 66,σ 67,σ 67,σ 69] → deciI [σ 33,σ 23,σ 67,σ 38,σ 62,σ 69,σ 58,σ 38,σ 23,σ 22,σ 59,σ 33,σ 38,σ 61,σ 62,σ 62,σ 63,σ 35,σ 23,σ 65,σ 62,σ 66,σ 67,σ 67,σ 69] → ¬ deciIM [σ 33,σ 23,σ 67,σ 38,σ 62,σ 69,σ 58,σ 38,σ 23,σ 22,σ 59,σ 33,σ 38,σ 61,σ 62,σ 62,σ 63,σ 35,σ 23,σ 65,σ 62,σ 66,σ 67,σ 67,σ 69] < deciIM [σ 33,σ 23,σ 35,σ 36,σ 37,σ 38,σ 39,σ 40,σ 41,σ 42,σ 43,σ 44,σ 45,σ 46,σ 47,σ 48,σ 49,σ 50,σ 51,σ 52,σ 53,σ 54,σ 55,σ 56,σ 57])) →
 ford (fv (σ 67)) (4850376798678024192) = some .lt →
 0 ≤ iv (σ 62) →
 bv (σ 63) = !false →
 0 ≤ iv (σ 38) →
 iv (σ 38) < iv (σ 34) →
 bv (σ 32) = true →
 iv (σ 28) ≤ 32768 →
 bv (σ 27) = true →
    False
def deciR_L12 : Prop := ∀ σ : Nat → Value,
 σ 0 = (vS #[68,69,67,73,77,65,76]) →
 σ 2 = vF →
 σ 3 = vF →
 σ 4 = vO →
 σ 5 = vO →
 σ 7 = vZ →
 σ 8 = vZ →
 σ 9 = (vI 2) →
 σ 10 = (vG 0) →
 tS (σ 11) →
 σ 12 = vF →
 σ 13 = vZ →
 σ 14 = vF →
 σ 15 = vF →
 σ 16 = vO →
 σ 17 = vO →
 σ 19 = vZ →
 σ 20 = vZ →
 σ 21 = vO →
 tI (σ 22) →
 2 ≤ iv (σ 22) →
 iv (σ 22) ≤ 36 →
 tF (σ 23) →
 σ 24 = vE →
 σ 25 = vF →
 σ 26 = vZ →
 tI (σ 28) →
 0 ≤ iv (σ 28) →
 iv (σ 28) ≤ 32768 →
 tU (σ 30) →
 tU (σ 31) →
 tS (σ 33) →
    (∀ x ∈ ([⟨#[]⟩] : List ByteArray), (tv (σ 33)).toList ≠ x.toList) →
 tI (σ 34) →
 0 ≤ iv (σ 34) →
 tF (σ 35) →
 tI (σ 38) →
 tS (σ 59) →
 σ 61 = .int .u8 (iv (σ 61)) →
 0 ≤ iv (σ 61) →
 iv (σ 61) ≤ 255 →
 tI (σ 62) →
 0 ≤ iv (σ 62) →
 tF (σ 65) →
 tF (σ 66) →
 tF (σ 67) →
 tI (σ 70) →
 fv (σ 23) = nE (iv (σ 22)) →
 deciRPre [(vS #[68,69,67,73,77,65,76]),vU, vF, vF, vO, vO,vU,vZ,vZ, (vI 2), (vG 0),σ 11, vF,vZ, vF, vF, vO, vO,vU,vZ,vZ, vO,σ 22,σ 23, vE, vF,vZ] →
 vldR [σ 11,σ 27] →
 iv (σ 28) = ((tv (σ 11)).size : Nat) →
 extRel .fbits [σ 23] (σ 30) →
 aN (σ 30) (σ 31) →
 vldR [σ 11,σ 32] →
 uppR [σ 11,σ 33] →
 iv (σ 34) = ((tv (σ 33)).size : Nat) →
 deciI [σ 33,σ 23,σ 35,σ 36,σ 37,σ 38,σ 39,σ 40,σ 41,σ 42,σ 43,σ 44,σ 45,σ 46,σ 47,σ 48,σ 49,σ 50,σ 51,σ 52,σ 53,σ 54,σ 55,σ 56,σ 57] →
 (0 : Int) ≤ 0 →
 (0 : Int) ≤ iv (σ 22) →
 (iv (σ 22) : Int) ≤ (sgB.size : Nat) →
 tv (σ 59) = sgB.extract (0 : Int).toNat (iv (σ 22) : Int).toNat →
 (0 : Int) ≤ iv (σ 38) →
    ((tv (σ 33))[(iv (σ 38) : Int).toNat]?.map (fun b => (b.toNat : Int)) = some (iv (σ 61))) →
 ixbR [σ 59,σ 61,σ 62] →
 (farV .mul .f64 (fv (σ 35)) (fv (σ 23)) = some (some (fv (σ 65))) ∨ (farV .mul .f64 (fv (σ 35)) (fv (σ 23)) = some none ∧ Nan64 (fv (σ 65)))) →
 fv (σ 66) = nE (iv (σ 62)) →
 (farV .add .f64 (fv (σ 65)) (fv (σ 66)) = some (some (fv (σ 67))) ∨ (farV .add .f64 (fv (σ 65)) (fv (σ 66)) = some none ∧ Nan64 (fv (σ 67)))) →
 iv (σ 70) = IntKind.i64.wrap (iv (σ 38) + 1) →
    ((fitsL [.any, .any, .float .f64, .any, .any, .int .i64, .any, .any, .any, .any, .any, .any, .any, .any, .any, .any, .any, .any, .any, .any, .any, .any, .any, .any, .any] [σ 33,σ 23, (vG 4850376798678024192),σ 38,σ 62,σ 70,σ 58,σ 38,σ 23,σ 22,σ 59,σ 33,σ 38,σ 61,σ 62,σ 62,σ 63,σ 35,σ 23,σ 65,σ 62,σ 66,σ 67, (vG 4850376798678024192),σ 70] → deciI [σ 33,σ 23, (vG 4850376798678024192),σ 38,σ 62,σ 70,σ 58,σ 38,σ 23,σ 22,σ 59,σ 33,σ 38,σ 61,σ 62,σ 62,σ 63,σ 35,σ 23,σ 65,σ 62,σ 66,σ 67, (vG 4850376798678024192),σ 70] → ¬ deciIM [σ 33,σ 23, (vG 4850376798678024192),σ 38,σ 62,σ 70,σ 58,σ 38,σ 23,σ 22,σ 59,σ 33,σ 38,σ 61,σ 62,σ 62,σ 63,σ 35,σ 23,σ 65,σ 62,σ 66,σ 67, (vG 4850376798678024192),σ 70] < deciIM [σ 33,σ 23,σ 35,σ 36,σ 37,σ 38,σ 39,σ 40,σ 41,σ 42,σ 43,σ 44,σ 45,σ 46,σ 47,σ 48,σ 49,σ 50,σ 51,σ 52,σ 53,σ 54,σ 55,σ 56,σ 57])) →
 ford (fv (σ 67)) (4850376798678024192) = some .gt →
 ford (fv (σ 67)) (4850376798678024192) ≠ some .lt →
 0 ≤ iv (σ 62) →
 bv (σ 63) = !false →
 0 ≤ iv (σ 38) →
 iv (σ 38) < iv (σ 34) →
 bv (σ 32) = true →
 iv (σ 28) ≤ 32768 →
 bv (σ 27) = true →
    False
def deciR_L13 : Prop := ∀ σ : Nat → Value,
 σ 0 = (vS #[68,69,67,73,77,65,76]) →
 σ 2 = vF →
 σ 3 = vF →
 σ 4 = vO →
 σ 5 = vO →
 σ 7 = vZ →
 σ 8 = vZ →
 σ 9 = (vI 2) →
 σ 10 = (vG 0) →
 tS (σ 11) →
 σ 12 = vF →
 σ 13 = vZ →
 σ 14 = vF →
 σ 15 = vF →
 σ 16 = vO →
 σ 17 = vO →
 σ 19 = vZ →
 σ 20 = vZ →
 σ 21 = vO →
 tI (σ 22) →
 2 ≤ iv (σ 22) →
 iv (σ 22) ≤ 36 →
 tF (σ 23) →
 σ 24 = vE →
 σ 25 = vF →
 σ 26 = vZ →
 tI (σ 28) →
 0 ≤ iv (σ 28) →
 iv (σ 28) ≤ 32768 →
 tU (σ 30) →
 tU (σ 31) →
 tS (σ 33) →
    (∀ x ∈ ([⟨#[]⟩] : List ByteArray), (tv (σ 33)).toList ≠ x.toList) →
 tI (σ 34) →
 0 ≤ iv (σ 34) →
 tF (σ 35) →
 tI (σ 38) →
 tS (σ 59) →
 σ 61 = .int .u8 (iv (σ 61)) →
 0 ≤ iv (σ 61) →
 iv (σ 61) ≤ 255 →
 tI (σ 62) →
 0 ≤ iv (σ 62) →
 tF (σ 65) →
 tF (σ 66) →
 tF (σ 67) →
 fv (σ 23) = nE (iv (σ 22)) →
 deciRPre [(vS #[68,69,67,73,77,65,76]),vU, vF, vF, vO, vO,vU,vZ,vZ, (vI 2), (vG 0),σ 11, vF,vZ, vF, vF, vO, vO,vU,vZ,vZ, vO,σ 22,σ 23, vE, vF,vZ] →
 vldR [σ 11,σ 27] →
 iv (σ 28) = ((tv (σ 11)).size : Nat) →
 extRel .fbits [σ 23] (σ 30) →
 aN (σ 30) (σ 31) →
 vldR [σ 11,σ 32] →
 uppR [σ 11,σ 33] →
 iv (σ 34) = ((tv (σ 33)).size : Nat) →
 deciI [σ 33,σ 23,σ 35,σ 36,σ 37,σ 38,σ 39,σ 40,σ 41,σ 42,σ 43,σ 44,σ 45,σ 46,σ 47,σ 48,σ 49,σ 50,σ 51,σ 52,σ 53,σ 54,σ 55,σ 56,σ 57] →
 (0 : Int) ≤ 0 →
 (0 : Int) ≤ iv (σ 22) →
 (iv (σ 22) : Int) ≤ (sgB.size : Nat) →
 tv (σ 59) = sgB.extract (0 : Int).toNat (iv (σ 22) : Int).toNat →
 (0 : Int) ≤ iv (σ 38) →
    ((tv (σ 33))[(iv (σ 38) : Int).toNat]?.map (fun b => (b.toNat : Int)) = some (iv (σ 61))) →
 ixbR [σ 59,σ 61,σ 62] →
 (farV .mul .f64 (fv (σ 35)) (fv (σ 23)) = some (some (fv (σ 65))) ∨ (farV .mul .f64 (fv (σ 35)) (fv (σ 23)) = some none ∧ Nan64 (fv (σ 65)))) →
 fv (σ 66) = nE (iv (σ 62)) →
 (farV .add .f64 (fv (σ 65)) (fv (σ 66)) = some (some (fv (σ 67))) ∨ (farV .add .f64 (fv (σ 65)) (fv (σ 66)) = some none ∧ Nan64 (fv (σ 67)))) →
 ford (fv (σ 67)) (4850376798678024192) ≠ some .gt →
 ford (fv (σ 67)) (4850376798678024192) ≠ some .lt →
 0 ≤ iv (σ 62) →
 bv (σ 63) = !false →
 0 ≤ iv (σ 38) →
 iv (σ 38) < iv (σ 34) →
 bv (σ 32) = true →
 iv (σ 28) ≤ 32768 →
 bv (σ 27) = true →
    False
def deciR_L14 : Prop := ∀ σ : Nat → Value,
 σ 0 = (vS #[68,69,67,73,77,65,76]) →
 σ 2 = vF →
 σ 3 = vF →
 σ 4 = vO →
 σ 5 = vO →
 σ 7 = vZ →
 σ 8 = vZ →
 σ 9 = (vI 2) →
 σ 10 = (vG 0) →
 tS (σ 11) →
 σ 12 = vF →
 σ 13 = vZ →
 σ 14 = vF →
 σ 15 = vF →
 σ 16 = vO →
 σ 17 = vO →
 σ 19 = vZ →
 σ 20 = vZ →
 σ 21 = vO →
 tI (σ 22) →
 2 ≤ iv (σ 22) →
 iv (σ 22) ≤ 36 →
 tF (σ 23) →
 σ 24 = vE →
 σ 25 = vF →
 σ 26 = vZ →
 tI (σ 28) →
 0 ≤ iv (σ 28) →
 iv (σ 28) ≤ 32768 →
 tU (σ 30) →
 tU (σ 31) →
 tS (σ 33) →
    (∀ x ∈ ([⟨#[]⟩] : List ByteArray), (tv (σ 33)).toList ≠ x.toList) →
 tI (σ 34) →
 0 ≤ iv (σ 34) →
 tF (σ 35) →
 tI (σ 38) →
 σ 60 = .int .u8 (iv (σ 60)) →
 0 ≤ iv (σ 60) →
 iv (σ 60) ≤ 255 →
 tS (σ 61) →
 tI (σ 62) →
 iv (σ 62) ≤ (-1) →
 fv (σ 23) = nE (iv (σ 22)) →
 deciRPre [(vS #[68,69,67,73,77,65,76]),vU, vF, vF, vO, vO,vU,vZ,vZ, (vI 2), (vG 0),σ 11, vF,vZ, vF, vF, vO, vO,vU,vZ,vZ, vO,σ 22,σ 23, vE, vF,vZ] →
 vldR [σ 11,σ 27] →
 iv (σ 28) = ((tv (σ 11)).size : Nat) →
 extRel .fbits [σ 23] (σ 30) →
 aN (σ 30) (σ 31) →
 vldR [σ 11,σ 32] →
 uppR [σ 11,σ 33] →
 iv (σ 34) = ((tv (σ 33)).size : Nat) →
 deciI [σ 33,σ 23,σ 35,σ 36,σ 37,σ 38,σ 39,σ 40,σ 41,σ 42,σ 43,σ 44,σ 45,σ 46,σ 47,σ 48,σ 49,σ 50,σ 51,σ 52,σ 53,σ 54,σ 55,σ 56,σ 57] →
 (0 : Int) ≤ iv (σ 38) →
    ((tv (σ 33))[(iv (σ 38) : Int).toNat]?.map (fun b => (b.toNat : Int)) = some (iv (σ 60))) →
 (0 : Int) ≤ 0 →
 (0 : Int) ≤ iv (σ 22) →
 (iv (σ 22) : Int) ≤ (sgB.size : Nat) →
 tv (σ 61) = sgB.extract (0 : Int).toNat (iv (σ 22) : Int).toNat →
 ixbR [σ 61,σ 60,σ 62] →
 iv (σ 62) < 0 →
 bv (σ 63) = !true →
 0 ≤ iv (σ 38) →
 iv (σ 38) < iv (σ 34) →
 bv (σ 32) = true →
 iv (σ 28) ≤ 32768 →
 bv (σ 27) = true →
    False
def deciR_L15 : Prop := ∀ σ : Nat → Value,
 σ 0 = (vS #[68,69,67,73,77,65,76]) →
 σ 2 = vF →
 σ 3 = vF →
 σ 4 = vO →
 σ 5 = vO →
 σ 7 = vZ →
 σ 8 = vZ →
 σ 9 = (vI 2) →
 σ 10 = (vG 0) →
 tS (σ 11) →
 σ 12 = vF →
 σ 13 = vZ →
 σ 14 = vF →
 σ 15 = vF →
 σ 16 = vO →
 σ 17 = vO →
 σ 19 = vZ →
 σ 20 = vZ →
 σ 21 = vO →
 tI (σ 22) →
 2 ≤ iv (σ 22) →
 iv (σ 22) ≤ 36 →
 tF (σ 23) →
 σ 24 = vE →
 σ 25 = vF →
 σ 26 = vZ →
 tI (σ 28) →
 0 ≤ iv (σ 28) →
 iv (σ 28) ≤ 32768 →
 tU (σ 30) →
 tU (σ 31) →
 tS (σ 33) →
    (∀ x ∈ ([⟨#[]⟩] : List ByteArray), (tv (σ 33)).toList ≠ x.toList) →
 tI (σ 34) →
 0 ≤ iv (σ 34) →
 tF (σ 35) →
 tI (σ 38) →
 σ 60 = .int .u8 (iv (σ 60)) →
 0 ≤ iv (σ 60) →
 iv (σ 60) ≤ 255 →
 tS (σ 61) →
 tI (σ 62) →
 0 ≤ iv (σ 62) →
 tF (σ 65) →
 tF (σ 66) →
 tF (σ 67) →
 tI (σ 69) →
 fv (σ 23) = nE (iv (σ 22)) →
 deciRPre [(vS #[68,69,67,73,77,65,76]),vU, vF, vF, vO, vO,vU,vZ,vZ, (vI 2), (vG 0),σ 11, vF,vZ, vF, vF, vO, vO,vU,vZ,vZ, vO,σ 22,σ 23, vE, vF,vZ] →
 vldR [σ 11,σ 27] →
 iv (σ 28) = ((tv (σ 11)).size : Nat) →
 extRel .fbits [σ 23] (σ 30) →
 aN (σ 30) (σ 31) →
 vldR [σ 11,σ 32] →
 uppR [σ 11,σ 33] →
 iv (σ 34) = ((tv (σ 33)).size : Nat) →
 deciI [σ 33,σ 23,σ 35,σ 36,σ 37,σ 38,σ 39,σ 40,σ 41,σ 42,σ 43,σ 44,σ 45,σ 46,σ 47,σ 48,σ 49,σ 50,σ 51,σ 52,σ 53,σ 54,σ 55,σ 56,σ 57] →
 (0 : Int) ≤ iv (σ 38) →
    ((tv (σ 33))[(iv (σ 38) : Int).toNat]?.map (fun b => (b.toNat : Int)) = some (iv (σ 60))) →
 (0 : Int) ≤ 0 →
 (0 : Int) ≤ iv (σ 22) →
 (iv (σ 22) : Int) ≤ (sgB.size : Nat) →
 tv (σ 61) = sgB.extract (0 : Int).toNat (iv (σ 22) : Int).toNat →
 ixbR [σ 61,σ 60,σ 62] →
 (farV .mul .f64 (fv (σ 35)) (fv (σ 23)) = some (some (fv (σ 65))) ∨ (farV .mul .f64 (fv (σ 35)) (fv (σ 23)) = some none ∧ Nan64 (fv (σ 65)))) →
 fv (σ 66) = nE (iv (σ 62)) →
 (farV .add .f64 (fv (σ 65)) (fv (σ 66)) = some (some (fv (σ 67))) ∨ (farV .add .f64 (fv (σ 65)) (fv (σ 66)) = some none ∧ Nan64 (fv (σ 67)))) →
 iv (σ 69) = IntKind.i64.wrap (iv (σ 38) + 1) →
    ((fitsL [.any, .any, .float .f64, .any, .any, .int .i64, .any, .any, .any, .any, .any, .any, .any, .any, .any, .any, .any, .any, .any, .any, .any, .any, .any, .any, .any] [σ 33,σ 23,σ 67,σ 38,σ 62,σ 69,σ 58,σ 38,σ 23,σ 22,σ 61,σ 33,σ 38,σ 60,σ 62,σ 62,σ 63,σ 35,σ 23,σ 65,σ 62,σ 66,σ 67,σ 67,σ 69] → deciI [σ 33,σ 23,σ 67,σ 38,σ 62,σ 69,σ 58,σ 38,σ 23,σ 22,σ 61,σ 33,σ 38,σ 60,σ 62,σ 62,σ 63,σ 35,σ 23,σ 65,σ 62,σ 66,σ 67,σ 67,σ 69] → ¬ deciIM [σ 33,σ 23,σ 67,σ 38,σ 62,σ 69,σ 58,σ 38,σ 23,σ 22,σ 61,σ 33,σ 38,σ 60,σ 62,σ 62,σ 63,σ 35,σ 23,σ 65,σ 62,σ 66,σ 67,σ 67,σ 69] < deciIM [σ 33,σ 23,σ 35,σ 36,σ 37,σ 38,σ 39,σ 40,σ 41,σ 42,σ 43,σ 44,σ 45,σ 46,σ 47,σ 48,σ 49,σ 50,σ 51,σ 52,σ 53,σ 54,σ 55,σ 56,σ 57])) →
 ford (fv (σ 67)) (4850376798678024192) = some .lt →
 0 ≤ iv (σ 62) →
 bv (σ 63) = !false →
 0 ≤ iv (σ 38) →
 iv (σ 38) < iv (σ 34) →
 bv (σ 32) = true →
 iv (σ 28) ≤ 32768 →
 bv (σ 27) = true →
    False
def deciR_L16 : Prop := ∀ σ : Nat → Value,
 σ 0 = (vS #[68,69,67,73,77,65,76]) →
 σ 2 = vF →
 σ 3 = vF →
 σ 4 = vO →
 σ 5 = vO →
 σ 7 = vZ →
 σ 8 = vZ →
 σ 9 = (vI 2) →
 σ 10 = (vG 0) →
 tS (σ 11) →
 σ 12 = vF →
 σ 13 = vZ →
 σ 14 = vF →
 σ 15 = vF →
 σ 16 = vO →
 σ 17 = vO →
 σ 19 = vZ →
 σ 20 = vZ →
 σ 21 = vO →
 tI (σ 22) →
 2 ≤ iv (σ 22) →
 iv (σ 22) ≤ 36 →
 tF (σ 23) →
 σ 24 = vE →
 σ 25 = vF →
 σ 26 = vZ →
 tI (σ 28) →
 0 ≤ iv (σ 28) →
 iv (σ 28) ≤ 32768 →
 tU (σ 30) →
 tU (σ 31) →
 tS (σ 33) →
    (∀ x ∈ ([⟨#[]⟩] : List ByteArray), (tv (σ 33)).toList ≠ x.toList) →
 tI (σ 34) →
 0 ≤ iv (σ 34) →
 tF (σ 35) →
 tI (σ 38) →
 σ 60 = .int .u8 (iv (σ 60)) →
 0 ≤ iv (σ 60) →
 iv (σ 60) ≤ 255 →
 tS (σ 61) →
 tI (σ 62) →
 0 ≤ iv (σ 62) →
 tF (σ 65) →
 tF (σ 66) →
 tF (σ 67) →
 tI (σ 70) →
 fv (σ 23) = nE (iv (σ 22)) →
 deciRPre [(vS #[68,69,67,73,77,65,76]),vU, vF, vF, vO, vO,vU,vZ,vZ, (vI 2), (vG 0),σ 11, vF,vZ, vF, vF, vO, vO,vU,vZ,vZ, vO,σ 22,σ 23, vE, vF,vZ] →
 vldR [σ 11,σ 27] →
 iv (σ 28) = ((tv (σ 11)).size : Nat) →
 extRel .fbits [σ 23] (σ 30) →
 aN (σ 30) (σ 31) →
 vldR [σ 11,σ 32] →
 uppR [σ 11,σ 33] →
 iv (σ 34) = ((tv (σ 33)).size : Nat) →
 deciI [σ 33,σ 23,σ 35,σ 36,σ 37,σ 38,σ 39,σ 40,σ 41,σ 42,σ 43,σ 44,σ 45,σ 46,σ 47,σ 48,σ 49,σ 50,σ 51,σ 52,σ 53,σ 54,σ 55,σ 56,σ 57] →
 (0 : Int) ≤ iv (σ 38) →
    ((tv (σ 33))[(iv (σ 38) : Int).toNat]?.map (fun b => (b.toNat : Int)) = some (iv (σ 60))) →
 (0 : Int) ≤ 0 →
 (0 : Int) ≤ iv (σ 22) →
 (iv (σ 22) : Int) ≤ (sgB.size : Nat) →
 tv (σ 61) = sgB.extract (0 : Int).toNat (iv (σ 22) : Int).toNat →
 ixbR [σ 61,σ 60,σ 62] →
 (farV .mul .f64 (fv (σ 35)) (fv (σ 23)) = some (some (fv (σ 65))) ∨ (farV .mul .f64 (fv (σ 35)) (fv (σ 23)) = some none ∧ Nan64 (fv (σ 65)))) →
 fv (σ 66) = nE (iv (σ 62)) →
 (farV .add .f64 (fv (σ 65)) (fv (σ 66)) = some (some (fv (σ 67))) ∨ (farV .add .f64 (fv (σ 65)) (fv (σ 66)) = some none ∧ Nan64 (fv (σ 67)))) →
 iv (σ 70) = IntKind.i64.wrap (iv (σ 38) + 1) →
    ((fitsL [.any, .any, .float .f64, .any, .any, .int .i64, .any, .any, .any, .any, .any, .any, .any, .any, .any, .any, .any, .any, .any, .any, .any, .any, .any, .any, .any] [σ 33,σ 23, (vG 4850376798678024192),σ 38,σ 62,σ 70,σ 58,σ 38,σ 23,σ 22,σ 61,σ 33,σ 38,σ 60,σ 62,σ 62,σ 63,σ 35,σ 23,σ 65,σ 62,σ 66,σ 67, (vG 4850376798678024192),σ 70] → deciI [σ 33,σ 23, (vG 4850376798678024192),σ 38,σ 62,σ 70,σ 58,σ 38,σ 23,σ 22,σ 61,σ 33,σ 38,σ 60,σ 62,σ 62,σ 63,σ 35,σ 23,σ 65,σ 62,σ 66,σ 67, (vG 4850376798678024192),σ 70] → ¬ deciIM [σ 33,σ 23, (vG 4850376798678024192),σ 38,σ 62,σ 70,σ 58,σ 38,σ 23,σ 22,σ 61,σ 33,σ 38,σ 60,σ 62,σ 62,σ 63,σ 35,σ 23,σ 65,σ 62,σ 66,σ 67, (vG 4850376798678024192),σ 70] < deciIM [σ 33,σ 23,σ 35,σ 36,σ 37,σ 38,σ 39,σ 40,σ 41,σ 42,σ 43,σ 44,σ 45,σ 46,σ 47,σ 48,σ 49,σ 50,σ 51,σ 52,σ 53,σ 54,σ 55,σ 56,σ 57])) →
 ford (fv (σ 67)) (4850376798678024192) = some .gt →
 ford (fv (σ 67)) (4850376798678024192) ≠ some .lt →
 0 ≤ iv (σ 62) →
 bv (σ 63) = !false →
 0 ≤ iv (σ 38) →
 iv (σ 38) < iv (σ 34) →
 bv (σ 32) = true →
 iv (σ 28) ≤ 32768 →
 bv (σ 27) = true →
    False
def deciR_L17 : Prop := ∀ σ : Nat → Value,
 σ 0 = (vS #[68,69,67,73,77,65,76]) →
 σ 2 = vF →
 σ 3 = vF →
 σ 4 = vO →
 σ 5 = vO →
 σ 7 = vZ →
 σ 8 = vZ →
 σ 9 = (vI 2) →
 σ 10 = (vG 0) →
 tS (σ 11) →
 σ 12 = vF →
 σ 13 = vZ →
 σ 14 = vF →
 σ 15 = vF →
 σ 16 = vO →
 σ 17 = vO →
 σ 19 = vZ →
 σ 20 = vZ →
 σ 21 = vO →
 tI (σ 22) →
 2 ≤ iv (σ 22) →
 iv (σ 22) ≤ 36 →
 tF (σ 23) →
 σ 24 = vE →
 σ 25 = vF →
 σ 26 = vZ →
 tI (σ 28) →
 0 ≤ iv (σ 28) →
 iv (σ 28) ≤ 32768 →
 tU (σ 30) →
 tU (σ 31) →
 tS (σ 33) →
    (∀ x ∈ ([⟨#[]⟩] : List ByteArray), (tv (σ 33)).toList ≠ x.toList) →
 tI (σ 34) →
 0 ≤ iv (σ 34) →
 tF (σ 35) →
 tI (σ 38) →
 σ 60 = .int .u8 (iv (σ 60)) →
 0 ≤ iv (σ 60) →
 iv (σ 60) ≤ 255 →
 tS (σ 61) →
 tI (σ 62) →
 0 ≤ iv (σ 62) →
 tF (σ 65) →
 tF (σ 66) →
 tF (σ 67) →
 fv (σ 23) = nE (iv (σ 22)) →
 deciRPre [(vS #[68,69,67,73,77,65,76]),vU, vF, vF, vO, vO,vU,vZ,vZ, (vI 2), (vG 0),σ 11, vF,vZ, vF, vF, vO, vO,vU,vZ,vZ, vO,σ 22,σ 23, vE, vF,vZ] →
 vldR [σ 11,σ 27] →
 iv (σ 28) = ((tv (σ 11)).size : Nat) →
 extRel .fbits [σ 23] (σ 30) →
 aN (σ 30) (σ 31) →
 vldR [σ 11,σ 32] →
 uppR [σ 11,σ 33] →
 iv (σ 34) = ((tv (σ 33)).size : Nat) →
 deciI [σ 33,σ 23,σ 35,σ 36,σ 37,σ 38,σ 39,σ 40,σ 41,σ 42,σ 43,σ 44,σ 45,σ 46,σ 47,σ 48,σ 49,σ 50,σ 51,σ 52,σ 53,σ 54,σ 55,σ 56,σ 57] →
 (0 : Int) ≤ iv (σ 38) →
    ((tv (σ 33))[(iv (σ 38) : Int).toNat]?.map (fun b => (b.toNat : Int)) = some (iv (σ 60))) →
 (0 : Int) ≤ 0 →
 (0 : Int) ≤ iv (σ 22) →
 (iv (σ 22) : Int) ≤ (sgB.size : Nat) →
 tv (σ 61) = sgB.extract (0 : Int).toNat (iv (σ 22) : Int).toNat →
 ixbR [σ 61,σ 60,σ 62] →
 (farV .mul .f64 (fv (σ 35)) (fv (σ 23)) = some (some (fv (σ 65))) ∨ (farV .mul .f64 (fv (σ 35)) (fv (σ 23)) = some none ∧ Nan64 (fv (σ 65)))) →
 fv (σ 66) = nE (iv (σ 62)) →
 (farV .add .f64 (fv (σ 65)) (fv (σ 66)) = some (some (fv (σ 67))) ∨ (farV .add .f64 (fv (σ 65)) (fv (σ 66)) = some none ∧ Nan64 (fv (σ 67)))) →
 ford (fv (σ 67)) (4850376798678024192) ≠ some .gt →
 ford (fv (σ 67)) (4850376798678024192) ≠ some .lt →
 0 ≤ iv (σ 62) →
 bv (σ 63) = !false →
 0 ≤ iv (σ 38) →
 iv (σ 38) < iv (σ 34) →
 bv (σ 32) = true →
 iv (σ 28) ≤ 32768 →
 bv (σ 27) = true →
    False
def deciR_L22 : Prop := ∀ σ : Nat → Value,
 σ 0 = (vS #[68,69,67,73,77,65,76]) →
 σ 2 = vF →
 σ 3 = vF →
 σ 4 = vO →
 σ 5 = vO →
 σ 7 = vZ →
 σ 8 = vZ →
 σ 9 = (vI 2) →
 σ 10 = (vG 0) →
 tS (σ 11) →
 σ 12 = vF →
 σ 13 = vZ →
 σ 14 = vF →
 σ 15 = vF →
 σ 16 = vO →
 σ 17 = vO →
 σ 19 = vZ →
 σ 20 = vZ →
 σ 21 = vO →
 tI (σ 22) →
 2 ≤ iv (σ 22) →
 iv (σ 22) ≤ 36 →
 tF (σ 23) →
 σ 24 = vE →
 σ 25 = vF →
 σ 26 = vZ →
 tI (σ 28) →
 0 ≤ iv (σ 28) →
 iv (σ 28) ≤ 32768 →
 tU (σ 30) →
 tU (σ 31) →
 tS (σ 33) →
    (∀ x ∈ ([⟨#[]⟩] : List ByteArray), (tv (σ 33)).toList ≠ x.toList) →
 tI (σ 34) →
 0 ≤ iv (σ 34) →
 tF (σ 35) →
 tI (σ 38) →
 0 ≤ iv (σ 38) →
 fv (σ 23) = nE (iv (σ 22)) →
 deciRPre [(vS #[68,69,67,73,77,65,76]),vU, vF, vF, vO, vO,vU,vZ,vZ, (vI 2), (vG 0),σ 11, vF,vZ, vF, vF, vO, vO,vU,vZ,vZ, vO,σ 22,σ 23, vE, vF,vZ] →
 vldR [σ 11,σ 27] →
 iv (σ 28) = ((tv (σ 11)).size : Nat) →
 extRel .fbits [σ 23] (σ 30) →
 aN (σ 30) (σ 31) →
 vldR [σ 11,σ 32] →
 uppR [σ 11,σ 33] →
 iv (σ 34) = ((tv (σ 33)).size : Nat) →
 deciI [σ 33,σ 23,σ 35,σ 36,σ 37,σ 38,σ 39,σ 40,σ 41,σ 42,σ 43,σ 44,σ 45,σ 46,σ 47,σ 48,σ 49,σ 50,σ 51,σ 52,σ 53,σ 54,σ 55,σ 56,σ 57] →
 ford (fv (σ 35)) (4845873199050653696) ≠ some .lt ∧ ford (fv (σ 35)) (4845873199050653696) ≠ some .eq →
 bv (σ 59) = !true →
 iv (σ 34) ≤ iv (σ 38) →
 bv (σ 32) = true →
 iv (σ 28) ≤ 32768 →
 bv (σ 27) = true →
    False
def deciR_L23 : Prop := ∀ σ : Nat → Value,
 σ 0 = (vS #[68,69,67,73,77,65,76]) →
 σ 2 = vF →
 σ 3 = vF →
 σ 4 = vO →
 σ 5 = vO →
 σ 7 = vZ →
 σ 8 = vZ →
 σ 9 = (vI 2) →
 σ 10 = (vG 0) →
 tS (σ 11) →
 σ 12 = vF →
 σ 13 = vZ →
 σ 14 = vF →
 σ 15 = vF →
 σ 16 = vO →
 σ 17 = vO →
 σ 19 = vZ →
 σ 20 = vZ →
 σ 21 = vO →
 tI (σ 22) →
 2 ≤ iv (σ 22) →
 iv (σ 22) ≤ 36 →
 tF (σ 23) →
 σ 24 = vE →
 σ 25 = vF →
 σ 26 = vZ →
 tI (σ 28) →
 0 ≤ iv (σ 28) →
 iv (σ 28) ≤ 32768 →
 tU (σ 30) →
 tU (σ 31) →
 tS (σ 33) →
    (∀ x ∈ ([⟨#[]⟩] : List ByteArray), (tv (σ 33)).toList ≠ x.toList) →
 tI (σ 34) →
 0 ≤ iv (σ 34) →
 tF (σ 35) →
 tI (σ 38) →
 0 ≤ iv (σ 38) →
 tU (σ 63) →
 tU (σ 64) →
 tF (σ 65) →
 fv (σ 23) = nE (iv (σ 22)) →
 deciRPre [(vS #[68,69,67,73,77,65,76]),vU, vF, vF, vO, vO,vU,vZ,vZ, (vI 2), (vG 0),σ 11, vF,vZ, vF, vF, vO, vO,vU,vZ,vZ, vO,σ 22,σ 23, vE, vF,vZ] →
 vldR [σ 11,σ 27] →
 iv (σ 28) = ((tv (σ 11)).size : Nat) →
 extRel .fbits [σ 23] (σ 30) →
 aN (σ 30) (σ 31) →
 vldR [σ 11,σ 32] →
 uppR [σ 11,σ 33] →
 iv (σ 34) = ((tv (σ 33)).size : Nat) →
 deciI [σ 33,σ 23,σ 35,σ 36,σ 37,σ 38,σ 39,σ 40,σ 41,σ 42,σ 43,σ 44,σ 45,σ 46,σ 47,σ 48,σ 49,σ 50,σ 51,σ 52,σ 53,σ 54,σ 55,σ 56,σ 57] →
 extRel .fbits [σ 35] (σ 63) →
 aN (σ 63) (σ 64) →
 extRel .ffrom [σ 64] (σ 65) →
 ford (fv (σ 65)) (9218868437227405311) = some .gt →
 bv (σ 66) = !false →
 bv (σ 67) = !true →
 ford (fv (σ 35)) (fv (σ 35)) = some .eq →
 bv (σ 61) = !true →
 ford (fv (σ 35)) (4845873199050653696) = some .lt ∨ ford (fv (σ 35)) (4845873199050653696) = some .eq →
 bv (σ 59) = !false →
 iv (σ 34) ≤ iv (σ 38) →
 bv (σ 32) = true →
 iv (σ 28) ≤ 32768 →
 bv (σ 27) = true →
    False
def deciR_L24 : Prop := ∀ σ : Nat → Value,
 σ 0 = (vS #[68,69,67,73,77,65,76]) →
 σ 2 = vF →
 σ 3 = vF →
 σ 4 = vO →
 σ 5 = vO →
 σ 7 = vZ →
 σ 8 = vZ →
 σ 9 = (vI 2) →
 σ 10 = (vG 0) →
 tS (σ 11) →
 σ 12 = vF →
 σ 13 = vZ →
 σ 14 = vF →
 σ 15 = vF →
 σ 16 = vO →
 σ 17 = vO →
 σ 19 = vZ →
 σ 20 = vZ →
 σ 21 = vO →
 tI (σ 22) →
 2 ≤ iv (σ 22) →
 iv (σ 22) ≤ 36 →
 tF (σ 23) →
 σ 24 = vE →
 σ 25 = vF →
 σ 26 = vZ →
 tI (σ 28) →
 0 ≤ iv (σ 28) →
 iv (σ 28) ≤ 32768 →
 tU (σ 30) →
 tU (σ 31) →
 tS (σ 33) →
    (∀ x ∈ ([⟨#[]⟩] : List ByteArray), (tv (σ 33)).toList ≠ x.toList) →
 tI (σ 34) →
 0 ≤ iv (σ 34) →
 tF (σ 35) →
 tI (σ 38) →
 0 ≤ iv (σ 38) →
 tU (σ 63) →
 tU (σ 64) →
 tF (σ 65) →
 fv (σ 23) = nE (iv (σ 22)) →
 deciRPre [(vS #[68,69,67,73,77,65,76]),vU, vF, vF, vO, vO,vU,vZ,vZ, (vI 2), (vG 0),σ 11, vF,vZ, vF, vF, vO, vO,vU,vZ,vZ, vO,σ 22,σ 23, vE, vF,vZ] →
 vldR [σ 11,σ 27] →
 iv (σ 28) = ((tv (σ 11)).size : Nat) →
 extRel .fbits [σ 23] (σ 30) →
 aN (σ 30) (σ 31) →
 vldR [σ 11,σ 32] →
 uppR [σ 11,σ 33] →
 iv (σ 34) = ((tv (σ 33)).size : Nat) →
 deciI [σ 33,σ 23,σ 35,σ 36,σ 37,σ 38,σ 39,σ 40,σ 41,σ 42,σ 43,σ 44,σ 45,σ 46,σ 47,σ 48,σ 49,σ 50,σ 51,σ 52,σ 53,σ 54,σ 55,σ 56,σ 57] →
 extRel .fbits [σ 35] (σ 63) →
 aN (σ 63) (σ 64) →
 extRel .ffrom [σ 64] (σ 65) →
 ford (fv (σ 35)) (0) = some .eq →
 ford (fv (σ 65)) (9218868437227405311) ≠ some .gt →
 bv (σ 66) = !true →
 bv (σ 67) = !false →
 ford (fv (σ 35)) (fv (σ 35)) = some .eq →
 bv (σ 61) = !true →
 ford (fv (σ 35)) (4845873199050653696) = some .lt ∨ ford (fv (σ 35)) (4845873199050653696) = some .eq →
 bv (σ 59) = !false →
 iv (σ 34) ≤ iv (σ 38) →
 bv (σ 32) = true →
 iv (σ 28) ≤ 32768 →
 bv (σ 27) = true →
    deciR [(vS #[68,69,67,73,77,65,76]),vU, vF, vF, vO, vO,vU,vZ,vZ, (vI 2), (vG 0),σ 11, vF,vZ, vF, vF, vO, vO,vU,vZ,vZ, vO,σ 22,σ 23, vE, vF,vZ, vO, (vG 0), vE, vF,vZ, vT]
def deciR_L25 : Prop := ∀ σ : Nat → Value,
 σ 0 = (vS #[68,69,67,73,77,65,76]) →
 σ 2 = vF →
 σ 3 = vF →
 σ 4 = vO →
 σ 5 = vO →
 σ 7 = vZ →
 σ 8 = vZ →
 σ 9 = (vI 2) →
 σ 10 = (vG 0) →
 tS (σ 11) →
 σ 12 = vF →
 σ 13 = vZ →
 σ 14 = vF →
 σ 15 = vF →
 σ 16 = vO →
 σ 17 = vO →
 σ 19 = vZ →
 σ 20 = vZ →
 σ 21 = vO →
 tI (σ 22) →
 2 ≤ iv (σ 22) →
 iv (σ 22) ≤ 36 →
 tF (σ 23) →
 σ 24 = vE →
 σ 25 = vF →
 σ 26 = vZ →
 tI (σ 28) →
 0 ≤ iv (σ 28) →
 iv (σ 28) ≤ 32768 →
 tU (σ 30) →
 tU (σ 31) →
 tS (σ 33) →
    (∀ x ∈ ([⟨#[]⟩] : List ByteArray), (tv (σ 33)).toList ≠ x.toList) →
 tI (σ 34) →
 0 ≤ iv (σ 34) →
 tF (σ 35) →
 tI (σ 38) →
 0 ≤ iv (σ 38) →
 tU (σ 63) →
 tU (σ 64) →
 tF (σ 65) →
 fv (σ 23) = nE (iv (σ 22)) →
 deciRPre [(vS #[68,69,67,73,77,65,76]),vU, vF, vF, vO, vO,vU,vZ,vZ, (vI 2), (vG 0),σ 11, vF,vZ, vF, vF, vO, vO,vU,vZ,vZ, vO,σ 22,σ 23, vE, vF,vZ] →
 vldR [σ 11,σ 27] →
 iv (σ 28) = ((tv (σ 11)).size : Nat) →
 extRel .fbits [σ 23] (σ 30) →
 aN (σ 30) (σ 31) →
 vldR [σ 11,σ 32] →
 uppR [σ 11,σ 33] →
 iv (σ 34) = ((tv (σ 33)).size : Nat) →
 deciI [σ 33,σ 23,σ 35,σ 36,σ 37,σ 38,σ 39,σ 40,σ 41,σ 42,σ 43,σ 44,σ 45,σ 46,σ 47,σ 48,σ 49,σ 50,σ 51,σ 52,σ 53,σ 54,σ 55,σ 56,σ 57] →
 extRel .fbits [σ 35] (σ 63) →
 aN (σ 63) (σ 64) →
 extRel .ffrom [σ 64] (σ 65) →
 ford (fv (σ 35)) (0) ≠ some .eq →
 ford (fv (σ 65)) (9218868437227405311) ≠ some .gt →
 bv (σ 66) = !true →
 bv (σ 67) = !false →
 ford (fv (σ 35)) (fv (σ 35)) = some .eq →
 bv (σ 61) = !true →
 ford (fv (σ 35)) (4845873199050653696) = some .lt ∨ ford (fv (σ 35)) (4845873199050653696) = some .eq →
 bv (σ 59) = !false →
 iv (σ 34) ≤ iv (σ 38) →
 bv (σ 32) = true →
 iv (σ 28) ≤ 32768 →
 bv (σ 27) = true →
    deciR [(vS #[68,69,67,73,77,65,76]),vU, vF, vF, vO, vO,vU,vZ,vZ, (vI 2), (vG 0),σ 11, vF,vZ, vF, vF, vO, vO,vU,vZ,vZ, vO,σ 22,σ 23, vE, vF,vZ, vO,σ 35, vE, vF,vZ, vT]
def deciR_L26 : Prop := ∀ σ : Nat → Value,
 σ 0 = (vS #[68,69,67,73,77,65,76]) →
 σ 2 = vF →
 σ 3 = vF →
 σ 4 = vO →
 σ 5 = vO →
 σ 7 = vZ →
 σ 8 = vZ →
 σ 9 = (vI 2) →
 σ 10 = (vG 0) →
 tS (σ 11) →
 σ 12 = vF →
 σ 13 = vZ →
 σ 14 = vF →
 σ 15 = vF →
 σ 16 = vO →
 σ 17 = vO →
 σ 19 = vZ →
 σ 20 = vZ →
 σ 21 = vO →
 tI (σ 22) →
 2 ≤ iv (σ 22) →
 iv (σ 22) ≤ 36 →
 tF (σ 23) →
 σ 24 = vE →
 σ 25 = vF →
 σ 26 = vZ →
 tI (σ 28) →
 0 ≤ iv (σ 28) →
 iv (σ 28) ≤ 32768 →
 tU (σ 30) →
 tU (σ 31) →
 tS (σ 33) →
    (∀ x ∈ ([⟨#[]⟩] : List ByteArray), (tv (σ 33)).toList ≠ x.toList) →
 tI (σ 34) →
 0 ≤ iv (σ 34) →
 tF (σ 35) →
 tI (σ 38) →
 0 ≤ iv (σ 38) →
 fv (σ 23) = nE (iv (σ 22)) →
 deciRPre [(vS #[68,69,67,73,77,65,76]),vU, vF, vF, vO, vO,vU,vZ,vZ, (vI 2), (vG 0),σ 11, vF,vZ, vF, vF, vO, vO,vU,vZ,vZ, vO,σ 22,σ 23, vE, vF,vZ] →
 vldR [σ 11,σ 27] →
 iv (σ 28) = ((tv (σ 11)).size : Nat) →
 extRel .fbits [σ 23] (σ 30) →
 aN (σ 30) (σ 31) →
 vldR [σ 11,σ 32] →
 uppR [σ 11,σ 33] →
 iv (σ 34) = ((tv (σ 33)).size : Nat) →
 deciI [σ 33,σ 23,σ 35,σ 36,σ 37,σ 38,σ 39,σ 40,σ 41,σ 42,σ 43,σ 44,σ 45,σ 46,σ 47,σ 48,σ 49,σ 50,σ 51,σ 52,σ 53,σ 54,σ 55,σ 56,σ 57] →
 ford (fv (σ 35)) (fv (σ 35)) ≠ some .eq →
 bv (σ 61) = !false →
 ford (fv (σ 35)) (4845873199050653696) = some .lt ∨ ford (fv (σ 35)) (4845873199050653696) = some .eq →
 bv (σ 59) = !false →
 iv (σ 34) ≤ iv (σ 38) →
 bv (σ 32) = true →
 iv (σ 28) ≤ 32768 →
 bv (σ 27) = true →
    False
def deciR_L27 : Prop := ∀ σ : Nat → Value,
 σ 0 = (vS #[68,69,67,73,77,65,76]) →
 σ 2 = vF →
 σ 3 = vF →
 σ 4 = vO →
 σ 5 = vO →
 σ 7 = vZ →
 σ 8 = vZ →
 σ 9 = (vI 2) →
 σ 10 = (vG 0) →
 tS (σ 11) →
 σ 12 = vF →
 σ 13 = vZ →
 σ 14 = vF →
 σ 15 = vF →
 σ 16 = vO →
 σ 17 = vO →
 σ 19 = vZ →
 σ 20 = vZ →
 σ 21 = vO →
 tI (σ 22) →
 2 ≤ iv (σ 22) →
 iv (σ 22) ≤ 36 →
 tF (σ 23) →
 σ 24 = vE →
 σ 25 = vF →
 σ 26 = vZ →
 tI (σ 28) →
 0 ≤ iv (σ 28) →
 iv (σ 28) ≤ 32768 →
 tU (σ 30) →
 tU (σ 31) →
 fv (σ 23) = nE (iv (σ 22)) →
 deciRPre [(vS #[68,69,67,73,77,65,76]),vU, vF, vF, vO, vO,vU,vZ,vZ, (vI 2), (vG 0),σ 11, vF,vZ, vF, vF, vO, vO,vU,vZ,vZ, vO,σ 22,σ 23, vE, vF,vZ] →
 vldR [σ 11,σ 27] →
 iv (σ 28) = ((tv (σ 11)).size : Nat) →
 extRel .fbits [σ 23] (σ 30) →
 aN (σ 30) (σ 31) →
 vldR [σ 11,σ 32] →
 ¬ uppRPre [σ 11] →
 bv (σ 32) = true →
 iv (σ 28) ≤ 32768 →
 bv (σ 27) = true →
    False
def deciR_L28 : Prop := ∀ σ : Nat → Value,
 σ 0 = (vS #[68,69,67,73,77,65,76]) →
 σ 2 = vF →
 σ 3 = vF →
 σ 4 = vO →
 σ 5 = vO →
 σ 7 = vZ →
 σ 8 = vZ →
 σ 9 = (vI 2) →
 σ 10 = (vG 0) →
 tS (σ 11) →
 σ 12 = vF →
 σ 13 = vZ →
 σ 14 = vF →
 σ 15 = vF →
 σ 16 = vO →
 σ 17 = vO →
 σ 19 = vZ →
 σ 20 = vZ →
 σ 21 = vO →
 tI (σ 22) →
 2 ≤ iv (σ 22) →
 iv (σ 22) ≤ 36 →
 tF (σ 23) →
 σ 24 = vE →
 σ 25 = vF →
 σ 26 = vZ →
 tI (σ 28) →
 0 ≤ iv (σ 28) →
 iv (σ 28) ≤ 32768 →
 tU (σ 30) →
 tU (σ 31) →
 fv (σ 23) = nE (iv (σ 22)) →
 deciRPre [(vS #[68,69,67,73,77,65,76]),vU, vF, vF, vO, vO,vU,vZ,vZ, (vI 2), (vG 0),σ 11, vF,vZ, vF, vF, vO, vO,vU,vZ,vZ, vO,σ 22,σ 23, vE, vF,vZ] →
 vldR [σ 11,σ 27] →
 iv (σ 28) = ((tv (σ 11)).size : Nat) →
 extRel .fbits [σ 23] (σ 30) →
 aN (σ 30) (σ 31) →
 vldR [σ 11,σ 32] →
 bv (σ 32) = false →
 iv (σ 28) ≤ 32768 →
 bv (σ 27) = true →
    False
def deciR_L29 : Prop := ∀ σ : Nat → Value,
 σ 0 = (vS #[68,69,67,73,77,65,76]) →
 σ 2 = vF →
 σ 3 = vF →
 σ 4 = vO →
 σ 5 = vO →
 σ 7 = vZ →
 σ 8 = vZ →
 σ 9 = (vI 2) →
 σ 10 = (vG 0) →
 tS (σ 11) →
 σ 12 = vF →
 σ 13 = vZ →
 σ 14 = vF →
 σ 15 = vF →
 σ 16 = vO →
 σ 17 = vO →
 σ 19 = vZ →
 σ 20 = vZ →
 σ 21 = vO →
 tI (σ 22) →
 2 ≤ iv (σ 22) →
 iv (σ 22) ≤ 36 →
 tF (σ 23) →
 σ 24 = vE →
 σ 25 = vF →
 σ 26 = vZ →
 tI (σ 28) →
 0 ≤ iv (σ 28) →
 iv (σ 28) ≤ 32768 →
 tU (σ 30) →
 tU (σ 31) →
 fv (σ 23) = nE (iv (σ 22)) →
 deciRPre [(vS #[68,69,67,73,77,65,76]),vU, vF, vF, vO, vO,vU,vZ,vZ, (vI 2), (vG 0),σ 11, vF,vZ, vF, vF, vO, vO,vU,vZ,vZ, vO,σ 22,σ 23, vE, vF,vZ] →
 vldR [σ 11,σ 27] →
 iv (σ 28) = ((tv (σ 11)).size : Nat) →
 extRel .fbits [σ 23] (σ 30) →
 aN (σ 30) (σ 31) →
 ¬ vldRPre [σ 11] →
 iv (σ 28) ≤ 32768 →
 bv (σ 27) = true →
    False
def deciR_L30 : Prop := ∀ σ : Nat → Value,
 σ 0 = (vS #[68,69,67,73,77,65,76]) →
 σ 2 = vF →
 σ 3 = vF →
 σ 4 = vO →
 σ 5 = vO →
 σ 7 = vZ →
 σ 8 = vZ →
 σ 9 = (vI 2) →
 σ 10 = (vG 0) →
 tS (σ 11) →
 σ 12 = vF →
 σ 13 = vZ →
 σ 14 = vF →
 σ 15 = vF →
 σ 16 = vO →
 σ 17 = vO →
 σ 19 = vZ →
 σ 20 = vZ →
 σ 21 = vO →
 tI (σ 22) →
 2 ≤ iv (σ 22) →
 iv (σ 22) ≤ 36 →
 tF (σ 23) →
 σ 24 = vE →
 σ 25 = vF →
 σ 26 = vZ →
 fv (σ 23) = nE (iv (σ 22)) →
 deciRPre [(vS #[68,69,67,73,77,65,76]),vU, vF, vF, vO, vO,vU,vZ,vZ, (vI 2), (vG 0),σ 11, vF,vZ, vF, vF, vO, vO,vU,vZ,vZ, vO,σ 22,σ 23, vE, vF,vZ] →
 vldR [σ 11,σ 27] →
 bv (σ 27) = false →
    False
theorem deciR_tie : deciC.goals (cfgB deciC.base [vldC, ixbC, rptC, uppC]) [(34, 6, deciI_)] 2000 = (deciR_L0 ∧ deciR_L1 ∧ deciR_L2 ∧ deciR_L3 ∧ deciR_L4 ∧ deciR_L4 ∧ deciR_L6 ∧ deciR_L7 ∧ deciR_L8 ∧ deciR_L8 ∧ deciR_L10 ∧ deciR_L11 ∧ deciR_L12 ∧ deciR_L13 ∧ deciR_L14 ∧ deciR_L15 ∧ deciR_L16 ∧ deciR_L17 ∧ deciR_L14 ∧ deciR_L15 ∧ deciR_L16 ∧ deciR_L17 ∧ deciR_L22 ∧ deciR_L23 ∧ deciR_L24 ∧ deciR_L25 ∧ deciR_L26 ∧ deciR_L27 ∧ deciR_L28 ∧ deciR_L29 ∧ deciR_L30 ∧ True) := by kernel_rfl
theorem deciR_L0_ok : deciR_L0 := by
  intro σ; intros
  have p0 := ‹deciRPre _›
  obtain ⟨N, K, n53, hK, f23, k2, k36, ht, lw, dl, lw2⟩ := deci_pre (t := σ 11) (c := σ 22) (d := σ 23) p0 (by omega) (by omega) ‹_›
  have n_ := ‹¬ vldRPre _›
  exact n_ (vld_pre (by rw [ht]; omega))
theorem deciR_L1_ok : deciR_L1 := by
  intro σ; intros
  have p0 := ‹deciRPre _›
  obtain ⟨N, K, n53, hK, f23, k2, k36, ht, lw, dl, lw2⟩ := deci_pre (t := σ 11) (c := σ 22) (d := σ 23) p0 (by omega) (by omega) ‹_›
  have hq := ‹iv (σ 28) = ((tv (σ 11)).size : Nat)›
  rw [← tl_len, ht] at hq
  omega
theorem deciR_L2_ok : deciR_L2 := by
  intro σ; intros
  have p0 := ‹deciRPre _›
  obtain ⟨N, K, n53, hK, f23, k2, k36, ht, lw, dl, lw2⟩ := deci_pre (t := σ 11) (c := σ 22) (d := σ 23) p0 (by omega) (by omega) ‹_›
  have hu0 := ‹uppR [σ 11,σ 33]›
  have hu0 : tv (σ 33) = tv (σ 11) := hu0
  have hu := tl_tv hu0
  rw [ht] at hu
  have e0 := tl_none ‹σ 33 = Value.string ⟨#[]⟩›
  rw [hu] at e0
  exact dg_ne k2 N e0
theorem deciR_L3_ok : deciR_L3 := by
  intro σ; intros
  have p0 := ‹deciRPre _›
  obtain ⟨N, K, n53, hK, f23, k2, k36, ht, lw, dl, lw2⟩ := deci_pre (t := σ 11) (c := σ 22) (d := σ 23) p0 (by omega) (by omega) ‹_›
  have hu0 := ‹uppR [σ 11,σ 33]›
  have hu0 : tv (σ 33) = tv (σ 11) := hu0
  have hu := tl_tv hu0
  rw [ht] at hu
  specialize ‹fitsL _ _ → ¬ deciI _› (by (simp only [fitsL, Sort_.fits]; repeat' (first | exact True.intro | (with_reducible refine And.intro ?_ ?_) | exact ⟨_, ‹_›⟩ | exact ⟨_, rfl⟩ | exact ⟨_, ‹_›, fun a h => by cases h; omega, fun b h => by cases h; omega⟩ | exact ⟨_, rfl, fun a h => by cases h; decide, fun b h => by cases h; decide⟩)))
  have c_ := ‹¬ deciI _›
  have c : ¬ DeciI (fv (σ 23)) 0 0 (tl (σ 33)) := c_
  exact c ⟨K, N, 0, k2, k36, n53, f23, hu, rfl, Nat.zero_le _, by rw [List.take_zero]; exact nr_zero.symm⟩
theorem deciR_L4_ok : deciR_L4 := by
  intro σ; intros
  have p0 := ‹deciRPre _›
  obtain ⟨N, K, n53, hK, f23, k2, k36, ht, lw, dl, lw2⟩ := deci_pre (t := σ 11) (c := σ 22) (d := σ 23) p0 (by omega) (by omega) ‹_›
  have hu0 := ‹uppR [σ 11,σ 33]›
  have hu0 : tv (σ 33) = tv (σ 11) := hu0
  have hu := tl_tv hu0
  rw [ht] at hu
  have hI_ := ‹deciI _›
  have hI : DeciI (fv (σ 23)) (fv (σ 35)) (iv (σ 38)) (tl (σ 33)) := hI_
  obtain ⟨j, hj, hl, hf⟩ := hI.get f23 k36
  have hz := ‹iv (σ 34) = ((tv (σ 33)).size : Nat)›
  rw [← tl_len] at hz
  omega
theorem deciR_L6_ok : deciR_L6 := by
  intro σ; intros
  have p0 := ‹deciRPre _›
  obtain ⟨N, K, n53, hK, f23, k2, k36, ht, lw, dl, lw2⟩ := deci_pre (t := σ 11) (c := σ 22) (d := σ 23) p0 (by omega) (by omega) ‹_›
  have hu0 := ‹uppR [σ 11,σ 33]›
  have hu0 : tv (σ 33) = tv (σ 11) := hu0
  have hu := tl_tv hu0
  rw [ht] at hu
  have hI_ := ‹deciI _›
  have hI : DeciI (fv (σ 23)) (fv (σ 35)) (iv (σ 38)) (tl (σ 33)) := hI_
  obtain ⟨j, hj, hl, hf⟩ := hI.get f23 k36
  have hz := ‹iv (σ 34) = ((tv (σ 33)).size : Nat)›
  rw [← tl_len] at hz
  omega
theorem deciR_L7_ok : deciR_L7 := by
  intro σ; intros
  have p0 := ‹deciRPre _›
  obtain ⟨N, K, n53, hK, f23, k2, k36, ht, lw, dl, lw2⟩ := deci_pre (t := σ 11) (c := σ 22) (d := σ 23) p0 (by omega) (by omega) ‹_›
  have hu0 := ‹uppR [σ 11,σ 33]›
  have hu0 : tv (σ 33) = tv (σ 11) := hu0
  have hu := tl_tv hu0
  rw [ht] at hu
  have hI_ := ‹deciI _›
  have hI : DeciI (fv (σ 23)) (fv (σ 35)) (iv (σ 38)) (tl (σ 33)) := hI_
  obtain ⟨j, hj, hl, hf⟩ := hI.get f23 k36
  have hz := ‹iv (σ 34) = ((tv (σ 33)).size : Nat)›
  rw [← tl_len] at hz
  have n_ := ‹¬ ixbRPre _›
  exact n_ trivial
theorem deciR_L8_ok : deciR_L8 := by
  intro σ; intros
  have p0 := ‹deciRPre _›
  obtain ⟨N, K, n53, hK, f23, k2, k36, ht, lw, dl, lw2⟩ := deci_pre (t := σ 11) (c := σ 22) (d := σ 23) p0 (by omega) (by omega) ‹_›
  have hu0 := ‹uppR [σ 11,σ 33]›
  have hu0 : tv (σ 33) = tv (σ 11) := hu0
  have hu := tl_tv hu0
  rw [ht] at hu
  have hI_ := ‹deciI _›
  have hI : DeciI (fv (σ 23)) (fv (σ 35)) (iv (σ 38)) (tl (σ 33)) := hI_
  obtain ⟨j, hj, hl, hf⟩ := hI.get f23 k36
  have hz := ‹iv (σ 34) = ((tv (σ 33)).size : Nat)›
  rw [← tl_len] at hz
  have n_ := ‹¬ ixbRPre _›
  exact n_ trivial
theorem deciR_L10_ok : deciR_L10 := by
  intro σ; intros
  have p0 := ‹deciRPre _›
  obtain ⟨N, K, n53, hK, f23, k2, k36, ht, lw, dl, lw2⟩ := deci_pre (t := σ 11) (c := σ 22) (d := σ 23) p0 (by omega) (by omega) ‹_›
  have hu0 := ‹uppR [σ 11,σ 33]›
  have hu0 : tv (σ 33) = tv (σ 11) := hu0
  have hu := tl_tv hu0
  rw [ht] at hu
  have hI_ := ‹deciI _›
  have hI : DeciI (fv (σ 23)) (fv (σ 35)) (iv (σ 38)) (tl (σ 33)) := hI_
  obtain ⟨j, hj, hl, hf⟩ := hI.get f23 k36
  have hz := ‹iv (σ 34) = ((tv (σ 33)).size : Nat)›
  rw [← tl_len] at hz
  have hs := ext_signs hK ‹tv (σ 59) = _›
  have hc := ‹(tv (σ 33))[(iv (σ 38)).toNat]?.map _ = _›
  obtain ⟨b, hb, hcb⟩ := byte_at hj hc
  have hb : (tl (σ 33))[j]? = some b := hb
  have ix := ‹ixbR _›
  obtain ⟨d, hd, eb, hr⟩ := find_byte k2 k36 hu hb hs hcb ix
  omega
theorem deciR_L11_ok : deciR_L11 := by
  intro σ; intros
  have p0 := ‹deciRPre _›
  obtain ⟨N, K, n53, hK, f23, k2, k36, ht, lw, dl, lw2⟩ := deci_pre (t := σ 11) (c := σ 22) (d := σ 23) p0 (by omega) (by omega) ‹_›
  have hu0 := ‹uppR [σ 11,σ 33]›
  have hu0 : tv (σ 33) = tv (σ 11) := hu0
  have hu := tl_tv hu0
  rw [ht] at hu
  have hI_ := ‹deciI _›
  have hI : DeciI (fv (σ 23)) (fv (σ 35)) (iv (σ 38)) (tl (σ 33)) := hI_
  obtain ⟨j, hj, hl, hf⟩ := hI.get f23 k36
  have hz := ‹iv (σ 34) = ((tv (σ 33)).size : Nat)›
  rw [← tl_len] at hz
  have hs := ext_signs hK ‹tv (σ 59) = _›
  have hc := ‹(tv (σ 33))[(iv (σ 38)).toNat]?.map _ = _›
  obtain ⟨b, hb, hcb⟩ := byte_at hj hc
  have hb : (tl (σ 33))[j]? = some b := hb
  have ix := ‹ixbR _›
  obtain ⟨d, hd, eb, hr⟩ := find_byte k2 k36 hu hb hs hcb ix
  obtain ⟨s1, s2⟩ := deci_step k2 k36 n53 hu hb eb hd
  have m1 := ‹farV .mul .f64 (fv (σ 35)) (fv (σ 23)) = _ ∨ _›
  rw [hf, f23] at m1
  have b1 : dv K ((tl (σ 33)).take j) * K ≤ 2 ^ 53 := by omega
  have b2 : dv K ((tl (σ 33)).take j) ≤ dv K ((tl (σ 33)).take j) * K := Nat.le_mul_of_pos_right _ (show 0 < K by omega)
  have m2 := far_nr_mul (by omega) (by omega) b1 m1
  have d1 := ‹fv (σ 66) = nE (iv (σ 62))›
  rw [hr] at d1
  have d1 : fv (σ 66) = nr d := d1
  have a1 := ‹farV .add .f64 (fv (σ 65)) (fv (σ 66)) = _ ∨ _›
  rw [m2, d1] at a1
  have a2 := far_nr_add (by omega) a1
  rw [s1] at a2
  have hy := ‹iv (σ 69) = IntKind.i64.wrap _›
  rw [hj] at hy
  have hy : iv (σ 69) = ((j + 1 : Nat) : Int) := wrap_nat (n := j + 1) (by rw [hu] at hl; omega) hy
  have hlt : j < (tl (σ 33)).length := by omega
  specialize ‹fitsL _ _ → deciI _ → ¬ (_ : Nat) < _› (by (simp only [fitsL, Sort_.fits]; repeat' (first | exact True.intro | (with_reducible refine And.intro ?_ ?_) | exact ⟨_, ‹_›⟩ | exact ⟨_, rfl⟩ | exact ⟨_, ‹_›, fun a h => by cases h; omega, fun b h => by cases h; omega⟩ | exact ⟨_, rfl, fun a h => by cases h; decide, fun b h => by cases h; decide⟩)))
  have c0 := ‹deciI _ → ¬ (_ : Nat) < _›
  have c1 : DeciI (fv (σ 23)) (fv (σ 67)) (iv (σ 69)) (tl (σ 33)) := ⟨K, N, j + 1, k2, k36, n53, f23, hu, hy, hlt, a2⟩
  have c := c0 c1
  have c : ¬ (tl (σ 33)).length - (iv (σ 69)).toNat < (tl (σ 33)).length - (iv (σ 38)).toNat := c
  rw [hy, hj] at c
  omega
theorem deciR_L12_ok : deciR_L12 := by
  intro σ; intros
  have p0 := ‹deciRPre _›
  obtain ⟨N, K, n53, hK, f23, k2, k36, ht, lw, dl, lw2⟩ := deci_pre (t := σ 11) (c := σ 22) (d := σ 23) p0 (by omega) (by omega) ‹_›
  have hu0 := ‹uppR [σ 11,σ 33]›
  have hu0 : tv (σ 33) = tv (σ 11) := hu0
  have hu := tl_tv hu0
  rw [ht] at hu
  have hI_ := ‹deciI _›
  have hI : DeciI (fv (σ 23)) (fv (σ 35)) (iv (σ 38)) (tl (σ 33)) := hI_
  obtain ⟨j, hj, hl, hf⟩ := hI.get f23 k36
  have hz := ‹iv (σ 34) = ((tv (σ 33)).size : Nat)›
  rw [← tl_len] at hz
  have hs := ext_signs hK ‹tv (σ 59) = _›
  have hc := ‹(tv (σ 33))[(iv (σ 38)).toNat]?.map _ = _›
  obtain ⟨b, hb, hcb⟩ := byte_at hj hc
  have hb : (tl (σ 33))[j]? = some b := hb
  have ix := ‹ixbR _›
  obtain ⟨d, hd, eb, hr⟩ := find_byte k2 k36 hu hb hs hcb ix
  obtain ⟨s1, s2⟩ := deci_step k2 k36 n53 hu hb eb hd
  have m1 := ‹farV .mul .f64 (fv (σ 35)) (fv (σ 23)) = _ ∨ _›
  rw [hf, f23] at m1
  have b1 : dv K ((tl (σ 33)).take j) * K ≤ 2 ^ 53 := by omega
  have b2 : dv K ((tl (σ 33)).take j) ≤ dv K ((tl (σ 33)).take j) * K := Nat.le_mul_of_pos_right _ (show 0 < K by omega)
  have m2 := far_nr_mul (by omega) (by omega) b1 m1
  have d1 := ‹fv (σ 66) = nE (iv (σ 62))›
  rw [hr] at d1
  have d1 : fv (σ 66) = nr d := d1
  have a1 := ‹farV .add .f64 (fv (σ 65)) (fv (σ 66)) = _ ∨ _›
  rw [m2, d1] at a1
  have a2 := far_nr_add (by omega) a1
  rw [s1] at a2
  have c := ‹ford (fv (σ 67)) 4850376798678024192 ≠ some .lt›
  rw [a2] at c
  exact c (nr_54 (by omega))
theorem deciR_L13_ok : deciR_L13 := by
  intro σ; intros
  have p0 := ‹deciRPre _›
  obtain ⟨N, K, n53, hK, f23, k2, k36, ht, lw, dl, lw2⟩ := deci_pre (t := σ 11) (c := σ 22) (d := σ 23) p0 (by omega) (by omega) ‹_›
  have hu0 := ‹uppR [σ 11,σ 33]›
  have hu0 : tv (σ 33) = tv (σ 11) := hu0
  have hu := tl_tv hu0
  rw [ht] at hu
  have hI_ := ‹deciI _›
  have hI : DeciI (fv (σ 23)) (fv (σ 35)) (iv (σ 38)) (tl (σ 33)) := hI_
  obtain ⟨j, hj, hl, hf⟩ := hI.get f23 k36
  have hz := ‹iv (σ 34) = ((tv (σ 33)).size : Nat)›
  rw [← tl_len] at hz
  have hs := ext_signs hK ‹tv (σ 59) = _›
  have hc := ‹(tv (σ 33))[(iv (σ 38)).toNat]?.map _ = _›
  obtain ⟨b, hb, hcb⟩ := byte_at hj hc
  have hb : (tl (σ 33))[j]? = some b := hb
  have ix := ‹ixbR _›
  obtain ⟨d, hd, eb, hr⟩ := find_byte k2 k36 hu hb hs hcb ix
  obtain ⟨s1, s2⟩ := deci_step k2 k36 n53 hu hb eb hd
  have m1 := ‹farV .mul .f64 (fv (σ 35)) (fv (σ 23)) = _ ∨ _›
  rw [hf, f23] at m1
  have b1 : dv K ((tl (σ 33)).take j) * K ≤ 2 ^ 53 := by omega
  have b2 : dv K ((tl (σ 33)).take j) ≤ dv K ((tl (σ 33)).take j) * K := Nat.le_mul_of_pos_right _ (show 0 < K by omega)
  have m2 := far_nr_mul (by omega) (by omega) b1 m1
  have d1 := ‹fv (σ 66) = nE (iv (σ 62))›
  rw [hr] at d1
  have d1 : fv (σ 66) = nr d := d1
  have a1 := ‹farV .add .f64 (fv (σ 65)) (fv (σ 66)) = _ ∨ _›
  rw [m2, d1] at a1
  have a2 := far_nr_add (by omega) a1
  rw [s1] at a2
  have c := ‹ford (fv (σ 67)) 4850376798678024192 ≠ some .lt›
  rw [a2] at c
  exact c (nr_54 (by omega))
theorem deciR_L14_ok : deciR_L14 := by
  intro σ; intros
  have p0 := ‹deciRPre _›
  obtain ⟨N, K, n53, hK, f23, k2, k36, ht, lw, dl, lw2⟩ := deci_pre (t := σ 11) (c := σ 22) (d := σ 23) p0 (by omega) (by omega) ‹_›
  have hu0 := ‹uppR [σ 11,σ 33]›
  have hu0 : tv (σ 33) = tv (σ 11) := hu0
  have hu := tl_tv hu0
  rw [ht] at hu
  have hI_ := ‹deciI _›
  have hI : DeciI (fv (σ 23)) (fv (σ 35)) (iv (σ 38)) (tl (σ 33)) := hI_
  obtain ⟨j, hj, hl, hf⟩ := hI.get f23 k36
  have hz := ‹iv (σ 34) = ((tv (σ 33)).size : Nat)›
  rw [← tl_len] at hz
  have hs := ext_signs hK ‹tv (σ 61) = _›
  have hc := ‹(tv (σ 33))[(iv (σ 38)).toNat]?.map _ = _›
  obtain ⟨b, hb, hcb⟩ := byte_at hj hc
  have hb : (tl (σ 33))[j]? = some b := hb
  have ix := ‹ixbR _›
  obtain ⟨d, hd, eb, hr⟩ := find_byte k2 k36 hu hb hs hcb ix
  omega
theorem deciR_L15_ok : deciR_L15 := by
  intro σ; intros
  have p0 := ‹deciRPre _›
  obtain ⟨N, K, n53, hK, f23, k2, k36, ht, lw, dl, lw2⟩ := deci_pre (t := σ 11) (c := σ 22) (d := σ 23) p0 (by omega) (by omega) ‹_›
  have hu0 := ‹uppR [σ 11,σ 33]›
  have hu0 : tv (σ 33) = tv (σ 11) := hu0
  have hu := tl_tv hu0
  rw [ht] at hu
  have hI_ := ‹deciI _›
  have hI : DeciI (fv (σ 23)) (fv (σ 35)) (iv (σ 38)) (tl (σ 33)) := hI_
  obtain ⟨j, hj, hl, hf⟩ := hI.get f23 k36
  have hz := ‹iv (σ 34) = ((tv (σ 33)).size : Nat)›
  rw [← tl_len] at hz
  have hs := ext_signs hK ‹tv (σ 61) = _›
  have hc := ‹(tv (σ 33))[(iv (σ 38)).toNat]?.map _ = _›
  obtain ⟨b, hb, hcb⟩ := byte_at hj hc
  have hb : (tl (σ 33))[j]? = some b := hb
  have ix := ‹ixbR _›
  obtain ⟨d, hd, eb, hr⟩ := find_byte k2 k36 hu hb hs hcb ix
  obtain ⟨s1, s2⟩ := deci_step k2 k36 n53 hu hb eb hd
  have m1 := ‹farV .mul .f64 (fv (σ 35)) (fv (σ 23)) = _ ∨ _›
  rw [hf, f23] at m1
  have b1 : dv K ((tl (σ 33)).take j) * K ≤ 2 ^ 53 := by omega
  have b2 : dv K ((tl (σ 33)).take j) ≤ dv K ((tl (σ 33)).take j) * K := Nat.le_mul_of_pos_right _ (show 0 < K by omega)
  have m2 := far_nr_mul (by omega) (by omega) b1 m1
  have d1 := ‹fv (σ 66) = nE (iv (σ 62))›
  rw [hr] at d1
  have d1 : fv (σ 66) = nr d := d1
  have a1 := ‹farV .add .f64 (fv (σ 65)) (fv (σ 66)) = _ ∨ _›
  rw [m2, d1] at a1
  have a2 := far_nr_add (by omega) a1
  rw [s1] at a2
  have hy := ‹iv (σ 69) = IntKind.i64.wrap _›
  rw [hj] at hy
  have hy : iv (σ 69) = ((j + 1 : Nat) : Int) := wrap_nat (n := j + 1) (by rw [hu] at hl; omega) hy
  have hlt : j < (tl (σ 33)).length := by omega
  specialize ‹fitsL _ _ → deciI _ → ¬ (_ : Nat) < _› (by (simp only [fitsL, Sort_.fits]; repeat' (first | exact True.intro | (with_reducible refine And.intro ?_ ?_) | exact ⟨_, ‹_›⟩ | exact ⟨_, rfl⟩ | exact ⟨_, ‹_›, fun a h => by cases h; omega, fun b h => by cases h; omega⟩ | exact ⟨_, rfl, fun a h => by cases h; decide, fun b h => by cases h; decide⟩)))
  have c0 := ‹deciI _ → ¬ (_ : Nat) < _›
  have c1 : DeciI (fv (σ 23)) (fv (σ 67)) (iv (σ 69)) (tl (σ 33)) := ⟨K, N, j + 1, k2, k36, n53, f23, hu, hy, hlt, a2⟩
  have c := c0 c1
  have c : ¬ (tl (σ 33)).length - (iv (σ 69)).toNat < (tl (σ 33)).length - (iv (σ 38)).toNat := c
  rw [hy, hj] at c
  omega
theorem deciR_L16_ok : deciR_L16 := by
  intro σ; intros
  have p0 := ‹deciRPre _›
  obtain ⟨N, K, n53, hK, f23, k2, k36, ht, lw, dl, lw2⟩ := deci_pre (t := σ 11) (c := σ 22) (d := σ 23) p0 (by omega) (by omega) ‹_›
  have hu0 := ‹uppR [σ 11,σ 33]›
  have hu0 : tv (σ 33) = tv (σ 11) := hu0
  have hu := tl_tv hu0
  rw [ht] at hu
  have hI_ := ‹deciI _›
  have hI : DeciI (fv (σ 23)) (fv (σ 35)) (iv (σ 38)) (tl (σ 33)) := hI_
  obtain ⟨j, hj, hl, hf⟩ := hI.get f23 k36
  have hz := ‹iv (σ 34) = ((tv (σ 33)).size : Nat)›
  rw [← tl_len] at hz
  have hs := ext_signs hK ‹tv (σ 61) = _›
  have hc := ‹(tv (σ 33))[(iv (σ 38)).toNat]?.map _ = _›
  obtain ⟨b, hb, hcb⟩ := byte_at hj hc
  have hb : (tl (σ 33))[j]? = some b := hb
  have ix := ‹ixbR _›
  obtain ⟨d, hd, eb, hr⟩ := find_byte k2 k36 hu hb hs hcb ix
  obtain ⟨s1, s2⟩ := deci_step k2 k36 n53 hu hb eb hd
  have m1 := ‹farV .mul .f64 (fv (σ 35)) (fv (σ 23)) = _ ∨ _›
  rw [hf, f23] at m1
  have b1 : dv K ((tl (σ 33)).take j) * K ≤ 2 ^ 53 := by omega
  have b2 : dv K ((tl (σ 33)).take j) ≤ dv K ((tl (σ 33)).take j) * K := Nat.le_mul_of_pos_right _ (show 0 < K by omega)
  have m2 := far_nr_mul (by omega) (by omega) b1 m1
  have d1 := ‹fv (σ 66) = nE (iv (σ 62))›
  rw [hr] at d1
  have d1 : fv (σ 66) = nr d := d1
  have a1 := ‹farV .add .f64 (fv (σ 65)) (fv (σ 66)) = _ ∨ _›
  rw [m2, d1] at a1
  have a2 := far_nr_add (by omega) a1
  rw [s1] at a2
  have c := ‹ford (fv (σ 67)) 4850376798678024192 ≠ some .lt›
  rw [a2] at c
  exact c (nr_54 (by omega))
theorem deciR_L17_ok : deciR_L17 := by
  intro σ; intros
  have p0 := ‹deciRPre _›
  obtain ⟨N, K, n53, hK, f23, k2, k36, ht, lw, dl, lw2⟩ := deci_pre (t := σ 11) (c := σ 22) (d := σ 23) p0 (by omega) (by omega) ‹_›
  have hu0 := ‹uppR [σ 11,σ 33]›
  have hu0 : tv (σ 33) = tv (σ 11) := hu0
  have hu := tl_tv hu0
  rw [ht] at hu
  have hI_ := ‹deciI _›
  have hI : DeciI (fv (σ 23)) (fv (σ 35)) (iv (σ 38)) (tl (σ 33)) := hI_
  obtain ⟨j, hj, hl, hf⟩ := hI.get f23 k36
  have hz := ‹iv (σ 34) = ((tv (σ 33)).size : Nat)›
  rw [← tl_len] at hz
  have hs := ext_signs hK ‹tv (σ 61) = _›
  have hc := ‹(tv (σ 33))[(iv (σ 38)).toNat]?.map _ = _›
  obtain ⟨b, hb, hcb⟩ := byte_at hj hc
  have hb : (tl (σ 33))[j]? = some b := hb
  have ix := ‹ixbR _›
  obtain ⟨d, hd, eb, hr⟩ := find_byte k2 k36 hu hb hs hcb ix
  obtain ⟨s1, s2⟩ := deci_step k2 k36 n53 hu hb eb hd
  have m1 := ‹farV .mul .f64 (fv (σ 35)) (fv (σ 23)) = _ ∨ _›
  rw [hf, f23] at m1
  have b1 : dv K ((tl (σ 33)).take j) * K ≤ 2 ^ 53 := by omega
  have b2 : dv K ((tl (σ 33)).take j) ≤ dv K ((tl (σ 33)).take j) * K := Nat.le_mul_of_pos_right _ (show 0 < K by omega)
  have m2 := far_nr_mul (by omega) (by omega) b1 m1
  have d1 := ‹fv (σ 66) = nE (iv (σ 62))›
  rw [hr] at d1
  have d1 : fv (σ 66) = nr d := d1
  have a1 := ‹farV .add .f64 (fv (σ 65)) (fv (σ 66)) = _ ∨ _›
  rw [m2, d1] at a1
  have a2 := far_nr_add (by omega) a1
  rw [s1] at a2
  have c := ‹ford (fv (σ 67)) 4850376798678024192 ≠ some .lt›
  rw [a2] at c
  exact c (nr_54 (by omega))
theorem deciR_L22_ok : deciR_L22 := by
  intro σ; intros
  have p0 := ‹deciRPre _›
  obtain ⟨N, K, n53, hK, f23, k2, k36, ht, lw, dl, lw2⟩ := deci_pre (t := σ 11) (c := σ 22) (d := σ 23) p0 (by omega) (by omega) ‹_›
  have hu0 := ‹uppR [σ 11,σ 33]›
  have hu0 : tv (σ 33) = tv (σ 11) := hu0
  have hu := tl_tv hu0
  rw [ht] at hu
  have hI_ := ‹deciI _›
  have hI : DeciI (fv (σ 23)) (fv (σ 35)) (iv (σ 38)) (tl (σ 33)) := hI_
  obtain ⟨j, hj, hl, hf⟩ := hI.get f23 k36
  have hz := ‹iv (σ 34) = ((tv (σ 33)).size : Nat)›
  rw [← tl_len] at hz
  have ej : (tl (σ 33)).take j = tl (σ 33) := List.take_of_length_le (by omega)
  rw [ej, hu, dv_dg k2 k36] at hf
  have fin := (nr_sv (show N ≤ 2 ^ 53 by omega)).1
  have c := ‹ford (fv (σ 35)) 4845873199050653696 ≠ some .lt ∧ _›
  rw [hf] at c
  exact c.1 (nr_53 n53)
theorem deciR_L23_ok : deciR_L23 := by
  intro σ; intros
  have p0 := ‹deciRPre _›
  obtain ⟨N, K, n53, hK, f23, k2, k36, ht, lw, dl, lw2⟩ := deci_pre (t := σ 11) (c := σ 22) (d := σ 23) p0 (by omega) (by omega) ‹_›
  have hu0 := ‹uppR [σ 11,σ 33]›
  have hu0 : tv (σ 33) = tv (σ 11) := hu0
  have hu := tl_tv hu0
  rw [ht] at hu
  have hI_ := ‹deciI _›
  have hI : DeciI (fv (σ 23)) (fv (σ 35)) (iv (σ 38)) (tl (σ 33)) := hI_
  obtain ⟨j, hj, hl, hf⟩ := hI.get f23 k36
  have hz := ‹iv (σ 34) = ((tv (σ 33)).size : Nat)›
  rw [← tl_len] at hz
  have ej : (tl (σ 33)).take j = tl (σ 33) := List.take_of_length_le (by omega)
  rw [ej, hu, dv_dg k2 k36] at hf
  have fin := (nr_sv (show N ≤ 2 ^ 53 by omega)).1
  have ab := abs_x (x := σ 35) (a := σ 63) (b := σ 64) (r := σ 65) ‹_› ‹_› ‹_› ‹_› ‹_›
  have c := ‹ford (fv (σ 65)) 9218868437227405311 = some .gt›
  rw [ab, hf] at c
  exact ford_big fin c
theorem deciR_L24_ok : deciR_L24 := by
  intro σ; intros
  have p0 := ‹deciRPre _›
  obtain ⟨N, K, n53, hK, f23, k2, k36, ht, lw, dl, lw2⟩ := deci_pre (t := σ 11) (c := σ 22) (d := σ 23) p0 (by omega) (by omega) ‹_›
  have hu0 := ‹uppR [σ 11,σ 33]›
  have hu0 : tv (σ 33) = tv (σ 11) := hu0
  have hu := tl_tv hu0
  rw [ht] at hu
  have hI_ := ‹deciI _›
  have hI : DeciI (fv (σ 23)) (fv (σ 35)) (iv (σ 38)) (tl (σ 33)) := hI_
  obtain ⟨j, hj, hl, hf⟩ := hI.get f23 k36
  have hz := ‹iv (σ 34) = ((tv (σ 33)).size : Nat)›
  rw [← tl_len] at hz
  have ej : (tl (σ 33)).take j = tl (σ 33) := List.take_of_length_le (by omega)
  rw [ej, hu, dv_dg k2 k36] at hf
  have fin := (nr_sv (show N ≤ 2 ^ 53 by omega)).1
  intro N2 h2 t2
  have t2 : tl (σ 11) = dg (iv (σ 22)).toNat N2 := t2
  rw [hK, Int.toNat_natCast, ht] at t2
  have q : N = N2 := by rw [← dv_dg k2 k36 N, ← dv_dg k2 k36 N2, t2]
  rw [← q]
  have z := ‹ford (fv (σ 35)) 0 = some .eq›
  rw [hf] at z
  show (0 : Nat) = nr N
  rw [(nr_nought (by omega)).1 z]
  exact nr_zero.symm
theorem deciR_L25_ok : deciR_L25 := by
  intro σ; intros
  have p0 := ‹deciRPre _›
  obtain ⟨N, K, n53, hK, f23, k2, k36, ht, lw, dl, lw2⟩ := deci_pre (t := σ 11) (c := σ 22) (d := σ 23) p0 (by omega) (by omega) ‹_›
  have hu0 := ‹uppR [σ 11,σ 33]›
  have hu0 : tv (σ 33) = tv (σ 11) := hu0
  have hu := tl_tv hu0
  rw [ht] at hu
  have hI_ := ‹deciI _›
  have hI : DeciI (fv (σ 23)) (fv (σ 35)) (iv (σ 38)) (tl (σ 33)) := hI_
  obtain ⟨j, hj, hl, hf⟩ := hI.get f23 k36
  have hz := ‹iv (σ 34) = ((tv (σ 33)).size : Nat)›
  rw [← tl_len] at hz
  have ej : (tl (σ 33)).take j = tl (σ 33) := List.take_of_length_le (by omega)
  rw [ej, hu, dv_dg k2 k36] at hf
  have fin := (nr_sv (show N ≤ 2 ^ 53 by omega)).1
  intro N2 h2 t2
  have t2 : tl (σ 11) = dg (iv (σ 22)).toNat N2 := t2
  rw [hK, Int.toNat_natCast, ht] at t2
  have q : N = N2 := by rw [← dv_dg k2 k36 N, ← dv_dg k2 k36 N2, t2]
  rw [← q]
  exact hf
theorem deciR_L26_ok : deciR_L26 := by
  intro σ; intros
  have p0 := ‹deciRPre _›
  obtain ⟨N, K, n53, hK, f23, k2, k36, ht, lw, dl, lw2⟩ := deci_pre (t := σ 11) (c := σ 22) (d := σ 23) p0 (by omega) (by omega) ‹_›
  have hu0 := ‹uppR [σ 11,σ 33]›
  have hu0 : tv (σ 33) = tv (σ 11) := hu0
  have hu := tl_tv hu0
  rw [ht] at hu
  have hI_ := ‹deciI _›
  have hI : DeciI (fv (σ 23)) (fv (σ 35)) (iv (σ 38)) (tl (σ 33)) := hI_
  obtain ⟨j, hj, hl, hf⟩ := hI.get f23 k36
  have hz := ‹iv (σ 34) = ((tv (σ 33)).size : Nat)›
  rw [← tl_len] at hz
  have ej : (tl (σ 33)).take j = tl (σ 33) := List.take_of_length_le (by omega)
  rw [ej, hu, dv_dg k2 k36] at hf
  have fin := (nr_sv (show N ≤ 2 ^ 53 by omega)).1
  have c := ‹ford (fv (σ 35)) (fv (σ 35)) ≠ some .eq›
  rw [hf] at c
  exact c (ford_self fin)
theorem deciR_L27_ok : deciR_L27 := by
  intro σ; intros
  have p0 := ‹deciRPre _›
  obtain ⟨N, K, n53, hK, f23, k2, k36, ht, lw, dl, lw2⟩ := deci_pre (t := σ 11) (c := σ 22) (d := σ 23) p0 (by omega) (by omega) ‹_›
  have n_ := ‹¬ uppRPre _›
  exact n_ ⟨by show (tl (σ 11)).length ≤ _; rw [ht]; omega, fun c hc h => by have hc : c ∈ tl (σ 11) := hc; rw [ht] at hc; have := lw c hc; omega⟩
theorem deciR_L28_ok : deciR_L28 := by
  intro σ; intros
  have p0 := ‹deciRPre _›
  obtain ⟨N, K, n53, hK, f23, k2, k36, ht, lw, dl, lw2⟩ := deci_pre (t := σ 11) (c := σ 22) (d := σ 23) p0 (by omega) (by omega) ‹_›
  have v := ‹vldR [σ 11,σ 32]›
  exact vld_low v lw2 ‹bv (σ 32) = false›
theorem deciR_L29_ok : deciR_L29 := by
  intro σ; intros
  have p0 := ‹deciRPre _›
  obtain ⟨N, K, n53, hK, f23, k2, k36, ht, lw, dl, lw2⟩ := deci_pre (t := σ 11) (c := σ 22) (d := σ 23) p0 (by omega) (by omega) ‹_›
  have n_ := ‹¬ vldRPre _›
  exact n_ (vld_pre (by rw [ht]; omega))
theorem deciR_L30_ok : deciR_L30 := by
  intro σ; intros
  have p0 := ‹deciRPre _›
  obtain ⟨N, K, n53, hK, f23, k2, k36, ht, lw, dl, lw2⟩ := deci_pre (t := σ 11) (c := σ 22) (d := σ 23) p0 (by omega) (by omega) ‹_›
  have v := ‹vldR [σ 11,σ 27]›
  exact vld_low v lw2 ‹bv (σ 27) = false›
theorem deci_ok : deciC.ok Tryz.prog Tabs :=
  by_tie deciR_tie (by kernel_rfl) (all_cons vld_ok (all_cons ixb_ok (all_cons rpt_ok (all_cons upp_ok all_nil)))) ⟨deciR_L0_ok, deciR_L1_ok, deciR_L2_ok, deciR_L3_ok, deciR_L4_ok, deciR_L4_ok, deciR_L6_ok, deciR_L7_ok, deciR_L8_ok, deciR_L8_ok, deciR_L10_ok, deciR_L11_ok, deciR_L12_ok, deciR_L13_ok, deciR_L14_ok, deciR_L15_ok, deciR_L16_ok, deciR_L17_ok, deciR_L14_ok, deciR_L15_ok, deciR_L16_ok, deciR_L17_ok, deciR_L22_ok, deciR_L23_ok, deciR_L24_ok, deciR_L25_ok, deciR_L26_ok, deciR_L27_ok, deciR_L28_ok, deciR_L29_ok, deciR_L30_ok, trivial⟩
end Go.Proofs.Bs
