/- LEFT and MID. -/
import Derived.Test.YtlinfpchnonbpaaGreatDoorPartA
namespace Go.Proofs.Bs
open Go.Ev Go.RowKit Ieee
set_option maxRecDepth 1000000
def leftR_L0 : Prop := ∀ σ : Nat → Value,
 σ 0 = (vS #[76,69,70,84]) →
 σ 2 = vF →
 σ 3 = vF →
 σ 4 = vO →
 σ 5 = vO →
 σ 7 = vZ →
 σ 8 = vZ →
 σ 9 = (vI 2) →
 σ 10 = (vG 0) →
 tS (σ 11) →
 σ 12 = vF →
 σ 13 = vZ →
 σ 14 = vF →
 σ 15 = vF →
 σ 16 = vO →
 σ 17 = vO →
 σ 19 = vZ →
 σ 20 = vZ →
 σ 21 = vO →
 tI (σ 22) →
 0 ≤ iv (σ 22) →
 iv (σ 22) ≤ 255 →
 tF (σ 23) →
 σ 24 = vE →
 σ 25 = vF →
 σ 26 = vZ →
 fv (σ 23) = nE (iv (σ 22)) →
 leftRPre [(vS #[76,69,70,84]),vU, vF, vF, vO, vO,vU,vZ,vZ, (vI 2), (vG 0),σ 11, vF,vZ, vF, vF, vO, vO,vU,vZ,vZ, vO,σ 22,σ 23, vE, vF,vZ] →
 ¬ vldRPre [σ 11] →
    False
def leftR_L1 : Prop := ∀ σ : Nat → Value,
 σ 0 = (vS #[76,69,70,84]) →
 σ 2 = vF →
 σ 3 = vF →
 σ 4 = vO →
 σ 5 = vO →
 σ 7 = vZ →
 σ 8 = vZ →
 σ 9 = (vI 2) →
 σ 10 = (vG 0) →
 tS (σ 11) →
 σ 12 = vF →
 σ 13 = vZ →
 σ 14 = vF →
 σ 15 = vF →
 σ 16 = vO →
 σ 17 = vO →
 σ 19 = vZ →
 σ 20 = vZ →
 σ 21 = vO →
 tI (σ 22) →
 0 ≤ iv (σ 22) →
 iv (σ 22) ≤ 255 →
 tF (σ 23) →
 σ 24 = vE →
 σ 25 = vF →
 σ 26 = vZ →
 tI (σ 28) →
 32769 ≤ iv (σ 28) →
 fv (σ 23) = nE (iv (σ 22)) →
 leftRPre [(vS #[76,69,70,84]),vU, vF, vF, vO, vO,vU,vZ,vZ, (vI 2), (vG 0),σ 11, vF,vZ, vF, vF, vO, vO,vU,vZ,vZ, vO,σ 22,σ 23, vE, vF,vZ] →
 vldR [σ 11,σ 27] →
 iv (σ 28) = ((tv (σ 11)).size : Nat) →
 32768 < iv (σ 28) →
 bv (σ 27) = true →
    False
def leftR_L2 : Prop := ∀ σ : Nat → Value,
 σ 0 = (vS #[76,69,70,84]) →
 σ 2 = vF →
 σ 3 = vF →
 σ 4 = vO →
 σ 5 = vO →
 σ 7 = vZ →
 σ 8 = vZ →
 σ 9 = (vI 2) →
 σ 10 = (vG 0) →
 tS (σ 11) →
 σ 12 = vF →
 σ 13 = vZ →
 σ 14 = vF →
 σ 15 = vF →
 σ 16 = vO →
 σ 17 = vO →
 σ 19 = vZ →
 σ 20 = vZ →
 σ 21 = vO →
 tI (σ 22) →
 0 ≤ iv (σ 22) →
 iv (σ 22) ≤ 0 →
 tF (σ 23) →
 σ 24 = vE →
 σ 25 = vF →
 σ 26 = vZ →
 tI (σ 28) →
 0 ≤ iv (σ 28) →
 iv (σ 28) ≤ 32768 →
 tU (σ 30) →
 tU (σ 31) →
 tI (σ 34) →
 0 ≤ iv (σ 34) →
 iv (σ 34) ≤ 100000 →
 tS (σ 35) →
 tI (σ 36) →
 32769 ≤ iv (σ 36) →
 fv (σ 23) = nE (iv (σ 22)) →
 leftRPre [(vS #[76,69,70,84]),vU, vF, vF, vO, vO,vU,vZ,vZ, (vI 2), (vG 0),σ 11, vF,vZ, vF, vF, vO, vO,vU,vZ,vZ, vO,σ 22,σ 23, vE, vF,vZ] →
 vldR [σ 11,σ 27] →
 iv (σ 28) = ((tv (σ 11)).size : Nat) →
 extRel .fbits [σ 23] (σ 30) →
 aN (σ 30) (σ 31) →
 vldR [σ 11,σ 33] →
 cntR [σ 11,σ 34] →
 cutR [σ 11,vZ,vZ,σ 35] →
 iv (σ 36) = ((tv (σ 35)).size : Nat) →
 32768 < iv (σ 36) →
 bv (σ 37) = !true →
 bv (σ 33) = true →
 iv (σ 22) = 0 →
 iv (σ 28) ≤ 32768 →
 bv (σ 27) = true →
    False
def leftR_L3 : Prop := ∀ σ : Nat → Value,
 σ 0 = (vS #[76,69,70,84]) →
 σ 2 = vF →
 σ 3 = vF →
 σ 4 = vO →
 σ 5 = vO →
 σ 7 = vZ →
 σ 8 = vZ →
 σ 9 = (vI 2) →
 σ 10 = (vG 0) →
 tS (σ 11) →
 σ 12 = vF →
 σ 13 = vZ →
 σ 14 = vF →
 σ 15 = vF →
 σ 16 = vO →
 σ 17 = vO →
 σ 19 = vZ →
 σ 20 = vZ →
 σ 21 = vO →
 tI (σ 22) →
 0 ≤ iv (σ 22) →
 iv (σ 22) ≤ 0 →
 tF (σ 23) →
 σ 24 = vE →
 σ 25 = vF →
 σ 26 = vZ →
 tI (σ 28) →
 0 ≤ iv (σ 28) →
 iv (σ 28) ≤ 32768 →
 tU (σ 30) →
 tU (σ 31) →
 tI (σ 34) →
 0 ≤ iv (σ 34) →
 iv (σ 34) ≤ 100000 →
 tS (σ 35) →
 tI (σ 36) →
 0 ≤ iv (σ 36) →
 iv (σ 36) ≤ 32768 →
 fv (σ 23) = nE (iv (σ 22)) →
 leftRPre [(vS #[76,69,70,84]),vU, vF, vF, vO, vO,vU,vZ,vZ, (vI 2), (vG 0),σ 11, vF,vZ, vF, vF, vO, vO,vU,vZ,vZ, vO,σ 22,σ 23, vE, vF,vZ] →
 vldR [σ 11,σ 27] →
 iv (σ 28) = ((tv (σ 11)).size : Nat) →
 extRel .fbits [σ 23] (σ 30) →
 aN (σ 30) (σ 31) →
 vldR [σ 11,σ 33] →
 cntR [σ 11,σ 34] →
 cutR [σ 11,vZ,vZ,σ 35] →
 iv (σ 36) = ((tv (σ 35)).size : Nat) →
 iv (σ 36) ≤ 32768 →
 bv (σ 37) = !false →
 bv (σ 33) = true →
 iv (σ 22) = 0 →
 iv (σ 28) ≤ 32768 →
 bv (σ 27) = true →
    leftR [(vS #[76,69,70,84]),vU, vF, vF, vO, vO,vU,vZ,vZ, (vI 2), (vG 0),σ 11, vF,vZ, vF, vF, vO, vO,vU,vZ,vZ, vO,σ 22,σ 23, vE, vF,vZ, (vI 2), (vG 0),σ 35, vF,vZ, vT]
def leftR_L4 : Prop := ∀ σ : Nat → Value,
 σ 0 = (vS #[76,69,70,84]) →
 σ 2 = vF →
 σ 3 = vF →
 σ 4 = vO →
 σ 5 = vO →
 σ 7 = vZ →
 σ 8 = vZ →
 σ 9 = (vI 2) →
 σ 10 = (vG 0) →
 tS (σ 11) →
 σ 12 = vF →
 σ 13 = vZ →
 σ 14 = vF →
 σ 15 = vF →
 σ 16 = vO →
 σ 17 = vO →
 σ 19 = vZ →
 σ 20 = vZ →
 σ 21 = vO →
 tI (σ 22) →
 0 ≤ iv (σ 22) →
 iv (σ 22) ≤ 0 →
 tF (σ 23) →
 σ 24 = vE →
 σ 25 = vF →
 σ 26 = vZ →
 tI (σ 28) →
 0 ≤ iv (σ 28) →
 iv (σ 28) ≤ 32768 →
 tU (σ 30) →
 tU (σ 31) →
 tI (σ 34) →
 0 ≤ iv (σ 34) →
 iv (σ 34) ≤ 100000 →
 fv (σ 23) = nE (iv (σ 22)) →
 leftRPre [(vS #[76,69,70,84]),vU, vF, vF, vO, vO,vU,vZ,vZ, (vI 2), (vG 0),σ 11, vF,vZ, vF, vF, vO, vO,vU,vZ,vZ, vO,σ 22,σ 23, vE, vF,vZ] →
 vldR [σ 11,σ 27] →
 iv (σ 28) = ((tv (σ 11)).size : Nat) →
 extRel .fbits [σ 23] (σ 30) →
 aN (σ 30) (σ 31) →
 vldR [σ 11,σ 33] →
 cntR [σ 11,σ 34] →
 ¬ cutRPre [σ 11,vZ,vZ] →
 bv (σ 33) = true →
 iv (σ 22) = 0 →
 iv (σ 28) ≤ 32768 →
 bv (σ 27) = true →
    False
def leftR_L5 : Prop := ∀ σ : Nat → Value,
 σ 0 = (vS #[76,69,70,84]) →
 σ 2 = vF →
 σ 3 = vF →
 σ 4 = vO →
 σ 5 = vO →
 σ 7 = vZ →
 σ 8 = vZ →
 σ 9 = (vI 2) →
 σ 10 = (vG 0) →
 tS (σ 11) →
 σ 12 = vF →
 σ 13 = vZ →
 σ 14 = vF →
 σ 15 = vF →
 σ 16 = vO →
 σ 17 = vO →
 σ 19 = vZ →
 σ 20 = vZ →
 σ 21 = vO →
 tI (σ 22) →
 0 ≤ iv (σ 22) →
 iv (σ 22) ≤ 0 →
 tF (σ 23) →
 σ 24 = vE →
 σ 25 = vF →
 σ 26 = vZ →
 tI (σ 28) →
 0 ≤ iv (σ 28) →
 iv (σ 28) ≤ 32768 →
 tU (σ 30) →
 tU (σ 31) →
 fv (σ 23) = nE (iv (σ 22)) →
 leftRPre [(vS #[76,69,70,84]),vU, vF, vF, vO, vO,vU,vZ,vZ, (vI 2), (vG 0),σ 11, vF,vZ, vF, vF, vO, vO,vU,vZ,vZ, vO,σ 22,σ 23, vE, vF,vZ] →
 vldR [σ 11,σ 27] →
 iv (σ 28) = ((tv (σ 11)).size : Nat) →
 extRel .fbits [σ 23] (σ 30) →
 aN (σ 30) (σ 31) →
 vldR [σ 11,σ 33] →
 ¬ cntRPre [σ 11] →
 bv (σ 33) = true →
 iv (σ 22) = 0 →
 iv (σ 28) ≤ 32768 →
 bv (σ 27) = true →
    False
def leftR_L6 : Prop := ∀ σ : Nat → Value,
 σ 0 = (vS #[76,69,70,84]) →
 σ 2 = vF →
 σ 3 = vF →
 σ 4 = vO →
 σ 5 = vO →
 σ 7 = vZ →
 σ 8 = vZ →
 σ 9 = (vI 2) →
 σ 10 = (vG 0) →
 tS (σ 11) →
 σ 12 = vF →
 σ 13 = vZ →
 σ 14 = vF →
 σ 15 = vF →
 σ 16 = vO →
 σ 17 = vO →
 σ 19 = vZ →
 σ 20 = vZ →
 σ 21 = vO →
 tI (σ 22) →
 0 ≤ iv (σ 22) →
 iv (σ 22) ≤ 0 →
 tF (σ 23) →
 σ 24 = vE →
 σ 25 = vF →
 σ 26 = vZ →
 tI (σ 28) →
 0 ≤ iv (σ 28) →
 iv (σ 28) ≤ 32768 →
 tU (σ 30) →
 tU (σ 31) →
 fv (σ 23) = nE (iv (σ 22)) →
 leftRPre [(vS #[76,69,70,84]),vU, vF, vF, vO, vO,vU,vZ,vZ, (vI 2), (vG 0),σ 11, vF,vZ, vF, vF, vO, vO,vU,vZ,vZ, vO,σ 22,σ 23, vE, vF,vZ] →
 vldR [σ 11,σ 27] →
 iv (σ 28) = ((tv (σ 11)).size : Nat) →
 extRel .fbits [σ 23] (σ 30) →
 aN (σ 30) (σ 31) →
 vldR [σ 11,σ 33] →
 bv (σ 33) = false →
 iv (σ 22) = 0 →
 iv (σ 28) ≤ 32768 →
 bv (σ 27) = true →
    False
def leftR_L7 : Prop := ∀ σ : Nat → Value,
 σ 0 = (vS #[76,69,70,84]) →
 σ 2 = vF →
 σ 3 = vF →
 σ 4 = vO →
 σ 5 = vO →
 σ 7 = vZ →
 σ 8 = vZ →
 σ 9 = (vI 2) →
 σ 10 = (vG 0) →
 tS (σ 11) →
 σ 12 = vF →
 σ 13 = vZ →
 σ 14 = vF →
 σ 15 = vF →
 σ 16 = vO →
 σ 17 = vO →
 σ 19 = vZ →
 σ 20 = vZ →
 σ 21 = vO →
 tI (σ 22) →
 0 ≤ iv (σ 22) →
 iv (σ 22) ≤ 0 →
 tF (σ 23) →
 σ 24 = vE →
 σ 25 = vF →
 σ 26 = vZ →
 tI (σ 28) →
 0 ≤ iv (σ 28) →
 iv (σ 28) ≤ 32768 →
 tU (σ 30) →
 tU (σ 31) →
 fv (σ 23) = nE (iv (σ 22)) →
 leftRPre [(vS #[76,69,70,84]),vU, vF, vF, vO, vO,vU,vZ,vZ, (vI 2), (vG 0),σ 11, vF,vZ, vF, vF, vO, vO,vU,vZ,vZ, vO,σ 22,σ 23, vE, vF,vZ] →
 vldR [σ 11,σ 27] →
 iv (σ 28) = ((tv (σ 11)).size : Nat) →
 extRel .fbits [σ 23] (σ 30) →
 aN (σ 30) (σ 31) →
 ¬ vldRPre [σ 11] →
 iv (σ 22) = 0 →
 iv (σ 28) ≤ 32768 →
 bv (σ 27) = true →
    False
def leftR_L8 : Prop := ∀ σ : Nat → Value,
 σ 0 = (vS #[76,69,70,84]) →
 σ 2 = vF →
 σ 3 = vF →
 σ 4 = vO →
 σ 5 = vO →
 σ 7 = vZ →
 σ 8 = vZ →
 σ 9 = (vI 2) →
 σ 10 = (vG 0) →
 tS (σ 11) →
 σ 12 = vF →
 σ 13 = vZ →
 σ 14 = vF →
 σ 15 = vF →
 σ 16 = vO →
 σ 17 = vO →
 σ 19 = vZ →
 σ 20 = vZ →
 σ 21 = vO →
 tI (σ 22) →
 1 ≤ iv (σ 22) →
 iv (σ 22) ≤ 255 →
 tF (σ 23) →
 σ 24 = vE →
 σ 25 = vF →
 σ 26 = vZ →
 tI (σ 28) →
 0 ≤ iv (σ 28) →
 iv (σ 28) ≤ 32768 →
 tU (σ 30) →
 tU (σ 31) →
 tI (σ 34) →
 0 ≤ iv (σ 34) →
 iv (σ 34) ≤ 100000 →
 tS (σ 35) →
 tI (σ 36) →
 32769 ≤ iv (σ 36) →
 fv (σ 23) = nE (iv (σ 22)) →
 leftRPre [(vS #[76,69,70,84]),vU, vF, vF, vO, vO,vU,vZ,vZ, (vI 2), (vG 0),σ 11, vF,vZ, vF, vF, vO, vO,vU,vZ,vZ, vO,σ 22,σ 23, vE, vF,vZ] →
 vldR [σ 11,σ 27] →
 iv (σ 28) = ((tv (σ 11)).size : Nat) →
 extRel .fbits [σ 23] (σ 30) →
 aN (σ 30) (σ 31) →
 vldR [σ 11,σ 33] →
 cntR [σ 11,σ 34] →
 cutR [σ 11,vZ,σ 22,σ 35] →
 iv (σ 36) = ((tv (σ 35)).size : Nat) →
 32768 < iv (σ 36) →
 bv (σ 37) = !true →
 bv (σ 33) = true →
 iv (σ 22) ≠ 0 →
 iv (σ 28) ≤ 32768 →
 bv (σ 27) = true →
    False
def leftR_L9 : Prop := ∀ σ : Nat → Value,
 σ 0 = (vS #[76,69,70,84]) →
 σ 2 = vF →
 σ 3 = vF →
 σ 4 = vO →
 σ 5 = vO →
 σ 7 = vZ →
 σ 8 = vZ →
 σ 9 = (vI 2) →
 σ 10 = (vG 0) →
 tS (σ 11) →
 σ 12 = vF →
 σ 13 = vZ →
 σ 14 = vF →
 σ 15 = vF →
 σ 16 = vO →
 σ 17 = vO →
 σ 19 = vZ →
 σ 20 = vZ →
 σ 21 = vO →
 tI (σ 22) →
 1 ≤ iv (σ 22) →
 iv (σ 22) ≤ 255 →
 tF (σ 23) →
 σ 24 = vE →
 σ 25 = vF →
 σ 26 = vZ →
 tI (σ 28) →
 0 ≤ iv (σ 28) →
 iv (σ 28) ≤ 32768 →
 tU (σ 30) →
 tU (σ 31) →
 tI (σ 34) →
 0 ≤ iv (σ 34) →
 iv (σ 34) ≤ 100000 →
 tS (σ 35) →
 tI (σ 36) →
 0 ≤ iv (σ 36) →
 iv (σ 36) ≤ 32768 →
 fv (σ 23) = nE (iv (σ 22)) →
 leftRPre [(vS #[76,69,70,84]),vU, vF, vF, vO, vO,vU,vZ,vZ, (vI 2), (vG 0),σ 11, vF,vZ, vF, vF, vO, vO,vU,vZ,vZ, vO,σ 22,σ 23, vE, vF,vZ] →
 vldR [σ 11,σ 27] →
 iv (σ 28) = ((tv (σ 11)).size : Nat) →
 extRel .fbits [σ 23] (σ 30) →
 aN (σ 30) (σ 31) →
 vldR [σ 11,σ 33] →
 cntR [σ 11,σ 34] →
 cutR [σ 11,vZ,σ 22,σ 35] →
 iv (σ 36) = ((tv (σ 35)).size : Nat) →
 iv (σ 36) ≤ 32768 →
 bv (σ 37) = !false →
 bv (σ 33) = true →
 iv (σ 22) ≠ 0 →
 iv (σ 28) ≤ 32768 →
 bv (σ 27) = true →
    leftR [(vS #[76,69,70,84]),vU, vF, vF, vO, vO,vU,vZ,vZ, (vI 2), (vG 0),σ 11, vF,vZ, vF, vF, vO, vO,vU,vZ,vZ, vO,σ 22,σ 23, vE, vF,vZ, (vI 2), (vG 0),σ 35, vF,vZ, vT]
def leftR_L10 : Prop := ∀ σ : Nat → Value,
 σ 0 = (vS #[76,69,70,84]) →
 σ 2 = vF →
 σ 3 = vF →
 σ 4 = vO →
 σ 5 = vO →
 σ 7 = vZ →
 σ 8 = vZ →
 σ 9 = (vI 2) →
 σ 10 = (vG 0) →
 tS (σ 11) →
 σ 12 = vF →
 σ 13 = vZ →
 σ 14 = vF →
 σ 15 = vF →
 σ 16 = vO →
 σ 17 = vO →
 σ 19 = vZ →
 σ 20 = vZ →
 σ 21 = vO →
 tI (σ 22) →
 1 ≤ iv (σ 22) →
 iv (σ 22) ≤ 255 →
 tF (σ 23) →
 σ 24 = vE →
 σ 25 = vF →
 σ 26 = vZ →
 tI (σ 28) →
 0 ≤ iv (σ 28) →
 iv (σ 28) ≤ 32768 →
 tU (σ 30) →
 tU (σ 31) →
 tI (σ 34) →
 0 ≤ iv (σ 34) →
 iv (σ 34) ≤ 100000 →
 fv (σ 23) = nE (iv (σ 22)) →
 leftRPre [(vS #[76,69,70,84]),vU, vF, vF, vO, vO,vU,vZ,vZ, (vI 2), (vG 0),σ 11, vF,vZ, vF, vF, vO, vO,vU,vZ,vZ, vO,σ 22,σ 23, vE, vF,vZ] →
 vldR [σ 11,σ 27] →
 iv (σ 28) = ((tv (σ 11)).size : Nat) →
 extRel .fbits [σ 23] (σ 30) →
 aN (σ 30) (σ 31) →
 vldR [σ 11,σ 33] →
 cntR [σ 11,σ 34] →
 ¬ cutRPre [σ 11,vZ,σ 22] →
 bv (σ 33) = true →
 iv (σ 22) ≠ 0 →
 iv (σ 28) ≤ 32768 →
 bv (σ 27) = true →
    False
def leftR_L11 : Prop := ∀ σ : Nat → Value,
 σ 0 = (vS #[76,69,70,84]) →
 σ 2 = vF →
 σ 3 = vF →
 σ 4 = vO →
 σ 5 = vO →
 σ 7 = vZ →
 σ 8 = vZ →
 σ 9 = (vI 2) →
 σ 10 = (vG 0) →
 tS (σ 11) →
 σ 12 = vF →
 σ 13 = vZ →
 σ 14 = vF →
 σ 15 = vF →
 σ 16 = vO →
 σ 17 = vO →
 σ 19 = vZ →
 σ 20 = vZ →
 σ 21 = vO →
 tI (σ 22) →
 1 ≤ iv (σ 22) →
 iv (σ 22) ≤ 255 →
 tF (σ 23) →
 σ 24 = vE →
 σ 25 = vF →
 σ 26 = vZ →
 tI (σ 28) →
 0 ≤ iv (σ 28) →
 iv (σ 28) ≤ 32768 →
 tU (σ 30) →
 tU (σ 31) →
 fv (σ 23) = nE (iv (σ 22)) →
 leftRPre [(vS #[76,69,70,84]),vU, vF, vF, vO, vO,vU,vZ,vZ, (vI 2), (vG 0),σ 11, vF,vZ, vF, vF, vO, vO,vU,vZ,vZ, vO,σ 22,σ 23, vE, vF,vZ] →
 vldR [σ 11,σ 27] →
 iv (σ 28) = ((tv (σ 11)).size : Nat) →
 extRel .fbits [σ 23] (σ 30) →
 aN (σ 30) (σ 31) →
 vldR [σ 11,σ 33] →
 ¬ cntRPre [σ 11] →
 bv (σ 33) = true →
 iv (σ 22) ≠ 0 →
 iv (σ 28) ≤ 32768 →
 bv (σ 27) = true →
    False
def leftR_L12 : Prop := ∀ σ : Nat → Value,
 σ 0 = (vS #[76,69,70,84]) →
 σ 2 = vF →
 σ 3 = vF →
 σ 4 = vO →
 σ 5 = vO →
 σ 7 = vZ →
 σ 8 = vZ →
 σ 9 = (vI 2) →
 σ 10 = (vG 0) →
 tS (σ 11) →
 σ 12 = vF →
 σ 13 = vZ →
 σ 14 = vF →
 σ 15 = vF →
 σ 16 = vO →
 σ 17 = vO →
 σ 19 = vZ →
 σ 20 = vZ →
 σ 21 = vO →
 tI (σ 22) →
 1 ≤ iv (σ 22) →
 iv (σ 22) ≤ 255 →
 tF (σ 23) →
 σ 24 = vE →
 σ 25 = vF →
 σ 26 = vZ →
 tI (σ 28) →
 0 ≤ iv (σ 28) →
 iv (σ 28) ≤ 32768 →
 tU (σ 30) →
 tU (σ 31) →
 fv (σ 23) = nE (iv (σ 22)) →
 leftRPre [(vS #[76,69,70,84]),vU, vF, vF, vO, vO,vU,vZ,vZ, (vI 2), (vG 0),σ 11, vF,vZ, vF, vF, vO, vO,vU,vZ,vZ, vO,σ 22,σ 23, vE, vF,vZ] →
 vldR [σ 11,σ 27] →
 iv (σ 28) = ((tv (σ 11)).size : Nat) →
 extRel .fbits [σ 23] (σ 30) →
 aN (σ 30) (σ 31) →
 vldR [σ 11,σ 33] →
 bv (σ 33) = false →
 iv (σ 22) ≠ 0 →
 iv (σ 28) ≤ 32768 →
 bv (σ 27) = true →
    False
def leftR_L13 : Prop := ∀ σ : Nat → Value,
 σ 0 = (vS #[76,69,70,84]) →
 σ 2 = vF →
 σ 3 = vF →
 σ 4 = vO →
 σ 5 = vO →
 σ 7 = vZ →
 σ 8 = vZ →
 σ 9 = (vI 2) →
 σ 10 = (vG 0) →
 tS (σ 11) →
 σ 12 = vF →
 σ 13 = vZ →
 σ 14 = vF →
 σ 15 = vF →
 σ 16 = vO →
 σ 17 = vO →
 σ 19 = vZ →
 σ 20 = vZ →
 σ 21 = vO →
 tI (σ 22) →
 1 ≤ iv (σ 22) →
 iv (σ 22) ≤ 255 →
 tF (σ 23) →
 σ 24 = vE →
 σ 25 = vF →
 σ 26 = vZ →
 tI (σ 28) →
 0 ≤ iv (σ 28) →
 iv (σ 28) ≤ 32768 →
 tU (σ 30) →
 tU (σ 31) →
 fv (σ 23) = nE (iv (σ 22)) →
 leftRPre [(vS #[76,69,70,84]),vU, vF, vF, vO, vO,vU,vZ,vZ, (vI 2), (vG 0),σ 11, vF,vZ, vF, vF, vO, vO,vU,vZ,vZ, vO,σ 22,σ 23, vE, vF,vZ] →
 vldR [σ 11,σ 27] →
 iv (σ 28) = ((tv (σ 11)).size : Nat) →
 extRel .fbits [σ 23] (σ 30) →
 aN (σ 30) (σ 31) →
 ¬ vldRPre [σ 11] →
 iv (σ 22) ≠ 0 →
 iv (σ 28) ≤ 32768 →
 bv (σ 27) = true →
    False
def leftR_L14 : Prop := ∀ σ : Nat → Value,
 σ 0 = (vS #[76,69,70,84]) →
 σ 2 = vF →
 σ 3 = vF →
 σ 4 = vO →
 σ 5 = vO →
 σ 7 = vZ →
 σ 8 = vZ →
 σ 9 = (vI 2) →
 σ 10 = (vG 0) →
 tS (σ 11) →
 σ 12 = vF →
 σ 13 = vZ →
 σ 14 = vF →
 σ 15 = vF →
 σ 16 = vO →
 σ 17 = vO →
 σ 19 = vZ →
 σ 20 = vZ →
 σ 21 = vO →
 tI (σ 22) →
 0 ≤ iv (σ 22) →
 iv (σ 22) ≤ 255 →
 tF (σ 23) →
 σ 24 = vE →
 σ 25 = vF →
 σ 26 = vZ →
 fv (σ 23) = nE (iv (σ 22)) →
 leftRPre [(vS #[76,69,70,84]),vU, vF, vF, vO, vO,vU,vZ,vZ, (vI 2), (vG 0),σ 11, vF,vZ, vF, vF, vO, vO,vU,vZ,vZ, vO,σ 22,σ 23, vE, vF,vZ] →
 vldR [σ 11,σ 27] →
 bv (σ 27) = false →
    False
theorem leftR_tie : leftC.goals (cfgB leftC.base cons) [] 2000 = (leftR_L0 ∧ leftR_L1 ∧ leftR_L2 ∧ leftR_L3 ∧ leftR_L4 ∧ leftR_L5 ∧ leftR_L6 ∧ leftR_L7 ∧ leftR_L8 ∧ leftR_L9 ∧ leftR_L10 ∧ leftR_L11 ∧ leftR_L12 ∧ leftR_L13 ∧ leftR_L14 ∧ True) := by kernel_rfl
theorem leftR_L0_ok : leftR_L0 := by
  intro σ; intros
  have p0 := ‹leftRPre _›
  have h11 : Nice (tl (σ 11)) := p0
  have q11 := h11.2
  have n_ := ‹¬ vldRPre _›
  exact n_ (vld_pre (by omega))
theorem leftR_L1_ok : leftR_L1 := by
  intro σ; intros
  have p0 := ‹leftRPre _›
  have h11 : Nice (tl (σ 11)) := p0
  have q11 := h11.2
  have hq := ‹iv (σ 28) = ((tv (σ 11)).size : Nat)›
  rw [← tl_len] at hq
  omega
theorem leftR_L2_ok : leftR_L2 := by
  intro σ; intros
  have p0 := ‹leftRPre _›
  have h11 : Nice (tl (σ 11)) := p0
  have q11 := h11.2
  have hc0 := ‹cutR _›
  have hc : tl (σ 35) = ((tl (σ 11)).drop (cutL (iv (vZ)).toNat (tl (σ 11)))).take (cutL (iv (vZ)).toNat ((tl (σ 11)).drop (cutL (iv (vZ)).toNat (tl (σ 11))))) := hc0
  have hq := ‹iv (σ 36) = ((tv (σ 35)).size : Nat)›
  rw [← tl_len, hc, List.length_take, List.length_drop] at hq
  omega
theorem leftR_L3_ok : leftR_L3 := by
  intro σ; intros
  have p0 := ‹leftRPre _›
  have h11 : Nice (tl (σ 11)) := p0
  have q11 := h11.2
  have hc0 := ‹cutR _›
  have hc : tl (σ 35) = ((tl (σ 11)).drop (cutL (iv (vZ)).toNat (tl (σ 11)))).take (cutL (iv (vZ)).toNat ((tl (σ 11)).drop (cutL (iv (vZ)).toNat (tl (σ 11))))) := hc0
  show tl (σ 35) = (tl (σ 11)).take (cutL (iv (σ 22)).toNat (tl (σ 11)))
  have e0 : cutL (iv (vZ)).toNat (tl (σ 11)) = 0 := rfl
  rw [hc, e0, List.drop_zero]
  have e1 : (iv (vZ)).toNat = (iv (σ 22)).toNat := by show (0 : Int).toNat = _; rw [‹iv (σ 22) = 0›]
  rw [e1]
theorem leftR_L4_ok : leftR_L4 := by
  intro σ; intros
  have p0 := ‹leftRPre _›
  have h11 : Nice (tl (σ 11)) := p0
  have q11 := h11.2
  have n_ := ‹¬ cutRPre _›
  exact n_ (by show (tl (σ 11)).length ≤ _; omega)
theorem leftR_L5_ok : leftR_L5 := by
  intro σ; intros
  have p0 := ‹leftRPre _›
  have h11 : Nice (tl (σ 11)) := p0
  have q11 := h11.2
  have n_ := ‹¬ cntRPre _›
  exact n_ (by show (tl (σ 11)).length ≤ _; omega)
theorem leftR_L6_ok : leftR_L6 := by
  intro σ; intros
  have p0 := ‹leftRPre _›
  have h11 : Nice (tl (σ 11)) := p0
  have q11 := h11.2
  have v := ‹vldR [σ 11,σ 33]›
  exact vld_yes v h11.1 ‹bv (σ 33) = false›
theorem leftR_L7_ok : leftR_L7 := by
  intro σ; intros
  have p0 := ‹leftRPre _›
  have h11 : Nice (tl (σ 11)) := p0
  have q11 := h11.2
  have n_ := ‹¬ vldRPre _›
  exact n_ (vld_pre (by omega))
theorem leftR_L8_ok : leftR_L8 := by
  intro σ; intros
  have p0 := ‹leftRPre _›
  have h11 : Nice (tl (σ 11)) := p0
  have q11 := h11.2
  have hc0 := ‹cutR _›
  have hc : tl (σ 35) = ((tl (σ 11)).drop (cutL (iv (vZ)).toNat (tl (σ 11)))).take (cutL (iv (σ 22)).toNat ((tl (σ 11)).drop (cutL (iv (vZ)).toNat (tl (σ 11))))) := hc0
  have hq := ‹iv (σ 36) = ((tv (σ 35)).size : Nat)›
  rw [← tl_len, hc, List.length_take, List.length_drop] at hq
  omega
theorem leftR_L9_ok : leftR_L9 := by
  intro σ; intros
  have p0 := ‹leftRPre _›
  have h11 : Nice (tl (σ 11)) := p0
  have q11 := h11.2
  have hc0 := ‹cutR _›
  have hc : tl (σ 35) = ((tl (σ 11)).drop (cutL (iv (vZ)).toNat (tl (σ 11)))).take (cutL (iv (σ 22)).toNat ((tl (σ 11)).drop (cutL (iv (vZ)).toNat (tl (σ 11))))) := hc0
  show tl (σ 35) = (tl (σ 11)).take (cutL (iv (σ 22)).toNat (tl (σ 11)))
  have e0 : cutL (iv (vZ)).toNat (tl (σ 11)) = 0 := rfl
  rw [hc, e0, List.drop_zero]
theorem leftR_L10_ok : leftR_L10 := by
  intro σ; intros
  have p0 := ‹leftRPre _›
  have h11 : Nice (tl (σ 11)) := p0
  have q11 := h11.2
  have n_ := ‹¬ cutRPre _›
  exact n_ (by show (tl (σ 11)).length ≤ _; omega)
theorem leftR_L11_ok : leftR_L11 := by
  intro σ; intros
  have p0 := ‹leftRPre _›
  have h11 : Nice (tl (σ 11)) := p0
  have q11 := h11.2
  have n_ := ‹¬ cntRPre _›
  exact n_ (by show (tl (σ 11)).length ≤ _; omega)
theorem leftR_L12_ok : leftR_L12 := by
  intro σ; intros
  have p0 := ‹leftRPre _›
  have h11 : Nice (tl (σ 11)) := p0
  have q11 := h11.2
  have v := ‹vldR [σ 11,σ 33]›
  exact vld_yes v h11.1 ‹bv (σ 33) = false›
theorem leftR_L13_ok : leftR_L13 := by
  intro σ; intros
  have p0 := ‹leftRPre _›
  have h11 : Nice (tl (σ 11)) := p0
  have q11 := h11.2
  have n_ := ‹¬ vldRPre _›
  exact n_ (vld_pre (by omega))
theorem leftR_L14_ok : leftR_L14 := by
  intro σ; intros
  have p0 := ‹leftRPre _›
  have h11 : Nice (tl (σ 11)) := p0
  have q11 := h11.2
  have v := ‹vldR [σ 11,σ 27]›
  exact vld_yes v h11.1 ‹bv (σ 27) = false›
theorem left_ok : leftC.ok Tryz.prog Tabs :=
  by_tie leftR_tie (by kernel_rfl) cons_ok ⟨leftR_L0_ok, leftR_L1_ok, leftR_L2_ok, leftR_L3_ok, leftR_L4_ok, leftR_L5_ok, leftR_L6_ok, leftR_L7_ok, leftR_L8_ok, leftR_L9_ok, leftR_L10_ok, leftR_L11_ok, leftR_L12_ok, leftR_L13_ok, leftR_L14_ok, trivial⟩
def midR_L0 : Prop := ∀ σ : Nat → Value,
 σ 0 = (vS #[77,73,68]) →
 σ 2 = vF →
 σ 3 = vF →
 σ 4 = vO →
 σ 5 = vO →
 σ 7 = vZ →
 σ 8 = vZ →
 σ 9 = (vI 2) →
 σ 10 = (vG 0) →
 tS (σ 11) →
 σ 12 = vF →
 σ 13 = vZ →
 σ 14 = vF →
 σ 15 = vF →
 σ 16 = vO →
 σ 17 = vO →
 σ 19 = vZ →
 σ 20 = vZ →
 σ 21 = vO →
 tI (σ 22) →
 1 ≤ iv (σ 22) →
 iv (σ 22) ≤ 256 →
 tF (σ 23) →
 σ 24 = vE →
 σ 25 = vF →
 σ 26 = vZ →
 σ 27 = vF →
 σ 28 = vF →
 σ 29 = vO →
 σ 30 = vO →
 σ 32 = vZ →
 σ 33 = vZ →
 σ 34 = vO →
 tI (σ 35) →
 0 ≤ iv (σ 35) →
 iv (σ 35) ≤ 1000 →
 tF (σ 36) →
 σ 37 = vE →
 σ 38 = vF →
 σ 39 = vZ →
 fv (σ 36) = nE (iv (σ 35)) →
 fv (σ 23) = nE (iv (σ 22)) →
 midRPre [(vS #[77,73,68]),vU, vF, vF, vO, vO,vU,vZ,vZ, (vI 2), (vG 0),σ 11, vF,vZ, vF, vF, vO, vO,vU,vZ,vZ, vO,σ 22,σ 23, vE, vF,vZ, vF, vF, vO, vO,vU,vZ,vZ, vO,σ 35,σ 36, vE, vF,vZ] →
 ¬ vldRPre [σ 11] →
    False
def midR_L1 : Prop := ∀ σ : Nat → Value,
 σ 0 = (vS #[77,73,68]) →
 σ 2 = vF →
 σ 3 = vF →
 σ 4 = vO →
 σ 5 = vO →
 σ 7 = vZ →
 σ 8 = vZ →
 σ 9 = (vI 2) →
 σ 10 = (vG 0) →
 tS (σ 11) →
 σ 12 = vF →
 σ 13 = vZ →
 σ 14 = vF →
 σ 15 = vF →
 σ 16 = vO →
 σ 17 = vO →
 σ 19 = vZ →
 σ 20 = vZ →
 σ 21 = vO →
 tI (σ 22) →
 1 ≤ iv (σ 22) →
 iv (σ 22) ≤ 256 →
 tF (σ 23) →
 σ 24 = vE →
 σ 25 = vF →
 σ 26 = vZ →
 σ 27 = vF →
 σ 28 = vF →
 σ 29 = vO →
 σ 30 = vO →
 σ 32 = vZ →
 σ 33 = vZ →
 σ 34 = vO →
 tI (σ 35) →
 0 ≤ iv (σ 35) →
 iv (σ 35) ≤ 1000 →
 tF (σ 36) →
 σ 37 = vE →
 σ 38 = vF →
 σ 39 = vZ →
 tI (σ 41) →
 32769 ≤ iv (σ 41) →
 fv (σ 36) = nE (iv (σ 35)) →
 fv (σ 23) = nE (iv (σ 22)) →
 midRPre [(vS #[77,73,68]),vU, vF, vF, vO, vO,vU,vZ,vZ, (vI 2), (vG 0),σ 11, vF,vZ, vF, vF, vO, vO,vU,vZ,vZ, vO,σ 22,σ 23, vE, vF,vZ, vF, vF, vO, vO,vU,vZ,vZ, vO,σ 35,σ 36, vE, vF,vZ] →
 vldR [σ 11,σ 40] →
 iv (σ 41) = ((tv (σ 11)).size : Nat) →
 32768 < iv (σ 41) →
 bv (σ 40) = true →
    False
def midR_L2 : Prop := ∀ σ : Nat → Value,
 σ 0 = (vS #[77,73,68]) →
 σ 2 = vF →
 σ 3 = vF →
 σ 4 = vO →
 σ 5 = vO →
 σ 7 = vZ →
 σ 8 = vZ →
 σ 9 = (vI 2) →
 σ 10 = (vG 0) →
 tS (σ 11) →
 σ 12 = vF →
 σ 13 = vZ →
 σ 14 = vF →
 σ 15 = vF →
 σ 16 = vO →
 σ 17 = vO →
 σ 19 = vZ →
 σ 20 = vZ →
 σ 21 = vO →
 tI (σ 22) →
 1 ≤ iv (σ 22) →
 iv (σ 22) ≤ 256 →
 tF (σ 23) →
 σ 24 = vE →
 σ 25 = vF →
 σ 26 = vZ →
 σ 27 = vF →
 σ 28 = vF →
 σ 29 = vO →
 σ 30 = vO →
 σ 32 = vZ →
 σ 33 = vZ →
 σ 34 = vO →
 tI (σ 35) →
 0 ≤ iv (σ 35) →
 iv (σ 35) ≤ 0 →
 tF (σ 36) →
 σ 37 = vE →
 σ 38 = vF →
 σ 39 = vZ →
 tI (σ 41) →
 0 ≤ iv (σ 41) →
 iv (σ 41) ≤ 32768 →
 tU (σ 43) →
 tU (σ 44) →
 tU (σ 45) →
 tU (σ 46) →
 tI (σ 49) →
 0 ≤ iv (σ 49) →
 iv (σ 49) ≤ 100000 →
 tI (σ 50) →
 0 ≤ iv (σ 50) →
 iv (σ 50) ≤ 255 →
 tF (σ 51) →
 tS (σ 52) →
 tI (σ 53) →
 32769 ≤ iv (σ 53) →
 fv (σ 36) = nE (iv (σ 35)) →
 fv (σ 23) = nE (iv (σ 22)) →
 midRPre [(vS #[77,73,68]),vU, vF, vF, vO, vO,vU,vZ,vZ, (vI 2), (vG 0),σ 11, vF,vZ, vF, vF, vO, vO,vU,vZ,vZ, vO,σ 22,σ 23, vE, vF,vZ, vF, vF, vO, vO,vU,vZ,vZ, vO,σ 35,σ 36, vE, vF,vZ] →
 vldR [σ 11,σ 40] →
 iv (σ 41) = ((tv (σ 11)).size : Nat) →
 extRel .fbits [σ 23] (σ 43) →
 aN (σ 43) (σ 44) →
 extRel .fbits [σ 36] (σ 45) →
 aN (σ 45) (σ 46) →
 vldR [σ 11,σ 48] →
 cntR [σ 11,σ 49] →
 iv (σ 50) = iv (σ 22) - 1 →
 fv (σ 51) = nE (iv (σ 50)) →
 cutR [σ 11,σ 50,vZ,σ 52] →
 iv (σ 53) = ((tv (σ 52)).size : Nat) →
 32768 < iv (σ 53) →
 bv (σ 54) = !true →
 bv (σ 48) = true →
 iv (σ 35) = 0 →
 iv (σ 41) ≤ 32768 →
 bv (σ 40) = true →
    False
def midR_L3 : Prop := ∀ σ : Nat → Value,
 σ 0 = (vS #[77,73,68]) →
 σ 2 = vF →
 σ 3 = vF →
 σ 4 = vO →
 σ 5 = vO →
 σ 7 = vZ →
 σ 8 = vZ →
 σ 9 = (vI 2) →
 σ 10 = (vG 0) →
 tS (σ 11) →
 σ 12 = vF →
 σ 13 = vZ →
 σ 14 = vF →
 σ 15 = vF →
 σ 16 = vO →
 σ 17 = vO →
 σ 19 = vZ →
 σ 20 = vZ →
 σ 21 = vO →
 tI (σ 22) →
 1 ≤ iv (σ 22) →
 iv (σ 22) ≤ 256 →
 tF (σ 23) →
 σ 24 = vE →
 σ 25 = vF →
 σ 26 = vZ →
 σ 27 = vF →
 σ 28 = vF →
 σ 29 = vO →
 σ 30 = vO →
 σ 32 = vZ →
 σ 33 = vZ →
 σ 34 = vO →
 tI (σ 35) →
 0 ≤ iv (σ 35) →
 iv (σ 35) ≤ 0 →
 tF (σ 36) →
 σ 37 = vE →
 σ 38 = vF →
 σ 39 = vZ →
 tI (σ 41) →
 0 ≤ iv (σ 41) →
 iv (σ 41) ≤ 32768 →
 tU (σ 43) →
 tU (σ 44) →
 tU (σ 45) →
 tU (σ 46) →
 tI (σ 49) →
 0 ≤ iv (σ 49) →
 iv (σ 49) ≤ 100000 →
 tI (σ 50) →
 0 ≤ iv (σ 50) →
 iv (σ 50) ≤ 255 →
 tF (σ 51) →
 tS (σ 52) →
 tI (σ 53) →
 0 ≤ iv (σ 53) →
 iv (σ 53) ≤ 32768 →
 fv (σ 36) = nE (iv (σ 35)) →
 fv (σ 23) = nE (iv (σ 22)) →
 midRPre [(vS #[77,73,68]),vU, vF, vF, vO, vO,vU,vZ,vZ, (vI 2), (vG 0),σ 11, vF,vZ, vF, vF, vO, vO,vU,vZ,vZ, vO,σ 22,σ 23, vE, vF,vZ, vF, vF, vO, vO,vU,vZ,vZ, vO,σ 35,σ 36, vE, vF,vZ] →
 vldR [σ 11,σ 40] →
 iv (σ 41) = ((tv (σ 11)).size : Nat) →
 extRel .fbits [σ 23] (σ 43) →
 aN (σ 43) (σ 44) →
 extRel .fbits [σ 36] (σ 45) →
 aN (σ 45) (σ 46) →
 vldR [σ 11,σ 48] →
 cntR [σ 11,σ 49] →
 iv (σ 50) = iv (σ 22) - 1 →
 fv (σ 51) = nE (iv (σ 50)) →
 cutR [σ 11,σ 50,vZ,σ 52] →
 iv (σ 53) = ((tv (σ 52)).size : Nat) →
 iv (σ 53) ≤ 32768 →
 bv (σ 54) = !false →
 bv (σ 48) = true →
 iv (σ 35) = 0 →
 iv (σ 41) ≤ 32768 →
 bv (σ 40) = true →
    midR [(vS #[77,73,68]),vU, vF, vF, vO, vO,vU,vZ,vZ, (vI 2), (vG 0),σ 11, vF,vZ, vF, vF, vO, vO,vU,vZ,vZ, vO,σ 22,σ 23, vE, vF,vZ, vF, vF, vO, vO,vU,vZ,vZ, vO,σ 35,σ 36, vE, vF,vZ, (vI 2), (vG 0),σ 52, vF,vZ, vT]
def midR_L4 : Prop := ∀ σ : Nat → Value,
 σ 0 = (vS #[77,73,68]) →
 σ 2 = vF →
 σ 3 = vF →
 σ 4 = vO →
 σ 5 = vO →
 σ 7 = vZ →
 σ 8 = vZ →
 σ 9 = (vI 2) →
 σ 10 = (vG 0) →
 tS (σ 11) →
 σ 12 = vF →
 σ 13 = vZ →
 σ 14 = vF →
 σ 15 = vF →
 σ 16 = vO →
 σ 17 = vO →
 σ 19 = vZ →
 σ 20 = vZ →
 σ 21 = vO →
 tI (σ 22) →
 1 ≤ iv (σ 22) →
 iv (σ 22) ≤ 256 →
 tF (σ 23) →
 σ 24 = vE →
 σ 25 = vF →
 σ 26 = vZ →
 σ 27 = vF →
 σ 28 = vF →
 σ 29 = vO →
 σ 30 = vO →
 σ 32 = vZ →
 σ 33 = vZ →
 σ 34 = vO →
 tI (σ 35) →
 0 ≤ iv (σ 35) →
 iv (σ 35) ≤ 0 →
 tF (σ 36) →
 σ 37 = vE →
 σ 38 = vF →
 σ 39 = vZ →
 tI (σ 41) →
 0 ≤ iv (σ 41) →
 iv (σ 41) ≤ 32768 →
 tU (σ 43) →
 tU (σ 44) →
 tU (σ 45) →
 tU (σ 46) →
 tI (σ 49) →
 0 ≤ iv (σ 49) →
 iv (σ 49) ≤ 100000 →
 tI (σ 50) →
 0 ≤ iv (σ 50) →
 iv (σ 50) ≤ 255 →
 tF (σ 51) →
 fv (σ 36) = nE (iv (σ 35)) →
 fv (σ 23) = nE (iv (σ 22)) →
 midRPre [(vS #[77,73,68]),vU, vF, vF, vO, vO,vU,vZ,vZ, (vI 2), (vG 0),σ 11, vF,vZ, vF, vF, vO, vO,vU,vZ,vZ, vO,σ 22,σ 23, vE, vF,vZ, vF, vF, vO, vO,vU,vZ,vZ, vO,σ 35,σ 36, vE, vF,vZ] →
 vldR [σ 11,σ 40] →
 iv (σ 41) = ((tv (σ 11)).size : Nat) →
 extRel .fbits [σ 23] (σ 43) →
 aN (σ 43) (σ 44) →
 extRel .fbits [σ 36] (σ 45) →
 aN (σ 45) (σ 46) →
 vldR [σ 11,σ 48] →
 cntR [σ 11,σ 49] →
 iv (σ 50) = iv (σ 22) - 1 →
 fv (σ 51) = nE (iv (σ 50)) →
 ¬ cutRPre [σ 11,σ 50,vZ] →
 bv (σ 48) = true →
 iv (σ 35) = 0 →
 iv (σ 41) ≤ 32768 →
 bv (σ 40) = true →
    False
def midR_L5 : Prop := ∀ σ : Nat → Value,
 σ 0 = (vS #[77,73,68]) →
 σ 2 = vF →
 σ 3 = vF →
 σ 4 = vO →
 σ 5 = vO →
 σ 7 = vZ →
 σ 8 = vZ →
 σ 9 = (vI 2) →
 σ 10 = (vG 0) →
 tS (σ 11) →
 σ 12 = vF →
 σ 13 = vZ →
 σ 14 = vF →
 σ 15 = vF →
 σ 16 = vO →
 σ 17 = vO →
 σ 19 = vZ →
 σ 20 = vZ →
 σ 21 = vO →
 tI (σ 22) →
 1 ≤ iv (σ 22) →
 iv (σ 22) ≤ 256 →
 tF (σ 23) →
 σ 24 = vE →
 σ 25 = vF →
 σ 26 = vZ →
 σ 27 = vF →
 σ 28 = vF →
 σ 29 = vO →
 σ 30 = vO →
 σ 32 = vZ →
 σ 33 = vZ →
 σ 34 = vO →
 tI (σ 35) →
 0 ≤ iv (σ 35) →
 iv (σ 35) ≤ 0 →
 tF (σ 36) →
 σ 37 = vE →
 σ 38 = vF →
 σ 39 = vZ →
 tI (σ 41) →
 0 ≤ iv (σ 41) →
 iv (σ 41) ≤ 32768 →
 tU (σ 43) →
 tU (σ 44) →
 tU (σ 45) →
 tU (σ 46) →
 fv (σ 36) = nE (iv (σ 35)) →
 fv (σ 23) = nE (iv (σ 22)) →
 midRPre [(vS #[77,73,68]),vU, vF, vF, vO, vO,vU,vZ,vZ, (vI 2), (vG 0),σ 11, vF,vZ, vF, vF, vO, vO,vU,vZ,vZ, vO,σ 22,σ 23, vE, vF,vZ, vF, vF, vO, vO,vU,vZ,vZ, vO,σ 35,σ 36, vE, vF,vZ] →
 vldR [σ 11,σ 40] →
 iv (σ 41) = ((tv (σ 11)).size : Nat) →
 extRel .fbits [σ 23] (σ 43) →
 aN (σ 43) (σ 44) →
 extRel .fbits [σ 36] (σ 45) →
 aN (σ 45) (σ 46) →
 vldR [σ 11,σ 48] →
 ¬ cntRPre [σ 11] →
 bv (σ 48) = true →
 iv (σ 35) = 0 →
 iv (σ 41) ≤ 32768 →
 bv (σ 40) = true →
    False
def midR_L6 : Prop := ∀ σ : Nat → Value,
 σ 0 = (vS #[77,73,68]) →
 σ 2 = vF →
 σ 3 = vF →
 σ 4 = vO →
 σ 5 = vO →
 σ 7 = vZ →
 σ 8 = vZ →
 σ 9 = (vI 2) →
 σ 10 = (vG 0) →
 tS (σ 11) →
 σ 12 = vF →
 σ 13 = vZ →
 σ 14 = vF →
 σ 15 = vF →
 σ 16 = vO →
 σ 17 = vO →
 σ 19 = vZ →
 σ 20 = vZ →
 σ 21 = vO →
 tI (σ 22) →
 1 ≤ iv (σ 22) →
 iv (σ 22) ≤ 256 →
 tF (σ 23) →
 σ 24 = vE →
 σ 25 = vF →
 σ 26 = vZ →
 σ 27 = vF →
 σ 28 = vF →
 σ 29 = vO →
 σ 30 = vO →
 σ 32 = vZ →
 σ 33 = vZ →
 σ 34 = vO →
 tI (σ 35) →
 0 ≤ iv (σ 35) →
 iv (σ 35) ≤ 0 →
 tF (σ 36) →
 σ 37 = vE →
 σ 38 = vF →
 σ 39 = vZ →
 tI (σ 41) →
 0 ≤ iv (σ 41) →
 iv (σ 41) ≤ 32768 →
 tU (σ 43) →
 tU (σ 44) →
 tU (σ 45) →
 tU (σ 46) →
 fv (σ 36) = nE (iv (σ 35)) →
 fv (σ 23) = nE (iv (σ 22)) →
 midRPre [(vS #[77,73,68]),vU, vF, vF, vO, vO,vU,vZ,vZ, (vI 2), (vG 0),σ 11, vF,vZ, vF, vF, vO, vO,vU,vZ,vZ, vO,σ 22,σ 23, vE, vF,vZ, vF, vF, vO, vO,vU,vZ,vZ, vO,σ 35,σ 36, vE, vF,vZ] →
 vldR [σ 11,σ 40] →
 iv (σ 41) = ((tv (σ 11)).size : Nat) →
 extRel .fbits [σ 23] (σ 43) →
 aN (σ 43) (σ 44) →
 extRel .fbits [σ 36] (σ 45) →
 aN (σ 45) (σ 46) →
 vldR [σ 11,σ 48] →
 bv (σ 48) = false →
 iv (σ 35) = 0 →
 iv (σ 41) ≤ 32768 →
 bv (σ 40) = true →
    False
def midR_L7 : Prop := ∀ σ : Nat → Value,
 σ 0 = (vS #[77,73,68]) →
 σ 2 = vF →
 σ 3 = vF →
 σ 4 = vO →
 σ 5 = vO →
 σ 7 = vZ →
 σ 8 = vZ →
 σ 9 = (vI 2) →
 σ 10 = (vG 0) →
 tS (σ 11) →
 σ 12 = vF →
 σ 13 = vZ →
 σ 14 = vF →
 σ 15 = vF →
 σ 16 = vO →
 σ 17 = vO →
 σ 19 = vZ →
 σ 20 = vZ →
 σ 21 = vO →
 tI (σ 22) →
 1 ≤ iv (σ 22) →
 iv (σ 22) ≤ 256 →
 tF (σ 23) →
 σ 24 = vE →
 σ 25 = vF →
 σ 26 = vZ →
 σ 27 = vF →
 σ 28 = vF →
 σ 29 = vO →
 σ 30 = vO →
 σ 32 = vZ →
 σ 33 = vZ →
 σ 34 = vO →
 tI (σ 35) →
 0 ≤ iv (σ 35) →
 iv (σ 35) ≤ 0 →
 tF (σ 36) →
 σ 37 = vE →
 σ 38 = vF →
 σ 39 = vZ →
 tI (σ 41) →
 0 ≤ iv (σ 41) →
 iv (σ 41) ≤ 32768 →
 tU (σ 43) →
 tU (σ 44) →
 tU (σ 45) →
 tU (σ 46) →
 fv (σ 36) = nE (iv (σ 35)) →
 fv (σ 23) = nE (iv (σ 22)) →
 midRPre [(vS #[77,73,68]),vU, vF, vF, vO, vO,vU,vZ,vZ, (vI 2), (vG 0),σ 11, vF,vZ, vF, vF, vO, vO,vU,vZ,vZ, vO,σ 22,σ 23, vE, vF,vZ, vF, vF, vO, vO,vU,vZ,vZ, vO,σ 35,σ 36, vE, vF,vZ] →
 vldR [σ 11,σ 40] →
 iv (σ 41) = ((tv (σ 11)).size : Nat) →
 extRel .fbits [σ 23] (σ 43) →
 aN (σ 43) (σ 44) →
 extRel .fbits [σ 36] (σ 45) →
 aN (σ 45) (σ 46) →
 ¬ vldRPre [σ 11] →
 iv (σ 35) = 0 →
 iv (σ 41) ≤ 32768 →
 bv (σ 40) = true →
    False
def midR_L8 : Prop := ∀ σ : Nat → Value,
 σ 0 = (vS #[77,73,68]) →
 σ 2 = vF →
 σ 3 = vF →
 σ 4 = vO →
 σ 5 = vO →
 σ 7 = vZ →
 σ 8 = vZ →
 σ 9 = (vI 2) →
 σ 10 = (vG 0) →
 tS (σ 11) →
 σ 12 = vF →
 σ 13 = vZ →
 σ 14 = vF →
 σ 15 = vF →
 σ 16 = vO →
 σ 17 = vO →
 σ 19 = vZ →
 σ 20 = vZ →
 σ 21 = vO →
 tI (σ 22) →
 1 ≤ iv (σ 22) →
 iv (σ 22) ≤ 256 →
 tF (σ 23) →
 σ 24 = vE →
 σ 25 = vF →
 σ 26 = vZ →
 σ 27 = vF →
 σ 28 = vF →
 σ 29 = vO →
 σ 30 = vO →
 σ 32 = vZ →
 σ 33 = vZ →
 σ 34 = vO →
 tI (σ 35) →
 1 ≤ iv (σ 35) →
 iv (σ 35) ≤ 1000 →
 tF (σ 36) →
 σ 37 = vE →
 σ 38 = vF →
 σ 39 = vZ →
 tI (σ 41) →
 0 ≤ iv (σ 41) →
 iv (σ 41) ≤ 32768 →
 tU (σ 43) →
 tU (σ 44) →
 tU (σ 45) →
 tU (σ 46) →
 tI (σ 49) →
 0 ≤ iv (σ 49) →
 iv (σ 49) ≤ 100000 →
 tI (σ 50) →
 0 ≤ iv (σ 50) →
 iv (σ 50) ≤ 255 →
 tF (σ 51) →
 tS (σ 52) →
 tI (σ 53) →
 32769 ≤ iv (σ 53) →
 fv (σ 36) = nE (iv (σ 35)) →
 fv (σ 23) = nE (iv (σ 22)) →
 midRPre [(vS #[77,73,68]),vU, vF, vF, vO, vO,vU,vZ,vZ, (vI 2), (vG 0),σ 11, vF,vZ, vF, vF, vO, vO,vU,vZ,vZ, vO,σ 22,σ 23, vE, vF,vZ, vF, vF, vO, vO,vU,vZ,vZ, vO,σ 35,σ 36, vE, vF,vZ] →
 vldR [σ 11,σ 40] →
 iv (σ 41) = ((tv (σ 11)).size : Nat) →
 extRel .fbits [σ 23] (σ 43) →
 aN (σ 43) (σ 44) →
 extRel .fbits [σ 36] (σ 45) →
 aN (σ 45) (σ 46) →
 vldR [σ 11,σ 48] →
 cntR [σ 11,σ 49] →
 iv (σ 50) = iv (σ 22) - 1 →
 fv (σ 51) = nE (iv (σ 50)) →
 cutR [σ 11,σ 50,σ 35,σ 52] →
 iv (σ 53) = ((tv (σ 52)).size : Nat) →
 32768 < iv (σ 53) →
 bv (σ 54) = !true →
 bv (σ 48) = true →
 iv (σ 35) ≠ 0 →
 iv (σ 41) ≤ 32768 →
 bv (σ 40) = true →
    False
def midR_L9 : Prop := ∀ σ : Nat → Value,
 σ 0 = (vS #[77,73,68]) →
 σ 2 = vF →
 σ 3 = vF →
 σ 4 = vO →
 σ 5 = vO →
 σ 7 = vZ →
 σ 8 = vZ →
 σ 9 = (vI 2) →
 σ 10 = (vG 0) →
 tS (σ 11) →
 σ 12 = vF →
 σ 13 = vZ →
 σ 14 = vF →
 σ 15 = vF →
 σ 16 = vO →
 σ 17 = vO →
 σ 19 = vZ →
 σ 20 = vZ →
 σ 21 = vO →
 tI (σ 22) →
 1 ≤ iv (σ 22) →
 iv (σ 22) ≤ 256 →
 tF (σ 23) →
 σ 24 = vE →
 σ 25 = vF →
 σ 26 = vZ →
 σ 27 = vF →
 σ 28 = vF →
 σ 29 = vO →
 σ 30 = vO →
 σ 32 = vZ →
 σ 33 = vZ →
 σ 34 = vO →
 tI (σ 35) →
 1 ≤ iv (σ 35) →
 iv (σ 35) ≤ 1000 →
 tF (σ 36) →
 σ 37 = vE →
 σ 38 = vF →
 σ 39 = vZ →
 tI (σ 41) →
 0 ≤ iv (σ 41) →
 iv (σ 41) ≤ 32768 →
 tU (σ 43) →
 tU (σ 44) →
 tU (σ 45) →
 tU (σ 46) →
 tI (σ 49) →
 0 ≤ iv (σ 49) →
 iv (σ 49) ≤ 100000 →
 tI (σ 50) →
 0 ≤ iv (σ 50) →
 iv (σ 50) ≤ 255 →
 tF (σ 51) →
 tS (σ 52) →
 tI (σ 53) →
 0 ≤ iv (σ 53) →
 iv (σ 53) ≤ 32768 →
 fv (σ 36) = nE (iv (σ 35)) →
 fv (σ 23) = nE (iv (σ 22)) →
 midRPre [(vS #[77,73,68]),vU, vF, vF, vO, vO,vU,vZ,vZ, (vI 2), (vG 0),σ 11, vF,vZ, vF, vF, vO, vO,vU,vZ,vZ, vO,σ 22,σ 23, vE, vF,vZ, vF, vF, vO, vO,vU,vZ,vZ, vO,σ 35,σ 36, vE, vF,vZ] →
 vldR [σ 11,σ 40] →
 iv (σ 41) = ((tv (σ 11)).size : Nat) →
 extRel .fbits [σ 23] (σ 43) →
 aN (σ 43) (σ 44) →
 extRel .fbits [σ 36] (σ 45) →
 aN (σ 45) (σ 46) →
 vldR [σ 11,σ 48] →
 cntR [σ 11,σ 49] →
 iv (σ 50) = iv (σ 22) - 1 →
 fv (σ 51) = nE (iv (σ 50)) →
 cutR [σ 11,σ 50,σ 35,σ 52] →
 iv (σ 53) = ((tv (σ 52)).size : Nat) →
 iv (σ 53) ≤ 32768 →
 bv (σ 54) = !false →
 bv (σ 48) = true →
 iv (σ 35) ≠ 0 →
 iv (σ 41) ≤ 32768 →
 bv (σ 40) = true →
    midR [(vS #[77,73,68]),vU, vF, vF, vO, vO,vU,vZ,vZ, (vI 2), (vG 0),σ 11, vF,vZ, vF, vF, vO, vO,vU,vZ,vZ, vO,σ 22,σ 23, vE, vF,vZ, vF, vF, vO, vO,vU,vZ,vZ, vO,σ 35,σ 36, vE, vF,vZ, (vI 2), (vG 0),σ 52, vF,vZ, vT]
def midR_L10 : Prop := ∀ σ : Nat → Value,
 σ 0 = (vS #[77,73,68]) →
 σ 2 = vF →
 σ 3 = vF →
 σ 4 = vO →
 σ 5 = vO →
 σ 7 = vZ →
 σ 8 = vZ →
 σ 9 = (vI 2) →
 σ 10 = (vG 0) →
 tS (σ 11) →
 σ 12 = vF →
 σ 13 = vZ →
 σ 14 = vF →
 σ 15 = vF →
 σ 16 = vO →
 σ 17 = vO →
 σ 19 = vZ →
 σ 20 = vZ →
 σ 21 = vO →
 tI (σ 22) →
 1 ≤ iv (σ 22) →
 iv (σ 22) ≤ 256 →
 tF (σ 23) →
 σ 24 = vE →
 σ 25 = vF →
 σ 26 = vZ →
 σ 27 = vF →
 σ 28 = vF →
 σ 29 = vO →
 σ 30 = vO →
 σ 32 = vZ →
 σ 33 = vZ →
 σ 34 = vO →
 tI (σ 35) →
 1 ≤ iv (σ 35) →
 iv (σ 35) ≤ 1000 →
 tF (σ 36) →
 σ 37 = vE →
 σ 38 = vF →
 σ 39 = vZ →
 tI (σ 41) →
 0 ≤ iv (σ 41) →
 iv (σ 41) ≤ 32768 →
 tU (σ 43) →
 tU (σ 44) →
 tU (σ 45) →
 tU (σ 46) →
 tI (σ 49) →
 0 ≤ iv (σ 49) →
 iv (σ 49) ≤ 100000 →
 tI (σ 50) →
 0 ≤ iv (σ 50) →
 iv (σ 50) ≤ 255 →
 tF (σ 51) →
 fv (σ 36) = nE (iv (σ 35)) →
 fv (σ 23) = nE (iv (σ 22)) →
 midRPre [(vS #[77,73,68]),vU, vF, vF, vO, vO,vU,vZ,vZ, (vI 2), (vG 0),σ 11, vF,vZ, vF, vF, vO, vO,vU,vZ,vZ, vO,σ 22,σ 23, vE, vF,vZ, vF, vF, vO, vO,vU,vZ,vZ, vO,σ 35,σ 36, vE, vF,vZ] →
 vldR [σ 11,σ 40] →
 iv (σ 41) = ((tv (σ 11)).size : Nat) →
 extRel .fbits [σ 23] (σ 43) →
 aN (σ 43) (σ 44) →
 extRel .fbits [σ 36] (σ 45) →
 aN (σ 45) (σ 46) →
 vldR [σ 11,σ 48] →
 cntR [σ 11,σ 49] →
 iv (σ 50) = iv (σ 22) - 1 →
 fv (σ 51) = nE (iv (σ 50)) →
 ¬ cutRPre [σ 11,σ 50,σ 35] →
 bv (σ 48) = true →
 iv (σ 35) ≠ 0 →
 iv (σ 41) ≤ 32768 →
 bv (σ 40) = true →
    False
def midR_L11 : Prop := ∀ σ : Nat → Value,
 σ 0 = (vS #[77,73,68]) →
 σ 2 = vF →
 σ 3 = vF →
 σ 4 = vO →
 σ 5 = vO →
 σ 7 = vZ →
 σ 8 = vZ →
 σ 9 = (vI 2) →
 σ 10 = (vG 0) →
 tS (σ 11) →
 σ 12 = vF →
 σ 13 = vZ →
 σ 14 = vF →
 σ 15 = vF →
 σ 16 = vO →
 σ 17 = vO →
 σ 19 = vZ →
 σ 20 = vZ →
 σ 21 = vO →
 tI (σ 22) →
 1 ≤ iv (σ 22) →
 iv (σ 22) ≤ 256 →
 tF (σ 23) →
 σ 24 = vE →
 σ 25 = vF →
 σ 26 = vZ →
 σ 27 = vF →
 σ 28 = vF →
 σ 29 = vO →
 σ 30 = vO →
 σ 32 = vZ →
 σ 33 = vZ →
 σ 34 = vO →
 tI (σ 35) →
 1 ≤ iv (σ 35) →
 iv (σ 35) ≤ 1000 →
 tF (σ 36) →
 σ 37 = vE →
 σ 38 = vF →
 σ 39 = vZ →
 tI (σ 41) →
 0 ≤ iv (σ 41) →
 iv (σ 41) ≤ 32768 →
 tU (σ 43) →
 tU (σ 44) →
 tU (σ 45) →
 tU (σ 46) →
 fv (σ 36) = nE (iv (σ 35)) →
 fv (σ 23) = nE (iv (σ 22)) →
 midRPre [(vS #[77,73,68]),vU, vF, vF, vO, vO,vU,vZ,vZ, (vI 2), (vG 0),σ 11, vF,vZ, vF, vF, vO, vO,vU,vZ,vZ, vO,σ 22,σ 23, vE, vF,vZ, vF, vF, vO, vO,vU,vZ,vZ, vO,σ 35,σ 36, vE, vF,vZ] →
 vldR [σ 11,σ 40] →
 iv (σ 41) = ((tv (σ 11)).size : Nat) →
 extRel .fbits [σ 23] (σ 43) →
 aN (σ 43) (σ 44) →
 extRel .fbits [σ 36] (σ 45) →
 aN (σ 45) (σ 46) →
 vldR [σ 11,σ 48] →
 ¬ cntRPre [σ 11] →
 bv (σ 48) = true →
 iv (σ 35) ≠ 0 →
 iv (σ 41) ≤ 32768 →
 bv (σ 40) = true →
    False
def midR_L12 : Prop := ∀ σ : Nat → Value,
 σ 0 = (vS #[77,73,68]) →
 σ 2 = vF →
 σ 3 = vF →
 σ 4 = vO →
 σ 5 = vO →
 σ 7 = vZ →
 σ 8 = vZ →
 σ 9 = (vI 2) →
 σ 10 = (vG 0) →
 tS (σ 11) →
 σ 12 = vF →
 σ 13 = vZ →
 σ 14 = vF →
 σ 15 = vF →
 σ 16 = vO →
 σ 17 = vO →
 σ 19 = vZ →
 σ 20 = vZ →
 σ 21 = vO →
 tI (σ 22) →
 1 ≤ iv (σ 22) →
 iv (σ 22) ≤ 256 →
 tF (σ 23) →
 σ 24 = vE →
 σ 25 = vF →
 σ 26 = vZ →
 σ 27 = vF →
 σ 28 = vF →
 σ 29 = vO →
 σ 30 = vO →
 σ 32 = vZ →
 σ 33 = vZ →
 σ 34 = vO →
 tI (σ 35) →
 1 ≤ iv (σ 35) →
 iv (σ 35) ≤ 1000 →
 tF (σ 36) →
 σ 37 = vE →
 σ 38 = vF →
 σ 39 = vZ →
 tI (σ 41) →
 0 ≤ iv (σ 41) →
 iv (σ 41) ≤ 32768 →
 tU (σ 43) →
 tU (σ 44) →
 tU (σ 45) →
 tU (σ 46) →
 fv (σ 36) = nE (iv (σ 35)) →
 fv (σ 23) = nE (iv (σ 22)) →
 midRPre [(vS #[77,73,68]),vU, vF, vF, vO, vO,vU,vZ,vZ, (vI 2), (vG 0),σ 11, vF,vZ, vF, vF, vO, vO,vU,vZ,vZ, vO,σ 22,σ 23, vE, vF,vZ, vF, vF, vO, vO,vU,vZ,vZ, vO,σ 35,σ 36, vE, vF,vZ] →
 vldR [σ 11,σ 40] →
 iv (σ 41) = ((tv (σ 11)).size : Nat) →
 extRel .fbits [σ 23] (σ 43) →
 aN (σ 43) (σ 44) →
 extRel .fbits [σ 36] (σ 45) →
 aN (σ 45) (σ 46) →
 vldR [σ 11,σ 48] →
 bv (σ 48) = false →
 iv (σ 35) ≠ 0 →
 iv (σ 41) ≤ 32768 →
 bv (σ 40) = true →
    False
def midR_L13 : Prop := ∀ σ : Nat → Value,
 σ 0 = (vS #[77,73,68]) →
 σ 2 = vF →
 σ 3 = vF →
 σ 4 = vO →
 σ 5 = vO →
 σ 7 = vZ →
 σ 8 = vZ →
 σ 9 = (vI 2) →
 σ 10 = (vG 0) →
 tS (σ 11) →
 σ 12 = vF →
 σ 13 = vZ →
 σ 14 = vF →
 σ 15 = vF →
 σ 16 = vO →
 σ 17 = vO →
 σ 19 = vZ →
 σ 20 = vZ →
 σ 21 = vO →
 tI (σ 22) →
 1 ≤ iv (σ 22) →
 iv (σ 22) ≤ 256 →
 tF (σ 23) →
 σ 24 = vE →
 σ 25 = vF →
 σ 26 = vZ →
 σ 27 = vF →
 σ 28 = vF →
 σ 29 = vO →
 σ 30 = vO →
 σ 32 = vZ →
 σ 33 = vZ →
 σ 34 = vO →
 tI (σ 35) →
 1 ≤ iv (σ 35) →
 iv (σ 35) ≤ 1000 →
 tF (σ 36) →
 σ 37 = vE →
 σ 38 = vF →
 σ 39 = vZ →
 tI (σ 41) →
 0 ≤ iv (σ 41) →
 iv (σ 41) ≤ 32768 →
 tU (σ 43) →
 tU (σ 44) →
 tU (σ 45) →
 tU (σ 46) →
 fv (σ 36) = nE (iv (σ 35)) →
 fv (σ 23) = nE (iv (σ 22)) →
 midRPre [(vS #[77,73,68]),vU, vF, vF, vO, vO,vU,vZ,vZ, (vI 2), (vG 0),σ 11, vF,vZ, vF, vF, vO, vO,vU,vZ,vZ, vO,σ 22,σ 23, vE, vF,vZ, vF, vF, vO, vO,vU,vZ,vZ, vO,σ 35,σ 36, vE, vF,vZ] →
 vldR [σ 11,σ 40] →
 iv (σ 41) = ((tv (σ 11)).size : Nat) →
 extRel .fbits [σ 23] (σ 43) →
 aN (σ 43) (σ 44) →
 extRel .fbits [σ 36] (σ 45) →
 aN (σ 45) (σ 46) →
 ¬ vldRPre [σ 11] →
 iv (σ 35) ≠ 0 →
 iv (σ 41) ≤ 32768 →
 bv (σ 40) = true →
    False
def midR_L14 : Prop := ∀ σ : Nat → Value,
 σ 0 = (vS #[77,73,68]) →
 σ 2 = vF →
 σ 3 = vF →
 σ 4 = vO →
 σ 5 = vO →
 σ 7 = vZ →
 σ 8 = vZ →
 σ 9 = (vI 2) →
 σ 10 = (vG 0) →
 tS (σ 11) →
 σ 12 = vF →
 σ 13 = vZ →
 σ 14 = vF →
 σ 15 = vF →
 σ 16 = vO →
 σ 17 = vO →
 σ 19 = vZ →
 σ 20 = vZ →
 σ 21 = vO →
 tI (σ 22) →
 1 ≤ iv (σ 22) →
 iv (σ 22) ≤ 256 →
 tF (σ 23) →
 σ 24 = vE →
 σ 25 = vF →
 σ 26 = vZ →
 σ 27 = vF →
 σ 28 = vF →
 σ 29 = vO →
 σ 30 = vO →
 σ 32 = vZ →
 σ 33 = vZ →
 σ 34 = vO →
 tI (σ 35) →
 0 ≤ iv (σ 35) →
 iv (σ 35) ≤ 1000 →
 tF (σ 36) →
 σ 37 = vE →
 σ 38 = vF →
 σ 39 = vZ →
 fv (σ 36) = nE (iv (σ 35)) →
 fv (σ 23) = nE (iv (σ 22)) →
 midRPre [(vS #[77,73,68]),vU, vF, vF, vO, vO,vU,vZ,vZ, (vI 2), (vG 0),σ 11, vF,vZ, vF, vF, vO, vO,vU,vZ,vZ, vO,σ 22,σ 23, vE, vF,vZ, vF, vF, vO, vO,vU,vZ,vZ, vO,σ 35,σ 36, vE, vF,vZ] →
 vldR [σ 11,σ 40] →
 bv (σ 40) = false →
    False
theorem midR_tie : midC.goals (cfgB midC.base cons) [] 2000 = (midR_L0 ∧ midR_L1 ∧ midR_L2 ∧ midR_L3 ∧ midR_L4 ∧ midR_L5 ∧ midR_L6 ∧ midR_L7 ∧ midR_L8 ∧ midR_L9 ∧ midR_L10 ∧ midR_L11 ∧ midR_L12 ∧ midR_L13 ∧ midR_L14 ∧ True) := by kernel_rfl
theorem midR_L0_ok : midR_L0 := by
  intro σ; intros
  have p0 := ‹midRPre _›
  have h11 : Nice (tl (σ 11)) := p0.1
  have h35 : iv (σ 35) = ((tl (σ 11)).length : Nat) := p0.2
  have q11 := h11.2
  have n_ := ‹¬ vldRPre _›
  exact n_ (vld_pre (by omega))
theorem midR_L1_ok : midR_L1 := by
  intro σ; intros
  have p0 := ‹midRPre _›
  have h11 : Nice (tl (σ 11)) := p0.1
  have h35 : iv (σ 35) = ((tl (σ 11)).length : Nat) := p0.2
  have q11 := h11.2
  have hq := ‹iv (σ 41) = ((tv (σ 11)).size : Nat)›
  rw [← tl_len] at hq
  omega
theorem midR_L2_ok : midR_L2 := by
  intro σ; intros
  have p0 := ‹midRPre _›
  have h11 : Nice (tl (σ 11)) := p0.1
  have h35 : iv (σ 35) = ((tl (σ 11)).length : Nat) := p0.2
  have q11 := h11.2
  have hc0 := ‹cutR _›
  have hc : tl (σ 52) = ((tl (σ 11)).drop (cutL (iv (σ 50)).toNat (tl (σ 11)))).take (cutL (iv (vZ)).toNat ((tl (σ 11)).drop (cutL (iv (σ 50)).toNat (tl (σ 11))))) := hc0
  have hq := ‹iv (σ 53) = ((tv (σ 52)).size : Nat)›
  rw [← tl_len, hc, List.length_take, List.length_drop] at hq
  omega
theorem midR_L3_ok : midR_L3 := by
  intro σ; intros
  have p0 := ‹midRPre _›
  have h11 : Nice (tl (σ 11)) := p0.1
  have h35 : iv (σ 35) = ((tl (σ 11)).length : Nat) := p0.2
  have q11 := h11.2
  have hc0 := ‹cutR _›
  have hc : tl (σ 52) = ((tl (σ 11)).drop (cutL (iv (σ 50)).toNat (tl (σ 11)))).take (cutL (iv (vZ)).toNat ((tl (σ 11)).drop (cutL (iv (σ 50)).toNat (tl (σ 11))))) := hc0
  have ka := ‹iv (σ 50) = iv (σ 22) - 1›
  show tl (σ 52) = (tl (σ 11)).drop (cutL (iv (σ 22) - 1).toNat (tl (σ 11)))
  have ln : ((tl (σ 11)).drop (cutL (iv (σ 50)).toNat (tl (σ 11)))).length ≤ (iv (vZ)).toNat := by rw [List.length_drop]; show _ ≤ (0 : Int).toNat; have z0 := ‹iv (σ 35) = 0›; omega
  rw [hc, cutL_all _ _ ln, List.take_length, ka]
theorem midR_L4_ok : midR_L4 := by
  intro σ; intros
  have p0 := ‹midRPre _›
  have h11 : Nice (tl (σ 11)) := p0.1
  have h35 : iv (σ 35) = ((tl (σ 11)).length : Nat) := p0.2
  have q11 := h11.2
  have n_ := ‹¬ cutRPre _›
  exact n_ (by show (tl (σ 11)).length ≤ _; omega)
theorem midR_L5_ok : midR_L5 := by
  intro σ; intros
  have p0 := ‹midRPre _›
  have h11 : Nice (tl (σ 11)) := p0.1
  have h35 : iv (σ 35) = ((tl (σ 11)).length : Nat) := p0.2
  have q11 := h11.2
  have n_ := ‹¬ cntRPre _›
  exact n_ (by show (tl (σ 11)).length ≤ _; omega)
theorem midR_L6_ok : midR_L6 := by
  intro σ; intros
  have p0 := ‹midRPre _›
  have h11 : Nice (tl (σ 11)) := p0.1
  have h35 : iv (σ 35) = ((tl (σ 11)).length : Nat) := p0.2
  have q11 := h11.2
  have v := ‹vldR [σ 11,σ 48]›
  exact vld_yes v h11.1 ‹bv (σ 48) = false›
theorem midR_L7_ok : midR_L7 := by
  intro σ; intros
  have p0 := ‹midRPre _›
  have h11 : Nice (tl (σ 11)) := p0.1
  have h35 : iv (σ 35) = ((tl (σ 11)).length : Nat) := p0.2
  have q11 := h11.2
  have n_ := ‹¬ vldRPre _›
  exact n_ (vld_pre (by omega))
theorem midR_L8_ok : midR_L8 := by
  intro σ; intros
  have p0 := ‹midRPre _›
  have h11 : Nice (tl (σ 11)) := p0.1
  have h35 : iv (σ 35) = ((tl (σ 11)).length : Nat) := p0.2
  have q11 := h11.2
  have hc0 := ‹cutR _›
  have hc : tl (σ 52) = ((tl (σ 11)).drop (cutL (iv (σ 50)).toNat (tl (σ 11)))).take (cutL (iv (σ 35)).toNat ((tl (σ 11)).drop (cutL (iv (σ 50)).toNat (tl (σ 11))))) := hc0
  have hq := ‹iv (σ 53) = ((tv (σ 52)).size : Nat)›
  rw [← tl_len, hc, List.length_take, List.length_drop] at hq
  omega
theorem midR_L9_ok : midR_L9 := by
  intro σ; intros
  have p0 := ‹midRPre _›
  have h11 : Nice (tl (σ 11)) := p0.1
  have h35 : iv (σ 35) = ((tl (σ 11)).length : Nat) := p0.2
  have q11 := h11.2
  have hc0 := ‹cutR _›
  have hc : tl (σ 52) = ((tl (σ 11)).drop (cutL (iv (σ 50)).toNat (tl (σ 11)))).take (cutL (iv (σ 35)).toNat ((tl (σ 11)).drop (cutL (iv (σ 50)).toNat (tl (σ 11))))) := hc0
  have ka := ‹iv (σ 50) = iv (σ 22) - 1›
  show tl (σ 52) = (tl (σ 11)).drop (cutL (iv (σ 22) - 1).toNat (tl (σ 11)))
  have ln : ((tl (σ 11)).drop (cutL (iv (σ 50)).toNat (tl (σ 11)))).length ≤ (iv (σ 35)).toNat := by rw [List.length_drop]; omega
  rw [hc, cutL_all _ _ ln, List.take_length, ka]
theorem midR_L10_ok : midR_L10 := by
  intro σ; intros
  have p0 := ‹midRPre _›
  have h11 : Nice (tl (σ 11)) := p0.1
  have h35 : iv (σ 35) = ((tl (σ 11)).length : Nat) := p0.2
  have q11 := h11.2
  have n_ := ‹¬ cutRPre _›
  exact n_ (by show (tl (σ 11)).length ≤ _; omega)
theorem midR_L11_ok : midR_L11 := by
  intro σ; intros
  have p0 := ‹midRPre _›
  have h11 : Nice (tl (σ 11)) := p0.1
  have h35 : iv (σ 35) = ((tl (σ 11)).length : Nat) := p0.2
  have q11 := h11.2
  have n_ := ‹¬ cntRPre _›
  exact n_ (by show (tl (σ 11)).length ≤ _; omega)
theorem midR_L12_ok : midR_L12 := by
  intro σ; intros
  have p0 := ‹midRPre _›
  have h11 : Nice (tl (σ 11)) := p0.1
  have h35 : iv (σ 35) = ((tl (σ 11)).length : Nat) := p0.2
  have q11 := h11.2
  have v := ‹vldR [σ 11,σ 48]›
  exact vld_yes v h11.1 ‹bv (σ 48) = false›
theorem midR_L13_ok : midR_L13 := by
  intro σ; intros
  have p0 := ‹midRPre _›
  have h11 : Nice (tl (σ 11)) := p0.1
  have h35 : iv (σ 35) = ((tl (σ 11)).length : Nat) := p0.2
  have q11 := h11.2
  have n_ := ‹¬ vldRPre _›
  exact n_ (vld_pre (by omega))
theorem midR_L14_ok : midR_L14 := by
  intro σ; intros
  have p0 := ‹midRPre _›
  have h11 : Nice (tl (σ 11)) := p0.1
  have h35 : iv (σ 35) = ((tl (σ 11)).length : Nat) := p0.2
  have q11 := h11.2
  have v := ‹vldR [σ 11,σ 40]›
  exact vld_yes v h11.1 ‹bv (σ 40) = false›
theorem mid_ok : midC.ok Tryz.prog Tabs :=
  by_tie midR_tie (by kernel_rfl) cons_ok ⟨midR_L0_ok, midR_L1_ok, midR_L2_ok, midR_L3_ok, midR_L4_ok, midR_L5_ok, midR_L6_ok, midR_L7_ok, midR_L8_ok, midR_L9_ok, midR_L10_ok, midR_L11_ok, midR_L12_ok, midR_L13_ok, midR_L14_ok, trivial⟩
end Go.Proofs.Bs
