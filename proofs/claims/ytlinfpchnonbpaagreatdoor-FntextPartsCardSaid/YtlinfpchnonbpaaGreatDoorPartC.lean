/- CONCATENATE and LEN. -/
import Derived.Test.YtlinfpchnonbpaaGreatDoorPartA
namespace Go.Proofs.Bs
open Go.Ev Go.RowKit Ieee
set_option maxRecDepth 1000000
def catR_L0 : Prop := ∀ σ : Nat → Value,
 σ 0 = (vS #[67,79,78,67,65,84,69,78,65,84,69]) →
 σ 2 = vF →
 σ 3 = vF →
 σ 4 = vO →
 σ 5 = vO →
 σ 7 = vZ →
 σ 8 = vZ →
 σ 9 = (vI 2) →
 σ 10 = (vG 0) →
 tS (σ 11) →
 σ 12 = vF →
 σ 13 = vZ →
 σ 14 = vF →
 σ 15 = vF →
 σ 16 = vO →
 σ 17 = vO →
 σ 19 = vZ →
 σ 20 = vZ →
 σ 21 = (vI 2) →
 σ 22 = (vG 0) →
 tS (σ 23) →
 σ 24 = vF →
 σ 25 = vZ →
 tI (σ 27) →
 0 ≤ iv (σ 27) →
 iv (σ 27) ≤ 32768 →
 catRPre [(vS #[67,79,78,67,65,84,69,78,65,84,69]),vU, vF, vF, vO, vO,vU,vZ,vZ, (vI 2), (vG 0),σ 11, vF,vZ, vF, vF, vO, vO,vU,vZ,vZ, (vI 2), (vG 0),σ 23, vF,vZ] →
 vldR [σ 11,σ 26] →
 iv (σ 27) = ((tv (σ 11)).size : Nat) →
 ¬ vldRPre [σ 23] →
 iv (σ 27) ≤ 32768 →
 bv (σ 26) = true →
    False
def catR_L1 : Prop := ∀ σ : Nat → Value,
 σ 0 = (vS #[67,79,78,67,65,84,69,78,65,84,69]) →
 σ 2 = vF →
 σ 3 = vF →
 σ 4 = vO →
 σ 5 = vO →
 σ 7 = vZ →
 σ 8 = vZ →
 σ 9 = (vI 2) →
 σ 10 = (vG 0) →
 tS (σ 11) →
 σ 12 = vF →
 σ 13 = vZ →
 σ 14 = vF →
 σ 15 = vF →
 σ 16 = vO →
 σ 17 = vO →
 σ 19 = vZ →
 σ 20 = vZ →
 σ 21 = (vI 2) →
 σ 22 = (vG 0) →
 tS (σ 23) →
 σ 24 = vF →
 σ 25 = vZ →
 catRPre [(vS #[67,79,78,67,65,84,69,78,65,84,69]),vU, vF, vF, vO, vO,vU,vZ,vZ, (vI 2), (vG 0),σ 11, vF,vZ, vF, vF, vO, vO,vU,vZ,vZ, (vI 2), (vG 0),σ 23, vF,vZ] →
 ¬ vldRPre [σ 11] →
    False
def catR_L2 : Prop := ∀ σ : Nat → Value,
 σ 0 = (vS #[67,79,78,67,65,84,69,78,65,84,69]) →
 σ 2 = vF →
 σ 3 = vF →
 σ 4 = vO →
 σ 5 = vO →
 σ 7 = vZ →
 σ 8 = vZ →
 σ 9 = (vI 2) →
 σ 10 = (vG 0) →
 tS (σ 11) →
 σ 12 = vF →
 σ 13 = vZ →
 σ 14 = vF →
 σ 15 = vF →
 σ 16 = vO →
 σ 17 = vO →
 σ 19 = vZ →
 σ 20 = vZ →
 σ 21 = (vI 2) →
 σ 22 = (vG 0) →
 tS (σ 23) →
 σ 24 = vF →
 σ 25 = vZ →
 tI (σ 27) →
 32769 ≤ iv (σ 27) →
 catRPre [(vS #[67,79,78,67,65,84,69,78,65,84,69]),vU, vF, vF, vO, vO,vU,vZ,vZ, (vI 2), (vG 0),σ 11, vF,vZ, vF, vF, vO, vO,vU,vZ,vZ, (vI 2), (vG 0),σ 23, vF,vZ] →
 vldR [σ 11,σ 26] →
 iv (σ 27) = ((tv (σ 11)).size : Nat) →
 32768 < iv (σ 27) →
 bv (σ 26) = true →
    False
def catR_L3 : Prop := ∀ σ : Nat → Value,
 σ 0 = (vS #[67,79,78,67,65,84,69,78,65,84,69]) →
 σ 2 = vF →
 σ 3 = vF →
 σ 4 = vO →
 σ 5 = vO →
 σ 7 = vZ →
 σ 8 = vZ →
 σ 9 = (vI 2) →
 σ 10 = (vG 0) →
 tS (σ 11) →
 σ 12 = vF →
 σ 13 = vZ →
 σ 14 = vF →
 σ 15 = vF →
 σ 16 = vO →
 σ 17 = vO →
 σ 19 = vZ →
 σ 20 = vZ →
 σ 21 = (vI 2) →
 σ 22 = (vG 0) →
 tS (σ 23) →
 σ 24 = vF →
 σ 25 = vZ →
 tI (σ 27) →
 0 ≤ iv (σ 27) →
 iv (σ 27) ≤ 32768 →
 tI (σ 30) →
 32769 ≤ iv (σ 30) →
 catRPre [(vS #[67,79,78,67,65,84,69,78,65,84,69]),vU, vF, vF, vO, vO,vU,vZ,vZ, (vI 2), (vG 0),σ 11, vF,vZ, vF, vF, vO, vO,vU,vZ,vZ, (vI 2), (vG 0),σ 23, vF,vZ] →
 vldR [σ 11,σ 26] →
 iv (σ 27) = ((tv (σ 11)).size : Nat) →
 vldR [σ 23,σ 29] →
 iv (σ 30) = ((tv (σ 23)).size : Nat) →
 32768 < iv (σ 30) →
 bv (σ 29) = true →
 iv (σ 27) ≤ 32768 →
 bv (σ 26) = true →
    False
def catR_L4 : Prop := ∀ σ : Nat → Value,
 σ 0 = (vS #[67,79,78,67,65,84,69,78,65,84,69]) →
 σ 2 = vF →
 σ 3 = vF →
 σ 4 = vO →
 σ 5 = vO →
 σ 7 = vZ →
 σ 8 = vZ →
 σ 9 = (vI 2) →
 σ 10 = (vG 0) →
 tS (σ 11) →
 σ 12 = vF →
 σ 13 = vZ →
 σ 14 = vF →
 σ 15 = vF →
 σ 16 = vO →
 σ 17 = vO →
 σ 19 = vZ →
 σ 20 = vZ →
 σ 21 = (vI 2) →
 σ 22 = (vG 0) →
 tS (σ 23) →
 σ 24 = vF →
 σ 25 = vZ →
 tI (σ 27) →
 0 ≤ iv (σ 27) →
 iv (σ 27) ≤ 32768 →
 tI (σ 30) →
 0 ≤ iv (σ 30) →
 iv (σ 30) ≤ 32768 →
 tS (σ 33) →
 tS (σ 35) →
 tI (σ 36) →
 32769 ≤ iv (σ 36) →
 catRPre [(vS #[67,79,78,67,65,84,69,78,65,84,69]),vU, vF, vF, vO, vO,vU,vZ,vZ, (vI 2), (vG 0),σ 11, vF,vZ, vF, vF, vO, vO,vU,vZ,vZ, (vI 2), (vG 0),σ 23, vF,vZ] →
 vldR [σ 11,σ 26] →
 iv (σ 27) = ((tv (σ 11)).size : Nat) →
 vldR [σ 23,σ 29] →
 iv (σ 30) = ((tv (σ 23)).size : Nat) →
 vldR [σ 11,σ 32] →
 tv (σ 33) = (⟨#[]⟩ : ByteArray) ++ tv (σ 11) →
 vldR [σ 23,σ 34] →
 tv (σ 35) = tv (σ 33) ++ tv (σ 23) →
 iv (σ 36) = ((tv (σ 35)).size : Nat) →
 32768 < iv (σ 36) →
 bv (σ 37) = !true →
 bv (σ 34) = true →
 bv (σ 32) = true →
 iv (σ 30) ≤ 32768 →
 bv (σ 29) = true →
 iv (σ 27) ≤ 32768 →
 bv (σ 26) = true →
    False
def catR_L5 : Prop := ∀ σ : Nat → Value,
 σ 0 = (vS #[67,79,78,67,65,84,69,78,65,84,69]) →
 σ 2 = vF →
 σ 3 = vF →
 σ 4 = vO →
 σ 5 = vO →
 σ 7 = vZ →
 σ 8 = vZ →
 σ 9 = (vI 2) →
 σ 10 = (vG 0) →
 tS (σ 11) →
 σ 12 = vF →
 σ 13 = vZ →
 σ 14 = vF →
 σ 15 = vF →
 σ 16 = vO →
 σ 17 = vO →
 σ 19 = vZ →
 σ 20 = vZ →
 σ 21 = (vI 2) →
 σ 22 = (vG 0) →
 tS (σ 23) →
 σ 24 = vF →
 σ 25 = vZ →
 tI (σ 27) →
 0 ≤ iv (σ 27) →
 iv (σ 27) ≤ 32768 →
 tI (σ 30) →
 0 ≤ iv (σ 30) →
 iv (σ 30) ≤ 32768 →
 tS (σ 33) →
 tS (σ 35) →
 tI (σ 36) →
 0 ≤ iv (σ 36) →
 iv (σ 36) ≤ 32768 →
 catRPre [(vS #[67,79,78,67,65,84,69,78,65,84,69]),vU, vF, vF, vO, vO,vU,vZ,vZ, (vI 2), (vG 0),σ 11, vF,vZ, vF, vF, vO, vO,vU,vZ,vZ, (vI 2), (vG 0),σ 23, vF,vZ] →
 vldR [σ 11,σ 26] →
 iv (σ 27) = ((tv (σ 11)).size : Nat) →
 vldR [σ 23,σ 29] →
 iv (σ 30) = ((tv (σ 23)).size : Nat) →
 vldR [σ 11,σ 32] →
 tv (σ 33) = (⟨#[]⟩ : ByteArray) ++ tv (σ 11) →
 vldR [σ 23,σ 34] →
 tv (σ 35) = tv (σ 33) ++ tv (σ 23) →
 iv (σ 36) = ((tv (σ 35)).size : Nat) →
 iv (σ 36) ≤ 32768 →
 bv (σ 37) = !false →
 bv (σ 34) = true →
 bv (σ 32) = true →
 iv (σ 30) ≤ 32768 →
 bv (σ 29) = true →
 iv (σ 27) ≤ 32768 →
 bv (σ 26) = true →
    catR [(vS #[67,79,78,67,65,84,69,78,65,84,69]),vU, vF, vF, vO, vO,vU,vZ,vZ, (vI 2), (vG 0),σ 11, vF,vZ, vF, vF, vO, vO,vU,vZ,vZ, (vI 2), (vG 0),σ 23, vF,vZ, (vI 2), (vG 0),σ 35, vF,vZ, vT]
def catR_L6 : Prop := ∀ σ : Nat → Value,
 σ 0 = (vS #[67,79,78,67,65,84,69,78,65,84,69]) →
 σ 2 = vF →
 σ 3 = vF →
 σ 4 = vO →
 σ 5 = vO →
 σ 7 = vZ →
 σ 8 = vZ →
 σ 9 = (vI 2) →
 σ 10 = (vG 0) →
 tS (σ 11) →
 σ 12 = vF →
 σ 13 = vZ →
 σ 14 = vF →
 σ 15 = vF →
 σ 16 = vO →
 σ 17 = vO →
 σ 19 = vZ →
 σ 20 = vZ →
 σ 21 = (vI 2) →
 σ 22 = (vG 0) →
 tS (σ 23) →
 σ 24 = vF →
 σ 25 = vZ →
 tI (σ 27) →
 0 ≤ iv (σ 27) →
 iv (σ 27) ≤ 32768 →
 tI (σ 30) →
 0 ≤ iv (σ 30) →
 iv (σ 30) ≤ 32768 →
 tS (σ 33) →
 tB (σ 35) →
 catRPre [(vS #[67,79,78,67,65,84,69,78,65,84,69]),vU, vF, vF, vO, vO,vU,vZ,vZ, (vI 2), (vG 0),σ 11, vF,vZ, vF, vF, vO, vO,vU,vZ,vZ, (vI 2), (vG 0),σ 23, vF,vZ] →
 vldR [σ 11,σ 26] →
 iv (σ 27) = ((tv (σ 11)).size : Nat) →
 vldR [σ 23,σ 29] →
 iv (σ 30) = ((tv (σ 23)).size : Nat) →
 vldR [σ 11,σ 32] →
 tv (σ 33) = (⟨#[]⟩ : ByteArray) ++ tv (σ 11) →
 vldR [σ 23,σ 34] →
 IntKind.i64.max < ((((tv (σ 33)).size + (tv (σ 23)).size : Nat)) : Int) →
 bv (σ 34) = true →
 bv (σ 32) = true →
 iv (σ 30) ≤ 32768 →
 bv (σ 29) = true →
 iv (σ 27) ≤ 32768 →
 bv (σ 26) = true →
    False
def catR_L7 : Prop := ∀ σ : Nat → Value,
 σ 0 = (vS #[67,79,78,67,65,84,69,78,65,84,69]) →
 σ 2 = vF →
 σ 3 = vF →
 σ 4 = vO →
 σ 5 = vO →
 σ 7 = vZ →
 σ 8 = vZ →
 σ 9 = (vI 2) →
 σ 10 = (vG 0) →
 tS (σ 11) →
 σ 12 = vF →
 σ 13 = vZ →
 σ 14 = vF →
 σ 15 = vF →
 σ 16 = vO →
 σ 17 = vO →
 σ 19 = vZ →
 σ 20 = vZ →
 σ 21 = (vI 2) →
 σ 22 = (vG 0) →
 tS (σ 23) →
 σ 24 = vF →
 σ 25 = vZ →
 tI (σ 27) →
 0 ≤ iv (σ 27) →
 iv (σ 27) ≤ 32768 →
 tI (σ 30) →
 0 ≤ iv (σ 30) →
 iv (σ 30) ≤ 32768 →
 tS (σ 33) →
 catRPre [(vS #[67,79,78,67,65,84,69,78,65,84,69]),vU, vF, vF, vO, vO,vU,vZ,vZ, (vI 2), (vG 0),σ 11, vF,vZ, vF, vF, vO, vO,vU,vZ,vZ, (vI 2), (vG 0),σ 23, vF,vZ] →
 vldR [σ 11,σ 26] →
 iv (σ 27) = ((tv (σ 11)).size : Nat) →
 vldR [σ 23,σ 29] →
 iv (σ 30) = ((tv (σ 23)).size : Nat) →
 vldR [σ 11,σ 32] →
 tv (σ 33) = (⟨#[]⟩ : ByteArray) ++ tv (σ 11) →
 vldR [σ 23,σ 34] →
 bv (σ 34) = false →
 bv (σ 32) = true →
 iv (σ 30) ≤ 32768 →
 bv (σ 29) = true →
 iv (σ 27) ≤ 32768 →
 bv (σ 26) = true →
    False
def catR_L8 : Prop := ∀ σ : Nat → Value,
 σ 0 = (vS #[67,79,78,67,65,84,69,78,65,84,69]) →
 σ 2 = vF →
 σ 3 = vF →
 σ 4 = vO →
 σ 5 = vO →
 σ 7 = vZ →
 σ 8 = vZ →
 σ 9 = (vI 2) →
 σ 10 = (vG 0) →
 tS (σ 11) →
 σ 12 = vF →
 σ 13 = vZ →
 σ 14 = vF →
 σ 15 = vF →
 σ 16 = vO →
 σ 17 = vO →
 σ 19 = vZ →
 σ 20 = vZ →
 σ 21 = (vI 2) →
 σ 22 = (vG 0) →
 tS (σ 23) →
 σ 24 = vF →
 σ 25 = vZ →
 tI (σ 27) →
 0 ≤ iv (σ 27) →
 iv (σ 27) ≤ 32768 →
 tI (σ 30) →
 0 ≤ iv (σ 30) →
 iv (σ 30) ≤ 32768 →
 tS (σ 33) →
 catRPre [(vS #[67,79,78,67,65,84,69,78,65,84,69]),vU, vF, vF, vO, vO,vU,vZ,vZ, (vI 2), (vG 0),σ 11, vF,vZ, vF, vF, vO, vO,vU,vZ,vZ, (vI 2), (vG 0),σ 23, vF,vZ] →
 vldR [σ 11,σ 26] →
 iv (σ 27) = ((tv (σ 11)).size : Nat) →
 vldR [σ 23,σ 29] →
 iv (σ 30) = ((tv (σ 23)).size : Nat) →
 vldR [σ 11,σ 32] →
 tv (σ 33) = (⟨#[]⟩ : ByteArray) ++ tv (σ 11) →
 ¬ vldRPre [σ 23] →
 bv (σ 32) = true →
 iv (σ 30) ≤ 32768 →
 bv (σ 29) = true →
 iv (σ 27) ≤ 32768 →
 bv (σ 26) = true →
    False
def catR_L9 : Prop := ∀ σ : Nat → Value,
 σ 0 = (vS #[67,79,78,67,65,84,69,78,65,84,69]) →
 σ 2 = vF →
 σ 3 = vF →
 σ 4 = vO →
 σ 5 = vO →
 σ 7 = vZ →
 σ 8 = vZ →
 σ 9 = (vI 2) →
 σ 10 = (vG 0) →
 tS (σ 11) →
 σ 12 = vF →
 σ 13 = vZ →
 σ 14 = vF →
 σ 15 = vF →
 σ 16 = vO →
 σ 17 = vO →
 σ 19 = vZ →
 σ 20 = vZ →
 σ 21 = (vI 2) →
 σ 22 = (vG 0) →
 tS (σ 23) →
 σ 24 = vF →
 σ 25 = vZ →
 tI (σ 27) →
 0 ≤ iv (σ 27) →
 iv (σ 27) ≤ 32768 →
 tI (σ 30) →
 0 ≤ iv (σ 30) →
 iv (σ 30) ≤ 32768 →
 tB (σ 33) →
 catRPre [(vS #[67,79,78,67,65,84,69,78,65,84,69]),vU, vF, vF, vO, vO,vU,vZ,vZ, (vI 2), (vG 0),σ 11, vF,vZ, vF, vF, vO, vO,vU,vZ,vZ, (vI 2), (vG 0),σ 23, vF,vZ] →
 vldR [σ 11,σ 26] →
 iv (σ 27) = ((tv (σ 11)).size : Nat) →
 vldR [σ 23,σ 29] →
 iv (σ 30) = ((tv (σ 23)).size : Nat) →
 vldR [σ 11,σ 32] →
 IntKind.i64.max < (((((⟨#[]⟩ : ByteArray)).size + (tv (σ 11)).size : Nat)) : Int) →
 bv (σ 32) = true →
 iv (σ 30) ≤ 32768 →
 bv (σ 29) = true →
 iv (σ 27) ≤ 32768 →
 bv (σ 26) = true →
    False
def catR_L10 : Prop := ∀ σ : Nat → Value,
 σ 0 = (vS #[67,79,78,67,65,84,69,78,65,84,69]) →
 σ 2 = vF →
 σ 3 = vF →
 σ 4 = vO →
 σ 5 = vO →
 σ 7 = vZ →
 σ 8 = vZ →
 σ 9 = (vI 2) →
 σ 10 = (vG 0) →
 tS (σ 11) →
 σ 12 = vF →
 σ 13 = vZ →
 σ 14 = vF →
 σ 15 = vF →
 σ 16 = vO →
 σ 17 = vO →
 σ 19 = vZ →
 σ 20 = vZ →
 σ 21 = (vI 2) →
 σ 22 = (vG 0) →
 tS (σ 23) →
 σ 24 = vF →
 σ 25 = vZ →
 tI (σ 27) →
 0 ≤ iv (σ 27) →
 iv (σ 27) ≤ 32768 →
 tI (σ 30) →
 0 ≤ iv (σ 30) →
 iv (σ 30) ≤ 32768 →
 catRPre [(vS #[67,79,78,67,65,84,69,78,65,84,69]),vU, vF, vF, vO, vO,vU,vZ,vZ, (vI 2), (vG 0),σ 11, vF,vZ, vF, vF, vO, vO,vU,vZ,vZ, (vI 2), (vG 0),σ 23, vF,vZ] →
 vldR [σ 11,σ 26] →
 iv (σ 27) = ((tv (σ 11)).size : Nat) →
 vldR [σ 23,σ 29] →
 iv (σ 30) = ((tv (σ 23)).size : Nat) →
 vldR [σ 11,σ 32] →
 bv (σ 32) = false →
 iv (σ 30) ≤ 32768 →
 bv (σ 29) = true →
 iv (σ 27) ≤ 32768 →
 bv (σ 26) = true →
    False
def catR_L11 : Prop := ∀ σ : Nat → Value,
 σ 0 = (vS #[67,79,78,67,65,84,69,78,65,84,69]) →
 σ 2 = vF →
 σ 3 = vF →
 σ 4 = vO →
 σ 5 = vO →
 σ 7 = vZ →
 σ 8 = vZ →
 σ 9 = (vI 2) →
 σ 10 = (vG 0) →
 tS (σ 11) →
 σ 12 = vF →
 σ 13 = vZ →
 σ 14 = vF →
 σ 15 = vF →
 σ 16 = vO →
 σ 17 = vO →
 σ 19 = vZ →
 σ 20 = vZ →
 σ 21 = (vI 2) →
 σ 22 = (vG 0) →
 tS (σ 23) →
 σ 24 = vF →
 σ 25 = vZ →
 tI (σ 27) →
 0 ≤ iv (σ 27) →
 iv (σ 27) ≤ 32768 →
 tI (σ 30) →
 0 ≤ iv (σ 30) →
 iv (σ 30) ≤ 32768 →
 catRPre [(vS #[67,79,78,67,65,84,69,78,65,84,69]),vU, vF, vF, vO, vO,vU,vZ,vZ, (vI 2), (vG 0),σ 11, vF,vZ, vF, vF, vO, vO,vU,vZ,vZ, (vI 2), (vG 0),σ 23, vF,vZ] →
 vldR [σ 11,σ 26] →
 iv (σ 27) = ((tv (σ 11)).size : Nat) →
 vldR [σ 23,σ 29] →
 iv (σ 30) = ((tv (σ 23)).size : Nat) →
 ¬ vldRPre [σ 11] →
 iv (σ 30) ≤ 32768 →
 bv (σ 29) = true →
 iv (σ 27) ≤ 32768 →
 bv (σ 26) = true →
    False
def catR_L12 : Prop := ∀ σ : Nat → Value,
 σ 0 = (vS #[67,79,78,67,65,84,69,78,65,84,69]) →
 σ 2 = vF →
 σ 3 = vF →
 σ 4 = vO →
 σ 5 = vO →
 σ 7 = vZ →
 σ 8 = vZ →
 σ 9 = (vI 2) →
 σ 10 = (vG 0) →
 tS (σ 11) →
 σ 12 = vF →
 σ 13 = vZ →
 σ 14 = vF →
 σ 15 = vF →
 σ 16 = vO →
 σ 17 = vO →
 σ 19 = vZ →
 σ 20 = vZ →
 σ 21 = (vI 2) →
 σ 22 = (vG 0) →
 tS (σ 23) →
 σ 24 = vF →
 σ 25 = vZ →
 tI (σ 27) →
 0 ≤ iv (σ 27) →
 iv (σ 27) ≤ 32768 →
 catRPre [(vS #[67,79,78,67,65,84,69,78,65,84,69]),vU, vF, vF, vO, vO,vU,vZ,vZ, (vI 2), (vG 0),σ 11, vF,vZ, vF, vF, vO, vO,vU,vZ,vZ, (vI 2), (vG 0),σ 23, vF,vZ] →
 vldR [σ 11,σ 26] →
 iv (σ 27) = ((tv (σ 11)).size : Nat) →
 vldR [σ 23,σ 29] →
 bv (σ 29) = false →
 iv (σ 27) ≤ 32768 →
 bv (σ 26) = true →
    False
def catR_L13 : Prop := ∀ σ : Nat → Value,
 σ 0 = (vS #[67,79,78,67,65,84,69,78,65,84,69]) →
 σ 2 = vF →
 σ 3 = vF →
 σ 4 = vO →
 σ 5 = vO →
 σ 7 = vZ →
 σ 8 = vZ →
 σ 9 = (vI 2) →
 σ 10 = (vG 0) →
 tS (σ 11) →
 σ 12 = vF →
 σ 13 = vZ →
 σ 14 = vF →
 σ 15 = vF →
 σ 16 = vO →
 σ 17 = vO →
 σ 19 = vZ →
 σ 20 = vZ →
 σ 21 = (vI 2) →
 σ 22 = (vG 0) →
 tS (σ 23) →
 σ 24 = vF →
 σ 25 = vZ →
 catRPre [(vS #[67,79,78,67,65,84,69,78,65,84,69]),vU, vF, vF, vO, vO,vU,vZ,vZ, (vI 2), (vG 0),σ 11, vF,vZ, vF, vF, vO, vO,vU,vZ,vZ, (vI 2), (vG 0),σ 23, vF,vZ] →
 vldR [σ 11,σ 26] →
 bv (σ 26) = false →
    False
theorem catR_tie : catC.goals (cfgB catC.base cons) [] 2000 = (catR_L0 ∧ catR_L1 ∧ catR_L2 ∧ catR_L3 ∧ catR_L4 ∧ catR_L5 ∧ catR_L6 ∧ catR_L7 ∧ catR_L8 ∧ catR_L9 ∧ catR_L10 ∧ catR_L11 ∧ catR_L12 ∧ catR_L13 ∧ True) := by kernel_rfl
theorem catR_L0_ok : catR_L0 := by
  intro σ; intros
  have p0 := ‹catRPre _›
  have h11 : Nice (tl (σ 11)) := p0.1
  have h23 : Nice (tl (σ 23)) := p0.2
  have q11 := h11.2
  have q23 := h23.2
  have n_ := ‹¬ vldRPre _›
  exact n_ (vld_pre (by omega))
theorem catR_L1_ok : catR_L1 := by
  intro σ; intros
  have p0 := ‹catRPre _›
  have h11 : Nice (tl (σ 11)) := p0.1
  have h23 : Nice (tl (σ 23)) := p0.2
  have q11 := h11.2
  have q23 := h23.2
  have n_ := ‹¬ vldRPre _›
  exact n_ (vld_pre (by omega))
theorem catR_L2_ok : catR_L2 := by
  intro σ; intros
  have p0 := ‹catRPre _›
  have h11 : Nice (tl (σ 11)) := p0.1
  have h23 : Nice (tl (σ 23)) := p0.2
  have q11 := h11.2
  have q23 := h23.2
  have hq := ‹iv (σ 27) = ((tv (σ 11)).size : Nat)›
  rw [← tl_len] at hq
  omega
theorem catR_L3_ok : catR_L3 := by
  intro σ; intros
  have p0 := ‹catRPre _›
  have h11 : Nice (tl (σ 11)) := p0.1
  have h23 : Nice (tl (σ 23)) := p0.2
  have q11 := h11.2
  have q23 := h23.2
  have hq := ‹iv (σ 30) = ((tv (σ 23)).size : Nat)›
  rw [← tl_len] at hq
  omega
theorem catR_L4_ok : catR_L4 := by
  intro σ; intros
  have p0 := ‹catRPre _›
  have h11 : Nice (tl (σ 11)) := p0.1
  have h23 : Nice (tl (σ 23)) := p0.2
  have q11 := h11.2
  have q23 := h23.2
  have t1 : tl (σ 33) = tl vE ++ tl (σ 11) := tl_app ‹tv (σ 33) = _›
  have e1 : tl (σ 33) = tl (σ 11) := t1
  have t2 : tl (σ 35) = tl (σ 33) ++ tl (σ 23) := tl_app ‹tv (σ 35) = _›
  rw [e1] at t2
  have hq := ‹iv (σ 36) = ((tv (σ 35)).size : Nat)›
  rw [← tl_len, t2, List.length_append] at hq
  omega
theorem catR_L5_ok : catR_L5 := by
  intro σ; intros
  have p0 := ‹catRPre _›
  have h11 : Nice (tl (σ 11)) := p0.1
  have h23 : Nice (tl (σ 23)) := p0.2
  have q11 := h11.2
  have q23 := h23.2
  have t1 : tl (σ 33) = tl vE ++ tl (σ 11) := tl_app ‹tv (σ 33) = _›
  have e1 : tl (σ 33) = tl (σ 11) := t1
  have t2 : tl (σ 35) = tl (σ 33) ++ tl (σ 23) := tl_app ‹tv (σ 35) = _›
  rw [e1] at t2
  exact t2
theorem catR_L6_ok : catR_L6 := by
  intro σ; intros
  have p0 := ‹catRPre _›
  have h11 : Nice (tl (σ 11)) := p0.1
  have h23 : Nice (tl (σ 23)) := p0.2
  have q11 := h11.2
  have q23 := h23.2
  have t1 : tl (σ 33) = tl vE ++ tl (σ 11) := tl_app ‹tv (σ 33) = _›
  have e1 : tl (σ 33) = tl (σ 11) := t1
  exact big_no (a := σ 33) (b := σ 23) rfl rfl (by rw [e1]; omega) ‹IntKind.i64.max < _›
theorem catR_L7_ok : catR_L7 := by
  intro σ; intros
  have p0 := ‹catRPre _›
  have h11 : Nice (tl (σ 11)) := p0.1
  have h23 : Nice (tl (σ 23)) := p0.2
  have q11 := h11.2
  have q23 := h23.2
  have v := ‹vldR [σ 23,σ 34]›
  exact vld_yes v h23.1 ‹bv (σ 34) = false›
theorem catR_L8_ok : catR_L8 := by
  intro σ; intros
  have p0 := ‹catRPre _›
  have h11 : Nice (tl (σ 11)) := p0.1
  have h23 : Nice (tl (σ 23)) := p0.2
  have q11 := h11.2
  have q23 := h23.2
  have n_ := ‹¬ vldRPre _›
  exact n_ (vld_pre (by omega))
theorem catR_L9_ok : catR_L9 := by
  intro σ; intros
  have p0 := ‹catRPre _›
  have h11 : Nice (tl (σ 11)) := p0.1
  have h23 : Nice (tl (σ 23)) := p0.2
  have q11 := h11.2
  have q23 := h23.2
  exact big_no (a := vE) (b := σ 11) rfl rfl (by show 0 + _ < _; omega) ‹IntKind.i64.max < _›
theorem catR_L10_ok : catR_L10 := by
  intro σ; intros
  have p0 := ‹catRPre _›
  have h11 : Nice (tl (σ 11)) := p0.1
  have h23 : Nice (tl (σ 23)) := p0.2
  have q11 := h11.2
  have q23 := h23.2
  have v := ‹vldR [σ 11,σ 32]›
  exact vld_yes v h11.1 ‹bv (σ 32) = false›
theorem catR_L11_ok : catR_L11 := by
  intro σ; intros
  have p0 := ‹catRPre _›
  have h11 : Nice (tl (σ 11)) := p0.1
  have h23 : Nice (tl (σ 23)) := p0.2
  have q11 := h11.2
  have q23 := h23.2
  have n_ := ‹¬ vldRPre _›
  exact n_ (vld_pre (by omega))
theorem catR_L12_ok : catR_L12 := by
  intro σ; intros
  have p0 := ‹catRPre _›
  have h11 : Nice (tl (σ 11)) := p0.1
  have h23 : Nice (tl (σ 23)) := p0.2
  have q11 := h11.2
  have q23 := h23.2
  have v := ‹vldR [σ 23,σ 29]›
  exact vld_yes v h23.1 ‹bv (σ 29) = false›
theorem catR_L13_ok : catR_L13 := by
  intro σ; intros
  have p0 := ‹catRPre _›
  have h11 : Nice (tl (σ 11)) := p0.1
  have h23 : Nice (tl (σ 23)) := p0.2
  have q11 := h11.2
  have q23 := h23.2
  have v := ‹vldR [σ 11,σ 26]›
  exact vld_yes v h11.1 ‹bv (σ 26) = false›
theorem cat_ok : catC.ok Tryz.prog Tabs :=
  by_tie catR_tie (by kernel_rfl) cons_ok ⟨catR_L0_ok, catR_L1_ok, catR_L2_ok, catR_L3_ok, catR_L4_ok, catR_L5_ok, catR_L6_ok, catR_L7_ok, catR_L8_ok, catR_L9_ok, catR_L10_ok, catR_L11_ok, catR_L12_ok, catR_L13_ok, trivial⟩
def lenR_L0 : Prop := ∀ σ : Nat → Value,
 σ 0 = (vS #[76,69,78]) →
 σ 2 = vF →
 σ 3 = vF →
 σ 4 = vO →
 σ 5 = vO →
 σ 7 = vZ →
 σ 8 = vZ →
 σ 9 = (vI 2) →
 σ 10 = (vG 0) →
 tS (σ 11) →
 σ 12 = vF →
 σ 13 = vZ →
 lenRPre [(vS #[76,69,78]),vU, vF, vF, vO, vO,vU,vZ,vZ, (vI 2), (vG 0),σ 11, vF,vZ] →
 ¬ vldRPre [σ 11] →
    False
def lenR_L1 : Prop := ∀ σ : Nat → Value,
 σ 0 = (vS #[76,69,78]) →
 σ 2 = vF →
 σ 3 = vF →
 σ 4 = vO →
 σ 5 = vO →
 σ 7 = vZ →
 σ 8 = vZ →
 σ 9 = (vI 2) →
 σ 10 = (vG 0) →
 tS (σ 11) →
 σ 12 = vF →
 σ 13 = vZ →
 tI (σ 15) →
 32769 ≤ iv (σ 15) →
 lenRPre [(vS #[76,69,78]),vU, vF, vF, vO, vO,vU,vZ,vZ, (vI 2), (vG 0),σ 11, vF,vZ] →
 vldR [σ 11,σ 14] →
 iv (σ 15) = ((tv (σ 11)).size : Nat) →
 32768 < iv (σ 15) →
 bv (σ 14) = true →
    False
def lenR_L2 : Prop := ∀ σ : Nat → Value,
 σ 0 = (vS #[76,69,78]) →
 σ 2 = vF →
 σ 3 = vF →
 σ 4 = vO →
 σ 5 = vO →
 σ 7 = vZ →
 σ 8 = vZ →
 σ 9 = (vI 2) →
 σ 10 = (vG 0) →
 tS (σ 11) →
 σ 12 = vF →
 σ 13 = vZ →
 tI (σ 15) →
 0 ≤ iv (σ 15) →
 iv (σ 15) ≤ 32768 →
 tI (σ 18) →
 0 ≤ iv (σ 18) →
 iv (σ 18) ≤ 0 →
 tF (σ 19) →
 tU (σ 20) →
 tU (σ 21) →
 lenRPre [(vS #[76,69,78]),vU, vF, vF, vO, vO,vU,vZ,vZ, (vI 2), (vG 0),σ 11, vF,vZ] →
 vldR [σ 11,σ 14] →
 iv (σ 15) = ((tv (σ 11)).size : Nat) →
 vldR [σ 11,σ 17] →
 cntR [σ 11,σ 18] →
 fv (σ 19) = nE (iv (σ 18)) →
 extRel .fbits [σ 19] (σ 20) →
 aN (σ 20) (σ 21) →
 iv (σ 18) = 0 →
 bv (σ 17) = true →
 iv (σ 15) ≤ 32768 →
 bv (σ 14) = true →
    lenR [(vS #[76,69,78]),vU, vF, vF, vO, vO,vU,vZ,vZ, (vI 2), (vG 0),σ 11, vF,vZ, vO, (vG 0), vE, vF,vZ, vT]
def lenR_L3 : Prop := ∀ σ : Nat → Value,
 σ 0 = (vS #[76,69,78]) →
 σ 2 = vF →
 σ 3 = vF →
 σ 4 = vO →
 σ 5 = vO →
 σ 7 = vZ →
 σ 8 = vZ →
 σ 9 = (vI 2) →
 σ 10 = (vG 0) →
 tS (σ 11) →
 σ 12 = vF →
 σ 13 = vZ →
 tI (σ 15) →
 0 ≤ iv (σ 15) →
 iv (σ 15) ≤ 32768 →
 tI (σ 18) →
 1 ≤ iv (σ 18) →
 iv (σ 18) ≤ 100000 →
 tF (σ 19) →
 tU (σ 20) →
 tU (σ 21) →
 lenRPre [(vS #[76,69,78]),vU, vF, vF, vO, vO,vU,vZ,vZ, (vI 2), (vG 0),σ 11, vF,vZ] →
 vldR [σ 11,σ 14] →
 iv (σ 15) = ((tv (σ 11)).size : Nat) →
 vldR [σ 11,σ 17] →
 cntR [σ 11,σ 18] →
 fv (σ 19) = nE (iv (σ 18)) →
 extRel .fbits [σ 19] (σ 20) →
 aN (σ 20) (σ 21) →
 iv (σ 18) ≠ 0 →
 bv (σ 17) = true →
 iv (σ 15) ≤ 32768 →
 bv (σ 14) = true →
    lenR [(vS #[76,69,78]),vU, vF, vF, vO, vO,vU,vZ,vZ, (vI 2), (vG 0),σ 11, vF,vZ, vO,σ 19, vE, vF,vZ, vT]
def lenR_L4 : Prop := ∀ σ : Nat → Value,
 σ 0 = (vS #[76,69,78]) →
 σ 2 = vF →
 σ 3 = vF →
 σ 4 = vO →
 σ 5 = vO →
 σ 7 = vZ →
 σ 8 = vZ →
 σ 9 = (vI 2) →
 σ 10 = (vG 0) →
 tS (σ 11) →
 σ 12 = vF →
 σ 13 = vZ →
 tI (σ 15) →
 0 ≤ iv (σ 15) →
 iv (σ 15) ≤ 32768 →
 lenRPre [(vS #[76,69,78]),vU, vF, vF, vO, vO,vU,vZ,vZ, (vI 2), (vG 0),σ 11, vF,vZ] →
 vldR [σ 11,σ 14] →
 iv (σ 15) = ((tv (σ 11)).size : Nat) →
 vldR [σ 11,σ 17] →
 ¬ cntRPre [σ 11] →
 bv (σ 17) = true →
 iv (σ 15) ≤ 32768 →
 bv (σ 14) = true →
    False
def lenR_L5 : Prop := ∀ σ : Nat → Value,
 σ 0 = (vS #[76,69,78]) →
 σ 2 = vF →
 σ 3 = vF →
 σ 4 = vO →
 σ 5 = vO →
 σ 7 = vZ →
 σ 8 = vZ →
 σ 9 = (vI 2) →
 σ 10 = (vG 0) →
 tS (σ 11) →
 σ 12 = vF →
 σ 13 = vZ →
 tI (σ 15) →
 0 ≤ iv (σ 15) →
 iv (σ 15) ≤ 32768 →
 lenRPre [(vS #[76,69,78]),vU, vF, vF, vO, vO,vU,vZ,vZ, (vI 2), (vG 0),σ 11, vF,vZ] →
 vldR [σ 11,σ 14] →
 iv (σ 15) = ((tv (σ 11)).size : Nat) →
 vldR [σ 11,σ 17] →
 bv (σ 17) = false →
 iv (σ 15) ≤ 32768 →
 bv (σ 14) = true →
    False
def lenR_L6 : Prop := ∀ σ : Nat → Value,
 σ 0 = (vS #[76,69,78]) →
 σ 2 = vF →
 σ 3 = vF →
 σ 4 = vO →
 σ 5 = vO →
 σ 7 = vZ →
 σ 8 = vZ →
 σ 9 = (vI 2) →
 σ 10 = (vG 0) →
 tS (σ 11) →
 σ 12 = vF →
 σ 13 = vZ →
 tI (σ 15) →
 0 ≤ iv (σ 15) →
 iv (σ 15) ≤ 32768 →
 lenRPre [(vS #[76,69,78]),vU, vF, vF, vO, vO,vU,vZ,vZ, (vI 2), (vG 0),σ 11, vF,vZ] →
 vldR [σ 11,σ 14] →
 iv (σ 15) = ((tv (σ 11)).size : Nat) →
 ¬ vldRPre [σ 11] →
 iv (σ 15) ≤ 32768 →
 bv (σ 14) = true →
    False
def lenR_L7 : Prop := ∀ σ : Nat → Value,
 σ 0 = (vS #[76,69,78]) →
 σ 2 = vF →
 σ 3 = vF →
 σ 4 = vO →
 σ 5 = vO →
 σ 7 = vZ →
 σ 8 = vZ →
 σ 9 = (vI 2) →
 σ 10 = (vG 0) →
 tS (σ 11) →
 σ 12 = vF →
 σ 13 = vZ →
 lenRPre [(vS #[76,69,78]),vU, vF, vF, vO, vO,vU,vZ,vZ, (vI 2), (vG 0),σ 11, vF,vZ] →
 vldR [σ 11,σ 14] →
 bv (σ 14) = false →
    False
theorem lenR_tie : lenC.goals (cfgB lenC.base cons) [] 2000 = (lenR_L0 ∧ lenR_L1 ∧ lenR_L2 ∧ lenR_L3 ∧ lenR_L4 ∧ lenR_L5 ∧ lenR_L6 ∧ lenR_L7 ∧ True) := by kernel_rfl
theorem lenR_L0_ok : lenR_L0 := by
  intro σ; intros
  have p0 := ‹lenRPre _›
  have h11 : Nice (tl (σ 11)) := p0
  have q11 := h11.2
  have n_ := ‹¬ vldRPre _›
  exact n_ (vld_pre (by omega))
theorem lenR_L1_ok : lenR_L1 := by
  intro σ; intros
  have p0 := ‹lenRPre _›
  have h11 : Nice (tl (σ 11)) := p0
  have q11 := h11.2
  have hq := ‹iv (σ 15) = ((tv (σ 11)).size : Nat)›
  rw [← tl_len] at hq
  omega
theorem lenR_L2_ok : lenR_L2 := by
  intro σ; intros
  have p0 := ‹lenRPre _›
  have h11 : Nice (tl (σ 11)) := p0
  have q11 := h11.2
  have hc0 := ‹cntR _›
  have hc : iv (σ 18) = (cntL (tl (σ 11)) : Nat) := hc0
  show (0 : Nat) = nr (cntL (tl (σ 11)))
  have z0 : cntL (tl (σ 11)) = 0 := by omega
  rw [z0]; exact nr_zero.symm
theorem lenR_L3_ok : lenR_L3 := by
  intro σ; intros
  have p0 := ‹lenRPre _›
  have h11 : Nice (tl (σ 11)) := p0
  have q11 := h11.2
  have hc0 := ‹cntR _›
  have hc : iv (σ 18) = (cntL (tl (σ 11)) : Nat) := hc0
  have hf := ‹fv (σ 19) = nE (iv (σ 18))›
  rw [hc] at hf
  exact hf
theorem lenR_L4_ok : lenR_L4 := by
  intro σ; intros
  have p0 := ‹lenRPre _›
  have h11 : Nice (tl (σ 11)) := p0
  have q11 := h11.2
  have n_ := ‹¬ cntRPre _›
  exact n_ (by show (tl (σ 11)).length ≤ _; omega)
theorem lenR_L5_ok : lenR_L5 := by
  intro σ; intros
  have p0 := ‹lenRPre _›
  have h11 : Nice (tl (σ 11)) := p0
  have q11 := h11.2
  have v := ‹vldR [σ 11,σ 17]›
  exact vld_yes v h11.1 ‹bv (σ 17) = false›
theorem lenR_L6_ok : lenR_L6 := by
  intro σ; intros
  have p0 := ‹lenRPre _›
  have h11 : Nice (tl (σ 11)) := p0
  have q11 := h11.2
  have n_ := ‹¬ vldRPre _›
  exact n_ (vld_pre (by omega))
theorem lenR_L7_ok : lenR_L7 := by
  intro σ; intros
  have p0 := ‹lenRPre _›
  have h11 : Nice (tl (σ 11)) := p0
  have q11 := h11.2
  have v := ‹vldR [σ 11,σ 14]›
  exact vld_yes v h11.1 ‹bv (σ 14) = false›
theorem len_ok : lenC.ok Tryz.prog Tabs :=
  by_tie lenR_tie (by kernel_rfl) cons_ok ⟨lenR_L0_ok, lenR_L1_ok, lenR_L2_ok, lenR_L3_ok, lenR_L4_ok, lenR_L5_ok, lenR_L6_ok, lenR_L7_ok, trivial⟩
end Go.Proofs.Bs
