/- The law of cut texts. -/
import Derived.Test.YtlinfpchnonbpaaGreatDoorPartB
import Derived.Test.YtlinfpchnonbpaaGreatDoorPartC
namespace Go.Proofs.Bs
open Go.Ev Go.RowKit Ieee
set_option maxRecDepth 1000000
def isTrue_L0 : Prop := ∀ _ : Nat → Value,
    isTrue [vT]
theorem isTrue_tie : liveC.goals (cfgB liveC.base []) [] 2000 = (isTrue_L0 ∧ True) := by kernel_rfl
theorem live_ok : liveC.ok Tryz.prog Tabs := by_tie isTrue_tie (by kernel_rfl) all_nil ⟨fun _ => by intros; rfl, trivial⟩
def lawR_L0 : Prop := ∀ σ : Nat → Value,
 tS (σ 0) →
 σ 1 = .int .u8 (iv (σ 1)) →
 0 ≤ iv (σ 1) →
 iv (σ 1) ≤ 255 →
 tB (σ 4) →
 lawRPre [σ 0,σ 1] →
 vldR [σ 0,σ 2] →
 isTrue [σ 4] →
 bv (σ 2) = false →
 bv (σ 2) = !true →
    lawR [σ 0,σ 1,σ 4]
def lawR_L1 : Prop := ∀ σ : Nat → Value,
 tS (σ 0) →
 σ 1 = .int .u8 (iv (σ 1)) →
 0 ≤ iv (σ 1) →
 iv (σ 1) ≤ 255 →
 tI (σ 4) →
 1001 ≤ iv (σ 4) →
 tB (σ 6) →
 lawRPre [σ 0,σ 1] →
 vldR [σ 0,σ 2] →
 iv (σ 4) = ((tv (σ 0)).size : Nat) →
 isTrue [σ 6] →
 1000 < iv (σ 4) →
 bv (σ 2) = true →
 bv (σ 2) = !false →
    lawR [σ 0,σ 1,σ 6]
def lawR_L2 : Prop := ∀ σ : Nat → Value,
 tS (σ 0) →
 σ 1 = .int .u8 (iv (σ 1)) →
 0 ≤ iv (σ 1) →
 iv (σ 1) ≤ 255 →
 tI (σ 4) →
 0 ≤ iv (σ 4) →
 iv (σ 4) ≤ 1000 →
 tI (σ 6) →
 0 ≤ iv (σ 6) →
 iv (σ 6) ≤ 255 →
 tF (σ 7) →
 σ 8 = (vI 2) →
 σ 9 = (vG 0) →
 tS (σ 10) →
 σ 11 = vF →
 σ 12 = vZ →
 σ 13 = vT →
 tI (σ 14) →
 1 ≤ iv (σ 14) →
 iv (σ 14) ≤ 256 →
 tF (σ 15) →
 tF (σ 16) →
 σ 17 = (vI 2) →
 σ 18 = (vG 0) →
 tS (σ 19) →
 σ 20 = vF →
 σ 21 = vZ →
 σ 22 = vT →
 lawRPre [σ 0,σ 1] →
 vldR [σ 0,σ 2] →
 iv (σ 4) = ((tv (σ 0)).size : Nat) →
 iv (σ 6) = iv (σ 1) →
 fv (σ 7) = nE (iv (σ 6)) →
 leftR [(vS #[76,69,70,84]),vU, vF, vF, vO, vO,vU,vZ,vZ, (vI 2), (vG 0),σ 0, vF,vZ, vF, vF, vO, vO,vU,vZ,vZ, vO,σ 6,σ 7, vE, vF,vZ, (vI 2), (vG 0),σ 10, vF,vZ, vT] →
 iv (σ 14) = iv (σ 6) + 1 →
 fv (σ 15) = nE (iv (σ 14)) →
 fv (σ 16) = nE (iv (σ 4)) →
 midR [(vS #[77,73,68]),vU, vF, vF, vO, vO,vU,vZ,vZ, (vI 2), (vG 0),σ 0, vF,vZ, vF, vF, vO, vO,vU,vZ,vZ, vO,σ 14,σ 15, vE, vF,vZ, vF, vF, vO, vO,vU,vZ,vZ, vO,σ 4,σ 16, vE, vF,vZ, (vI 2), (vG 0),σ 19, vF,vZ, vT] →
 ¬ catRPre [(vS #[67,79,78,67,65,84,69,78,65,84,69]),vU, vF, vF, vO, vO,vU,vZ,vZ, (vI 2), (vG 0),σ 10, vF,vZ, vF, vF, vO, vO,vU,vZ,vZ, (vI 2), (vG 0),σ 19, vF,vZ] →
 iv (σ 4) ≤ 1000 →
 bv (σ 2) = true →
 bv (σ 2) = !false →
    False
def lawR_L4 : Prop := ∀ σ : Nat → Value,
 tS (σ 0) →
 σ 1 = .int .u8 (iv (σ 1)) →
 0 ≤ iv (σ 1) →
 iv (σ 1) ≤ 255 →
 tI (σ 4) →
 0 ≤ iv (σ 4) →
 iv (σ 4) ≤ 1000 →
 tI (σ 6) →
 0 ≤ iv (σ 6) →
 iv (σ 6) ≤ 255 →
 tF (σ 7) →
 σ 8 = (vI 2) →
 σ 9 = (vG 0) →
 tS (σ 10) →
 σ 11 = vF →
 σ 12 = vZ →
 σ 13 = vT →
 tI (σ 14) →
 1 ≤ iv (σ 14) →
 iv (σ 14) ≤ 256 →
 tF (σ 15) →
 tF (σ 16) →
 σ 17 = (vI 2) →
 σ 18 = (vG 0) →
 tS (σ 19) →
 σ 20 = vF →
 σ 21 = vZ →
 σ 22 = vT →
 σ 23 = (vI 2) →
 σ 24 = (vG 0) →
 tS (σ 25) →
 σ 26 = vF →
 σ 27 = vZ →
 σ 28 = vT →
 σ 29 = vO →
 tF (σ 30) →
 σ 31 = vE →
 σ 32 = vF →
 σ 33 = vZ →
 σ 34 = vT →
 σ 35 = vO →
 tF (σ 36) →
 σ 37 = vE →
 σ 38 = vF →
 σ 39 = vZ →
 σ 40 = vT →
 σ 41 = vO →
 tF (σ 42) →
 σ 43 = vE →
 σ 44 = vF →
 σ 45 = vZ →
 σ 46 = vT →
 tF (σ 49) →
 tB (σ 50) →
 lawRPre [σ 0,σ 1] →
 vldR [σ 0,σ 2] →
 iv (σ 4) = ((tv (σ 0)).size : Nat) →
 iv (σ 6) = iv (σ 1) →
 fv (σ 7) = nE (iv (σ 6)) →
 leftR [(vS #[76,69,70,84]),vU, vF, vF, vO, vO,vU,vZ,vZ, (vI 2), (vG 0),σ 0, vF,vZ, vF, vF, vO, vO,vU,vZ,vZ, vO,σ 6,σ 7, vE, vF,vZ, (vI 2), (vG 0),σ 10, vF,vZ, vT] →
 iv (σ 14) = iv (σ 6) + 1 →
 fv (σ 15) = nE (iv (σ 14)) →
 fv (σ 16) = nE (iv (σ 4)) →
 midR [(vS #[77,73,68]),vU, vF, vF, vO, vO,vU,vZ,vZ, (vI 2), (vG 0),σ 0, vF,vZ, vF, vF, vO, vO,vU,vZ,vZ, vO,σ 14,σ 15, vE, vF,vZ, vF, vF, vO, vO,vU,vZ,vZ, vO,σ 4,σ 16, vE, vF,vZ, (vI 2), (vG 0),σ 19, vF,vZ, vT] →
 catR [(vS #[67,79,78,67,65,84,69,78,65,84,69]),vU, vF, vF, vO, vO,vU,vZ,vZ, (vI 2), (vG 0),σ 10, vF,vZ, vF, vF, vO, vO,vU,vZ,vZ, (vI 2), (vG 0),σ 19, vF,vZ, (vI 2), (vG 0),σ 25, vF,vZ, vT] →
 lenR [(vS #[76,69,78]),vU, vF, vF, vO, vO,vU,vZ,vZ, (vI 2), (vG 0),σ 0, vF,vZ, vO,σ 30, vE, vF,vZ, vT] →
 lenR [(vS #[76,69,78]),vU, vF, vF, vO, vO,vU,vZ,vZ, (vI 2), (vG 0),σ 10, vF,vZ, vO,σ 36, vE, vF,vZ, vT] →
 lenR [(vS #[76,69,78]),vU, vF, vF, vO, vO,vU,vZ,vZ, (vI 2), (vG 0),σ 19, vF,vZ, vO,σ 42, vE, vF,vZ, vT] →
 isTrue [σ 47] →
 (farV .add .f64 (fv (σ 36)) (fv (σ 42)) = some (some (fv (σ 49))) ∨ (farV .add .f64 (fv (σ 36)) (fv (σ 42)) = some none ∧ Nan64 (fv (σ 49)))) →
 fcmpV .eql .f64 (fv (σ 30)) (fv (σ 49)) = some (.bool (bv (σ 50))) →
 ((tv (σ 25)).toList == (tv (σ 0)).toList) = true →
 bv (σ 47) = true →
 iv (σ 4) ≤ 1000 →
 bv (σ 2) = true →
 bv (σ 2) = !false →
    lawR [σ 0,σ 1,σ 50]
def lawR_L5 : Prop := ∀ σ : Nat → Value,
 tS (σ 0) →
 σ 1 = .int .u8 (iv (σ 1)) →
 0 ≤ iv (σ 1) →
 iv (σ 1) ≤ 255 →
 tI (σ 4) →
 0 ≤ iv (σ 4) →
 iv (σ 4) ≤ 1000 →
 tI (σ 6) →
 0 ≤ iv (σ 6) →
 iv (σ 6) ≤ 255 →
 tF (σ 7) →
 σ 8 = (vI 2) →
 σ 9 = (vG 0) →
 tS (σ 10) →
 σ 11 = vF →
 σ 12 = vZ →
 σ 13 = vT →
 tI (σ 14) →
 1 ≤ iv (σ 14) →
 iv (σ 14) ≤ 256 →
 tF (σ 15) →
 tF (σ 16) →
 σ 17 = (vI 2) →
 σ 18 = (vG 0) →
 tS (σ 19) →
 σ 20 = vF →
 σ 21 = vZ →
 σ 22 = vT →
 σ 23 = (vI 2) →
 σ 24 = (vG 0) →
 tS (σ 25) →
 σ 26 = vF →
 σ 27 = vZ →
 σ 28 = vT →
 σ 29 = vO →
 tF (σ 30) →
 σ 31 = vE →
 σ 32 = vF →
 σ 33 = vZ →
 σ 34 = vT →
 σ 35 = vO →
 tF (σ 36) →
 σ 37 = vE →
 σ 38 = vF →
 σ 39 = vZ →
 σ 40 = vT →
 σ 41 = vO →
 tF (σ 42) →
 σ 43 = vE →
 σ 44 = vF →
 σ 45 = vZ →
 σ 46 = vT →
 lawRPre [σ 0,σ 1] →
 vldR [σ 0,σ 2] →
 iv (σ 4) = ((tv (σ 0)).size : Nat) →
 iv (σ 6) = iv (σ 1) →
 fv (σ 7) = nE (iv (σ 6)) →
 leftR [(vS #[76,69,70,84]),vU, vF, vF, vO, vO,vU,vZ,vZ, (vI 2), (vG 0),σ 0, vF,vZ, vF, vF, vO, vO,vU,vZ,vZ, vO,σ 6,σ 7, vE, vF,vZ, (vI 2), (vG 0),σ 10, vF,vZ, vT] →
 iv (σ 14) = iv (σ 6) + 1 →
 fv (σ 15) = nE (iv (σ 14)) →
 fv (σ 16) = nE (iv (σ 4)) →
 midR [(vS #[77,73,68]),vU, vF, vF, vO, vO,vU,vZ,vZ, (vI 2), (vG 0),σ 0, vF,vZ, vF, vF, vO, vO,vU,vZ,vZ, vO,σ 14,σ 15, vE, vF,vZ, vF, vF, vO, vO,vU,vZ,vZ, vO,σ 4,σ 16, vE, vF,vZ, (vI 2), (vG 0),σ 19, vF,vZ, vT] →
 catR [(vS #[67,79,78,67,65,84,69,78,65,84,69]),vU, vF, vF, vO, vO,vU,vZ,vZ, (vI 2), (vG 0),σ 10, vF,vZ, vF, vF, vO, vO,vU,vZ,vZ, (vI 2), (vG 0),σ 19, vF,vZ, (vI 2), (vG 0),σ 25, vF,vZ, vT] →
 lenR [(vS #[76,69,78]),vU, vF, vF, vO, vO,vU,vZ,vZ, (vI 2), (vG 0),σ 0, vF,vZ, vO,σ 30, vE, vF,vZ, vT] →
 lenR [(vS #[76,69,78]),vU, vF, vF, vO, vO,vU,vZ,vZ, (vI 2), (vG 0),σ 10, vF,vZ, vO,σ 36, vE, vF,vZ, vT] →
 lenR [(vS #[76,69,78]),vU, vF, vF, vO, vO,vU,vZ,vZ, (vI 2), (vG 0),σ 19, vF,vZ, vO,σ 42, vE, vF,vZ, vT] →
 isTrue [σ 47] →
 ((tv (σ 25)).toList == (tv (σ 0)).toList) = false →
 bv (σ 47) = true →
 iv (σ 4) ≤ 1000 →
 bv (σ 2) = true →
 bv (σ 2) = !false →
    lawR [σ 0,σ 1, vF]
def lawR_L6 : Prop := ∀ σ : Nat → Value,
 tS (σ 0) →
 σ 1 = .int .u8 (iv (σ 1)) →
 0 ≤ iv (σ 1) →
 iv (σ 1) ≤ 255 →
 tI (σ 4) →
 0 ≤ iv (σ 4) →
 iv (σ 4) ≤ 1000 →
 tI (σ 6) →
 0 ≤ iv (σ 6) →
 iv (σ 6) ≤ 255 →
 tF (σ 7) →
 σ 8 = (vI 2) →
 σ 9 = (vG 0) →
 tS (σ 10) →
 σ 11 = vF →
 σ 12 = vZ →
 σ 13 = vT →
 tI (σ 14) →
 1 ≤ iv (σ 14) →
 iv (σ 14) ≤ 256 →
 tF (σ 15) →
 tF (σ 16) →
 σ 17 = (vI 2) →
 σ 18 = (vG 0) →
 tS (σ 19) →
 σ 20 = vF →
 σ 21 = vZ →
 σ 22 = vT →
 σ 23 = (vI 2) →
 σ 24 = (vG 0) →
 tS (σ 25) →
 σ 26 = vF →
 σ 27 = vZ →
 σ 28 = vT →
 σ 29 = vO →
 tF (σ 30) →
 σ 31 = vE →
 σ 32 = vF →
 σ 33 = vZ →
 σ 34 = vT →
 σ 35 = vO →
 tF (σ 36) →
 σ 37 = vE →
 σ 38 = vF →
 σ 39 = vZ →
 σ 40 = vT →
 σ 41 = vO →
 tF (σ 42) →
 σ 43 = vE →
 σ 44 = vF →
 σ 45 = vZ →
 σ 46 = vT →
 lawRPre [σ 0,σ 1] →
 vldR [σ 0,σ 2] →
 iv (σ 4) = ((tv (σ 0)).size : Nat) →
 iv (σ 6) = iv (σ 1) →
 fv (σ 7) = nE (iv (σ 6)) →
 leftR [(vS #[76,69,70,84]),vU, vF, vF, vO, vO,vU,vZ,vZ, (vI 2), (vG 0),σ 0, vF,vZ, vF, vF, vO, vO,vU,vZ,vZ, vO,σ 6,σ 7, vE, vF,vZ, (vI 2), (vG 0),σ 10, vF,vZ, vT] →
 iv (σ 14) = iv (σ 6) + 1 →
 fv (σ 15) = nE (iv (σ 14)) →
 fv (σ 16) = nE (iv (σ 4)) →
 midR [(vS #[77,73,68]),vU, vF, vF, vO, vO,vU,vZ,vZ, (vI 2), (vG 0),σ 0, vF,vZ, vF, vF, vO, vO,vU,vZ,vZ, vO,σ 14,σ 15, vE, vF,vZ, vF, vF, vO, vO,vU,vZ,vZ, vO,σ 4,σ 16, vE, vF,vZ, (vI 2), (vG 0),σ 19, vF,vZ, vT] →
 catR [(vS #[67,79,78,67,65,84,69,78,65,84,69]),vU, vF, vF, vO, vO,vU,vZ,vZ, (vI 2), (vG 0),σ 10, vF,vZ, vF, vF, vO, vO,vU,vZ,vZ, (vI 2), (vG 0),σ 19, vF,vZ, (vI 2), (vG 0),σ 25, vF,vZ, vT] →
 lenR [(vS #[76,69,78]),vU, vF, vF, vO, vO,vU,vZ,vZ, (vI 2), (vG 0),σ 0, vF,vZ, vO,σ 30, vE, vF,vZ, vT] →
 lenR [(vS #[76,69,78]),vU, vF, vF, vO, vO,vU,vZ,vZ, (vI 2), (vG 0),σ 10, vF,vZ, vO,σ 36, vE, vF,vZ, vT] →
 lenR [(vS #[76,69,78]),vU, vF, vF, vO, vO,vU,vZ,vZ, (vI 2), (vG 0),σ 19, vF,vZ, vO,σ 42, vE, vF,vZ, vT] →
 isTrue [σ 47] →
 bv (σ 47) = false →
 iv (σ 4) ≤ 1000 →
 bv (σ 2) = true →
 bv (σ 2) = !false →
    lawR [σ 0,σ 1, vF]
def lawR_L7 : Prop := ∀ σ : Nat → Value,
 tS (σ 0) →
 σ 1 = .int .u8 (iv (σ 1)) →
 0 ≤ iv (σ 1) →
 iv (σ 1) ≤ 255 →
 tI (σ 4) →
 0 ≤ iv (σ 4) →
 iv (σ 4) ≤ 1000 →
 tI (σ 6) →
 0 ≤ iv (σ 6) →
 iv (σ 6) ≤ 255 →
 tF (σ 7) →
 σ 8 = (vI 2) →
 σ 9 = (vG 0) →
 tS (σ 10) →
 σ 11 = vF →
 σ 12 = vZ →
 σ 13 = vT →
 tI (σ 14) →
 1 ≤ iv (σ 14) →
 iv (σ 14) ≤ 256 →
 tF (σ 15) →
 tF (σ 16) →
 σ 17 = (vI 2) →
 σ 18 = (vG 0) →
 tS (σ 19) →
 σ 20 = vF →
 σ 21 = vZ →
 σ 22 = vT →
 σ 23 = (vI 2) →
 σ 24 = (vG 0) →
 tS (σ 25) →
 σ 26 = vF →
 σ 27 = vZ →
 σ 28 = vT →
 σ 29 = vO →
 tF (σ 30) →
 σ 31 = vE →
 σ 32 = vF →
 σ 33 = vZ →
 σ 34 = vT →
 σ 35 = vO →
 tF (σ 36) →
 σ 37 = vE →
 σ 38 = vF →
 σ 39 = vZ →
 σ 40 = vT →
 lawRPre [σ 0,σ 1] →
 vldR [σ 0,σ 2] →
 iv (σ 4) = ((tv (σ 0)).size : Nat) →
 iv (σ 6) = iv (σ 1) →
 fv (σ 7) = nE (iv (σ 6)) →
 leftR [(vS #[76,69,70,84]),vU, vF, vF, vO, vO,vU,vZ,vZ, (vI 2), (vG 0),σ 0, vF,vZ, vF, vF, vO, vO,vU,vZ,vZ, vO,σ 6,σ 7, vE, vF,vZ, (vI 2), (vG 0),σ 10, vF,vZ, vT] →
 iv (σ 14) = iv (σ 6) + 1 →
 fv (σ 15) = nE (iv (σ 14)) →
 fv (σ 16) = nE (iv (σ 4)) →
 midR [(vS #[77,73,68]),vU, vF, vF, vO, vO,vU,vZ,vZ, (vI 2), (vG 0),σ 0, vF,vZ, vF, vF, vO, vO,vU,vZ,vZ, vO,σ 14,σ 15, vE, vF,vZ, vF, vF, vO, vO,vU,vZ,vZ, vO,σ 4,σ 16, vE, vF,vZ, (vI 2), (vG 0),σ 19, vF,vZ, vT] →
 catR [(vS #[67,79,78,67,65,84,69,78,65,84,69]),vU, vF, vF, vO, vO,vU,vZ,vZ, (vI 2), (vG 0),σ 10, vF,vZ, vF, vF, vO, vO,vU,vZ,vZ, (vI 2), (vG 0),σ 19, vF,vZ, (vI 2), (vG 0),σ 25, vF,vZ, vT] →
 lenR [(vS #[76,69,78]),vU, vF, vF, vO, vO,vU,vZ,vZ, (vI 2), (vG 0),σ 0, vF,vZ, vO,σ 30, vE, vF,vZ, vT] →
 lenR [(vS #[76,69,78]),vU, vF, vF, vO, vO,vU,vZ,vZ, (vI 2), (vG 0),σ 10, vF,vZ, vO,σ 36, vE, vF,vZ, vT] →
 ¬ lenRPre [(vS #[76,69,78]),vU, vF, vF, vO, vO,vU,vZ,vZ, (vI 2), (vG 0),σ 19, vF,vZ] →
 iv (σ 4) ≤ 1000 →
 bv (σ 2) = true →
 bv (σ 2) = !false →
    False
def lawR_L8 : Prop := ∀ σ : Nat → Value,
 tS (σ 0) →
 σ 1 = .int .u8 (iv (σ 1)) →
 0 ≤ iv (σ 1) →
 iv (σ 1) ≤ 255 →
 tI (σ 4) →
 0 ≤ iv (σ 4) →
 iv (σ 4) ≤ 1000 →
 tI (σ 6) →
 0 ≤ iv (σ 6) →
 iv (σ 6) ≤ 255 →
 tF (σ 7) →
 σ 8 = (vI 2) →
 σ 9 = (vG 0) →
 tS (σ 10) →
 σ 11 = vF →
 σ 12 = vZ →
 σ 13 = vT →
 tI (σ 14) →
 1 ≤ iv (σ 14) →
 iv (σ 14) ≤ 256 →
 tF (σ 15) →
 tF (σ 16) →
 σ 17 = (vI 2) →
 σ 18 = (vG 0) →
 tS (σ 19) →
 σ 20 = vF →
 σ 21 = vZ →
 σ 22 = vT →
 σ 23 = (vI 2) →
 σ 24 = (vG 0) →
 tS (σ 25) →
 σ 26 = vF →
 σ 27 = vZ →
 σ 28 = vT →
 σ 29 = vO →
 tF (σ 30) →
 σ 31 = vE →
 σ 32 = vF →
 σ 33 = vZ →
 σ 34 = vT →
 lawRPre [σ 0,σ 1] →
 vldR [σ 0,σ 2] →
 iv (σ 4) = ((tv (σ 0)).size : Nat) →
 iv (σ 6) = iv (σ 1) →
 fv (σ 7) = nE (iv (σ 6)) →
 leftR [(vS #[76,69,70,84]),vU, vF, vF, vO, vO,vU,vZ,vZ, (vI 2), (vG 0),σ 0, vF,vZ, vF, vF, vO, vO,vU,vZ,vZ, vO,σ 6,σ 7, vE, vF,vZ, (vI 2), (vG 0),σ 10, vF,vZ, vT] →
 iv (σ 14) = iv (σ 6) + 1 →
 fv (σ 15) = nE (iv (σ 14)) →
 fv (σ 16) = nE (iv (σ 4)) →
 midR [(vS #[77,73,68]),vU, vF, vF, vO, vO,vU,vZ,vZ, (vI 2), (vG 0),σ 0, vF,vZ, vF, vF, vO, vO,vU,vZ,vZ, vO,σ 14,σ 15, vE, vF,vZ, vF, vF, vO, vO,vU,vZ,vZ, vO,σ 4,σ 16, vE, vF,vZ, (vI 2), (vG 0),σ 19, vF,vZ, vT] →
 catR [(vS #[67,79,78,67,65,84,69,78,65,84,69]),vU, vF, vF, vO, vO,vU,vZ,vZ, (vI 2), (vG 0),σ 10, vF,vZ, vF, vF, vO, vO,vU,vZ,vZ, (vI 2), (vG 0),σ 19, vF,vZ, (vI 2), (vG 0),σ 25, vF,vZ, vT] →
 lenR [(vS #[76,69,78]),vU, vF, vF, vO, vO,vU,vZ,vZ, (vI 2), (vG 0),σ 0, vF,vZ, vO,σ 30, vE, vF,vZ, vT] →
 ¬ lenRPre [(vS #[76,69,78]),vU, vF, vF, vO, vO,vU,vZ,vZ, (vI 2), (vG 0),σ 10, vF,vZ] →
 iv (σ 4) ≤ 1000 →
 bv (σ 2) = true →
 bv (σ 2) = !false →
    False
def lawR_L9 : Prop := ∀ σ : Nat → Value,
 tS (σ 0) →
 σ 1 = .int .u8 (iv (σ 1)) →
 0 ≤ iv (σ 1) →
 iv (σ 1) ≤ 255 →
 tI (σ 4) →
 0 ≤ iv (σ 4) →
 iv (σ 4) ≤ 1000 →
 tI (σ 6) →
 0 ≤ iv (σ 6) →
 iv (σ 6) ≤ 255 →
 tF (σ 7) →
 σ 8 = (vI 2) →
 σ 9 = (vG 0) →
 tS (σ 10) →
 σ 11 = vF →
 σ 12 = vZ →
 σ 13 = vT →
 tI (σ 14) →
 1 ≤ iv (σ 14) →
 iv (σ 14) ≤ 256 →
 tF (σ 15) →
 tF (σ 16) →
 σ 17 = (vI 2) →
 σ 18 = (vG 0) →
 tS (σ 19) →
 σ 20 = vF →
 σ 21 = vZ →
 σ 22 = vT →
 σ 23 = (vI 2) →
 σ 24 = (vG 0) →
 tS (σ 25) →
 σ 26 = vF →
 σ 27 = vZ →
 σ 28 = vT →
 lawRPre [σ 0,σ 1] →
 vldR [σ 0,σ 2] →
 iv (σ 4) = ((tv (σ 0)).size : Nat) →
 iv (σ 6) = iv (σ 1) →
 fv (σ 7) = nE (iv (σ 6)) →
 leftR [(vS #[76,69,70,84]),vU, vF, vF, vO, vO,vU,vZ,vZ, (vI 2), (vG 0),σ 0, vF,vZ, vF, vF, vO, vO,vU,vZ,vZ, vO,σ 6,σ 7, vE, vF,vZ, (vI 2), (vG 0),σ 10, vF,vZ, vT] →
 iv (σ 14) = iv (σ 6) + 1 →
 fv (σ 15) = nE (iv (σ 14)) →
 fv (σ 16) = nE (iv (σ 4)) →
 midR [(vS #[77,73,68]),vU, vF, vF, vO, vO,vU,vZ,vZ, (vI 2), (vG 0),σ 0, vF,vZ, vF, vF, vO, vO,vU,vZ,vZ, vO,σ 14,σ 15, vE, vF,vZ, vF, vF, vO, vO,vU,vZ,vZ, vO,σ 4,σ 16, vE, vF,vZ, (vI 2), (vG 0),σ 19, vF,vZ, vT] →
 catR [(vS #[67,79,78,67,65,84,69,78,65,84,69]),vU, vF, vF, vO, vO,vU,vZ,vZ, (vI 2), (vG 0),σ 10, vF,vZ, vF, vF, vO, vO,vU,vZ,vZ, (vI 2), (vG 0),σ 19, vF,vZ, (vI 2), (vG 0),σ 25, vF,vZ, vT] →
 ¬ lenRPre [(vS #[76,69,78]),vU, vF, vF, vO, vO,vU,vZ,vZ, (vI 2), (vG 0),σ 0, vF,vZ] →
 iv (σ 4) ≤ 1000 →
 bv (σ 2) = true →
 bv (σ 2) = !false →
    False
def lawR_L16 : Prop := ∀ σ : Nat → Value,
 tS (σ 0) →
 σ 1 = .int .u8 (iv (σ 1)) →
 0 ≤ iv (σ 1) →
 iv (σ 1) ≤ 255 →
 tI (σ 4) →
 0 ≤ iv (σ 4) →
 iv (σ 4) ≤ 1000 →
 tI (σ 6) →
 0 ≤ iv (σ 6) →
 iv (σ 6) ≤ 255 →
 tF (σ 7) →
 σ 8 = (vI 2) →
 σ 9 = (vG 0) →
 tS (σ 10) →
 σ 11 = vF →
 σ 12 = vZ →
 σ 13 = vT →
 tI (σ 14) →
 1 ≤ iv (σ 14) →
 iv (σ 14) ≤ 256 →
 tF (σ 15) →
 tF (σ 16) →
 lawRPre [σ 0,σ 1] →
 vldR [σ 0,σ 2] →
 iv (σ 4) = ((tv (σ 0)).size : Nat) →
 iv (σ 6) = iv (σ 1) →
 fv (σ 7) = nE (iv (σ 6)) →
 leftR [(vS #[76,69,70,84]),vU, vF, vF, vO, vO,vU,vZ,vZ, (vI 2), (vG 0),σ 0, vF,vZ, vF, vF, vO, vO,vU,vZ,vZ, vO,σ 6,σ 7, vE, vF,vZ, (vI 2), (vG 0),σ 10, vF,vZ, vT] →
 iv (σ 14) = iv (σ 6) + 1 →
 fv (σ 15) = nE (iv (σ 14)) →
 fv (σ 16) = nE (iv (σ 4)) →
 ¬ midRPre [(vS #[77,73,68]),vU, vF, vF, vO, vO,vU,vZ,vZ, (vI 2), (vG 0),σ 0, vF,vZ, vF, vF, vO, vO,vU,vZ,vZ, vO,σ 14,σ 15, vE, vF,vZ, vF, vF, vO, vO,vU,vZ,vZ, vO,σ 4,σ 16, vE, vF,vZ] →
 iv (σ 4) ≤ 1000 →
 bv (σ 2) = true →
 bv (σ 2) = !false →
    False
def lawR_L17 : Prop := ∀ σ : Nat → Value,
 tS (σ 0) →
 σ 1 = .int .u8 (iv (σ 1)) →
 0 ≤ iv (σ 1) →
 iv (σ 1) ≤ 255 →
 tI (σ 4) →
 0 ≤ iv (σ 4) →
 iv (σ 4) ≤ 1000 →
 tI (σ 6) →
 0 ≤ iv (σ 6) →
 iv (σ 6) ≤ 255 →
 tF (σ 7) →
 lawRPre [σ 0,σ 1] →
 vldR [σ 0,σ 2] →
 iv (σ 4) = ((tv (σ 0)).size : Nat) →
 iv (σ 6) = iv (σ 1) →
 fv (σ 7) = nE (iv (σ 6)) →
 ¬ leftRPre [(vS #[76,69,70,84]),vU, vF, vF, vO, vO,vU,vZ,vZ, (vI 2), (vG 0),σ 0, vF,vZ, vF, vF, vO, vO,vU,vZ,vZ, vO,σ 6,σ 7, vE, vF,vZ] →
 iv (σ 4) ≤ 1000 →
 bv (σ 2) = true →
 bv (σ 2) = !false →
    False
def lawR_L18 : Prop := ∀ σ : Nat → Value,
 tS (σ 0) →
 σ 1 = .int .u8 (iv (σ 1)) →
 0 ≤ iv (σ 1) →
 iv (σ 1) ≤ 255 →
 lawRPre [σ 0,σ 1] →
 ¬ vldRPre [σ 0] →
    False
theorem lawR_tie : lawC.goals (cfgB lawC.base [vldC, leftC, midC, catC, lenC, liveC]) [] 2000 = (lawR_L0 ∧ lawR_L1 ∧ lawR_L2 ∧ lawR_L2 ∧ lawR_L4 ∧ lawR_L5 ∧ lawR_L6 ∧ lawR_L7 ∧ lawR_L8 ∧ lawR_L9 ∧ lawR_L4 ∧ lawR_L5 ∧ lawR_L6 ∧ lawR_L7 ∧ lawR_L8 ∧ lawR_L9 ∧ lawR_L16 ∧ lawR_L17 ∧ lawR_L18 ∧ True) := by kernel_rfl
theorem lawR_L0_ok : lawR_L0 := by
  intro σ; intros
  have t := ‹isTrue [σ 4]›
  have t2 : [σ 4] = [Value.bool true] := t
  show σ 4 = .bool true
  exact (List.cons.inj t2).1
theorem lawR_L1_ok : lawR_L1 := by
  intro σ; intros
  have t := ‹isTrue [σ 6]›
  have t2 : [σ 6] = [Value.bool true] := t
  show σ 6 = .bool true
  exact (List.cons.inj t2).1
theorem lawR_L2_ok : lawR_L2 := by
  intro σ; intros
  have v0 := ‹vldR _›
  have v1 : bv (σ 2) = Lib.validD (tl (σ 0)) := v0
  rw [‹bv (σ 2) = true›] at v1
  have hz := ‹iv (σ 4) = ((tv (σ 0)).size : Nat)›
  rw [← tl_len] at hz
  have hs : Nice (tl (σ 0)) := ⟨v1.symm, by omega⟩
  have hl := ‹leftR _›
  have hm := ‹midR _›
  obtain ⟨na, nb, ab, cn⟩ := parts (n := (iv (σ 6)).toNat) (s := σ 0) (a := σ 10) (b := σ 19) hs hl rfl rfl rfl hm rfl rfl (by show (iv (σ 14) - 1).toNat = _; omega)
  have n_ := ‹¬ catRPre _›
  exact n_ ⟨na, nb⟩
theorem lawR_L4_ok : lawR_L4 := by
  intro σ; intros
  have v0 := ‹vldR _›
  have v1 : bv (σ 2) = Lib.validD (tl (σ 0)) := v0
  rw [‹bv (σ 2) = true›] at v1
  have hz := ‹iv (σ 4) = ((tv (σ 0)).size : Nat)›
  rw [← tl_len] at hz
  have hs : Nice (tl (σ 0)) := ⟨v1.symm, by omega⟩
  have hl := ‹leftR _›
  have hm := ‹midR _›
  obtain ⟨na, nb, ab, cn⟩ := parts (n := (iv (σ 6)).toNat) (s := σ 0) (a := σ 10) (b := σ 19) hs hl rfl rfl rfl hm rfl rfl (by show (iv (σ 14) - 1).toNat = _; omega)
  have hc0 := ‹catR _›
  have hc : tl (σ 25) = tl (σ 10) ++ tl (σ 19) := hc0
  rw [ab] at hc
  have l00 := ‹lenR [(vS #[76,69,78]),vU, vF, vF, vO, vO,vU,vZ,vZ, (vI 2), (vG 0),σ 0, vF,vZ, vO,σ 30, vE, vF,vZ, vT]›
  have l0 : fv (σ 30) = nr (cntL (tl (σ 0))) := l00
  have l10 := ‹lenR [(vS #[76,69,78]),vU, vF, vF, vO, vO,vU,vZ,vZ, (vI 2), (vG 0),σ 10, vF,vZ, vO,σ 36, vE, vF,vZ, vT]›
  have l1 : fv (σ 36) = nr (cntL (tl (σ 10))) := l10
  have l20 := ‹lenR [(vS #[76,69,78]),vU, vF, vF, vO, vO,vU,vZ,vZ, (vI 2), (vG 0),σ 19, vF,vZ, vO,σ 42, vE, vF,vZ, vT]›
  have l2 : fv (σ 42) = nr (cntL (tl (σ 19))) := l20
  have c0 := cntL_le (tl (σ 0))
  have c9 := hs.2
  have ad := ‹farV .add .f64 (fv (σ 36)) (fv (σ 42)) = _ ∨ _›
  rw [l1, l2] at ad
  have a2 := far_nr_add (by omega) ad
  rw [← cn] at a2
  have cc := ‹fcmpV .eql .f64 (fv (σ 30)) (fv (σ 49)) = _›
  have fz := (nr_sv (n := cntL (tl (σ 0))) (by omega)).1
  rw [l0, a2, cmp_sv fz fz (k := .i64) rfl] at cc
  simp only [ibin, Option.some.injEq, Value.bool.injEq] at cc
  have tb : bv (σ 50) = true := by rw [← cc]; simp
  show σ 50 = .bool true
  have ty := ‹σ 50 = .bool (bv (σ 50))›
  rw [ty, tb]
theorem lawR_L5_ok : lawR_L5 := by
  intro σ; intros
  have v0 := ‹vldR _›
  have v1 : bv (σ 2) = Lib.validD (tl (σ 0)) := v0
  rw [‹bv (σ 2) = true›] at v1
  have hz := ‹iv (σ 4) = ((tv (σ 0)).size : Nat)›
  rw [← tl_len] at hz
  have hs : Nice (tl (σ 0)) := ⟨v1.symm, by omega⟩
  have hl := ‹leftR _›
  have hm := ‹midR _›
  obtain ⟨na, nb, ab, cn⟩ := parts (n := (iv (σ 6)).toNat) (s := σ 0) (a := σ 10) (b := σ 19) hs hl rfl rfl rfl hm rfl rfl (by show (iv (σ 14) - 1).toNat = _; omega)
  have hc0 := ‹catR _›
  have hc : tl (σ 25) = tl (σ 10) ++ tl (σ 19) := hc0
  rw [ab] at hc
  exact (tl_ne ‹((tv (σ 25)).toList == (tv (σ 0)).toList) = false› hc).elim
theorem lawR_L6_ok : lawR_L6 := by
  intro σ; intros
  have t := ‹isTrue [σ 47]›
  have t2 := true_of t
  rw [‹bv (σ 47) = false›] at t2
  cases t2
theorem lawR_L7_ok : lawR_L7 := by
  intro σ; intros
  have v0 := ‹vldR _›
  have v1 : bv (σ 2) = Lib.validD (tl (σ 0)) := v0
  rw [‹bv (σ 2) = true›] at v1
  have hz := ‹iv (σ 4) = ((tv (σ 0)).size : Nat)›
  rw [← tl_len] at hz
  have hs : Nice (tl (σ 0)) := ⟨v1.symm, by omega⟩
  have hl := ‹leftR _›
  have hm := ‹midR _›
  obtain ⟨na, nb, ab, cn⟩ := parts (n := (iv (σ 6)).toNat) (s := σ 0) (a := σ 10) (b := σ 19) hs hl rfl rfl rfl hm rfl rfl (by show (iv (σ 14) - 1).toNat = _; omega)
  have n_ := ‹¬ lenRPre _›
  exact n_ nb
theorem lawR_L8_ok : lawR_L8 := by
  intro σ; intros
  have v0 := ‹vldR _›
  have v1 : bv (σ 2) = Lib.validD (tl (σ 0)) := v0
  rw [‹bv (σ 2) = true›] at v1
  have hz := ‹iv (σ 4) = ((tv (σ 0)).size : Nat)›
  rw [← tl_len] at hz
  have hs : Nice (tl (σ 0)) := ⟨v1.symm, by omega⟩
  have hl := ‹leftR _›
  have hm := ‹midR _›
  obtain ⟨na, nb, ab, cn⟩ := parts (n := (iv (σ 6)).toNat) (s := σ 0) (a := σ 10) (b := σ 19) hs hl rfl rfl rfl hm rfl rfl (by show (iv (σ 14) - 1).toNat = _; omega)
  have n_ := ‹¬ lenRPre _›
  exact n_ na
theorem lawR_L9_ok : lawR_L9 := by
  intro σ; intros
  have v0 := ‹vldR _›
  have v1 : bv (σ 2) = Lib.validD (tl (σ 0)) := v0
  rw [‹bv (σ 2) = true›] at v1
  have hz := ‹iv (σ 4) = ((tv (σ 0)).size : Nat)›
  rw [← tl_len] at hz
  have hs : Nice (tl (σ 0)) := ⟨v1.symm, by omega⟩
  have hl := ‹leftR _›
  have hm := ‹midR _›
  obtain ⟨na, nb, ab, cn⟩ := parts (n := (iv (σ 6)).toNat) (s := σ 0) (a := σ 10) (b := σ 19) hs hl rfl rfl rfl hm rfl rfl (by show (iv (σ 14) - 1).toNat = _; omega)
  have n_ := ‹¬ lenRPre _›
  exact n_ hs
theorem lawR_L16_ok : lawR_L16 := by
  intro σ; intros
  have v0 := ‹vldR _›
  have v1 : bv (σ 2) = Lib.validD (tl (σ 0)) := v0
  rw [‹bv (σ 2) = true›] at v1
  have hz := ‹iv (σ 4) = ((tv (σ 0)).size : Nat)›
  rw [← tl_len] at hz
  have hs : Nice (tl (σ 0)) := ⟨v1.symm, by omega⟩
  have n_ := ‹¬ midRPre _›
  exact n_ ⟨hs, hz⟩
theorem lawR_L17_ok : lawR_L17 := by
  intro σ; intros
  have v0 := ‹vldR _›
  have v1 : bv (σ 2) = Lib.validD (tl (σ 0)) := v0
  rw [‹bv (σ 2) = true›] at v1
  have hz := ‹iv (σ 4) = ((tv (σ 0)).size : Nat)›
  rw [← tl_len] at hz
  have hs : Nice (tl (σ 0)) := ⟨v1.symm, by omega⟩
  have n_ := ‹¬ leftRPre _›
  exact n_ hs
theorem lawR_L18_ok : lawR_L18 := by
  intro σ; intros
  have p0 := ‹lawRPre _›
  have p1 : (tl (σ 0)).length ≤ 9223372036854775807 := p0
  have n_ := ‹¬ vldRPre _›
  exact n_ (vld_pre p1)
theorem law_ok : lawC.ok Tryz.prog Tabs :=
  by_tie lawR_tie (by kernel_rfl) (all_cons vld_ok (all_cons left_ok (all_cons mid_ok (all_cons cat_ok (all_cons len_ok (all_cons live_ok all_nil)))))) ⟨lawR_L0_ok, lawR_L1_ok, lawR_L2_ok, lawR_L2_ok, lawR_L4_ok, lawR_L5_ok, lawR_L6_ok, lawR_L7_ok, lawR_L8_ok, lawR_L9_ok, lawR_L4_ok, lawR_L5_ok, lawR_L6_ok, lawR_L7_ok, lawR_L8_ok, lawR_L9_ok, lawR_L16_ok, lawR_L17_ok, lawR_L18_ok, trivial⟩
end Go.Proofs.Bs
