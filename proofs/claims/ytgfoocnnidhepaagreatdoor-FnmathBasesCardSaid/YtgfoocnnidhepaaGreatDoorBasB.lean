/- BASE. -/
import Derived.Test.YtgfoocnnidhepaaGreatDoorBasA
namespace Go.Proofs.Bs
open Go.Ev Go.RowKit Ieee
set_option maxRecDepth 1000000
def baseR_L0 : Prop := ∀ σ : Nat → Value,
 σ 0 = (vS #[66,65,83,69]) →
 σ 2 = vF →
 σ 3 = vF →
 σ 4 = vO →
 σ 5 = vO →
 σ 7 = vZ →
 σ 8 = vZ →
 σ 9 = vO →
 tI (σ 10) →
 0 ≤ iv (σ 10) →
 iv (σ 10) ≤ 0 →
 tF (σ 11) →
 σ 12 = vE →
 σ 13 = vF →
 σ 14 = vZ →
 σ 15 = vF →
 σ 16 = vF →
 σ 17 = vO →
 σ 18 = vO →
 σ 20 = vZ →
 σ 21 = vZ →
 σ 22 = vO →
 tI (σ 23) →
 2 ≤ iv (σ 23) →
 iv (σ 23) ≤ 36 →
 tF (σ 24) →
 σ 25 = vE →
 σ 26 = vF →
 σ 27 = vZ →
 tU (σ 28) →
 tU (σ 29) →
 tU (σ 31) →
 tU (σ 32) →
 fv (σ 24) = nE (iv (σ 23)) →
 fv (σ 11) = nE (iv (σ 10)) →
 extRel .fbits [σ 11] (σ 28) →
 aN (σ 28) (σ 29) →
 extRel .fbits [σ 24] (σ 31) →
 aN (σ 31) (σ 32) →
    ((fitsL [.any, .any, .str, .any, .any, .any, .any, .any, .any, .any, .any, .any, .any, .any, .any, .any, .any, .any, .any, .any, .any] [(vG 0),σ 24, vE,vU,vU,vU,vU,vU,vU,vU,vU,vU,vU,vU,vU,vU,vU,vU,vU,vU,vU] → ¬ baseI [(vG 0),σ 24, vE,vU,vU,vU,vU,vU,vU,vU,vU,vU,vU,vU,vU,vU,vU,vU,vU,vU,vU])) →
 iv (σ 10) = 0 →
    False
def baseR_L1 : Prop := ∀ σ : Nat → Value,
 σ 0 = (vS #[66,65,83,69]) →
 σ 2 = vF →
 σ 3 = vF →
 σ 4 = vO →
 σ 5 = vO →
 σ 7 = vZ →
 σ 8 = vZ →
 σ 9 = vO →
 tI (σ 10) →
 0 ≤ iv (σ 10) →
 iv (σ 10) ≤ 0 →
 tF (σ 11) →
 σ 12 = vE →
 σ 13 = vF →
 σ 14 = vZ →
 σ 15 = vF →
 σ 16 = vF →
 σ 17 = vO →
 σ 18 = vO →
 σ 20 = vZ →
 σ 21 = vZ →
 σ 22 = vO →
 tI (σ 23) →
 2 ≤ iv (σ 23) →
 iv (σ 23) ≤ 36 →
 tF (σ 24) →
 σ 25 = vE →
 σ 26 = vF →
 σ 27 = vZ →
 tU (σ 28) →
 tU (σ 29) →
 tU (σ 31) →
 tU (σ 32) →
 σ 33 = vE →
 tS (σ 52) →
 fv (σ 24) = nE (iv (σ 23)) →
 fv (σ 11) = nE (iv (σ 10)) →
 extRel .fbits [σ 11] (σ 28) →
 aN (σ 28) (σ 29) →
 extRel .fbits [σ 24] (σ 31) →
 aN (σ 31) (σ 32) →
 baseI [(vG 0),σ 24,σ 33,σ 34,σ 35,σ 36,σ 37,σ 38,σ 39,σ 40,σ 41,σ 42,σ 43,σ 44,σ 45,σ 46,σ 47,σ 48,σ 49,σ 50,σ 51] →
 tv (σ 52) = (⟨#[48]⟩ : ByteArray) ++ tv (σ 33) →
    ((fitsL [.any, .any, .str, .any, .any, .any, .any, .any, .any, .any, .any, .any, .any, .any, .any, .any, .any, .any, .any, .any, .any] [(vG 0),σ 24,σ 52,vZ, vF, vF,σ 33, vT, vT,vZ,σ 24,σ 23,vZ,vZ,σ 24,σ 23,vZ, (Value.int .u8 48), (vS #[48]),σ 33,σ 52] → baseI [(vG 0),σ 24,σ 52,vZ, vF, vF,σ 33, vT, vT,vZ,σ 24,σ 23,vZ,vZ,σ 24,σ 23,vZ, (Value.int .u8 48), (vS #[48]),σ 33,σ 52] → ¬ baseIM [(vG 0),σ 24,σ 52,vZ, vF, vF,σ 33, vT, vT,vZ,σ 24,σ 23,vZ,vZ,σ 24,σ 23,vZ, (Value.int .u8 48), (vS #[48]),σ 33,σ 52] < baseIM [(vG 0),σ 24,σ 33,σ 34,σ 35,σ 36,σ 37,σ 38,σ 39,σ 40,σ 41,σ 42,σ 43,σ 44,σ 45,σ 46,σ 47,σ 48,σ 49,σ 50,σ 51])) →
 iv (σ 10) = 0 →
    False
def baseR_L2 : Prop := ∀ σ : Nat → Value,
 σ 0 = (vS #[66,65,83,69]) →
 σ 2 = vF →
 σ 3 = vF →
 σ 4 = vO →
 σ 5 = vO →
 σ 7 = vZ →
 σ 8 = vZ →
 σ 9 = vO →
 tI (σ 10) →
 0 ≤ iv (σ 10) →
 iv (σ 10) ≤ 0 →
 tF (σ 11) →
 σ 12 = vE →
 σ 13 = vF →
 σ 14 = vZ →
 σ 15 = vF →
 σ 16 = vF →
 σ 17 = vO →
 σ 18 = vO →
 σ 20 = vZ →
 σ 21 = vZ →
 σ 22 = vO →
 tI (σ 23) →
 2 ≤ iv (σ 23) →
 iv (σ 23) ≤ 36 →
 tF (σ 24) →
 σ 25 = vE →
 σ 26 = vF →
 σ 27 = vZ →
 tU (σ 28) →
 tU (σ 29) →
 tU (σ 31) →
 tU (σ 32) →
 σ 33 = vE →
 tB (σ 52) →
 fv (σ 24) = nE (iv (σ 23)) →
 fv (σ 11) = nE (iv (σ 10)) →
 extRel .fbits [σ 11] (σ 28) →
 aN (σ 28) (σ 29) →
 extRel .fbits [σ 24] (σ 31) →
 aN (σ 31) (σ 32) →
 baseI [(vG 0),σ 24,σ 33,σ 34,σ 35,σ 36,σ 37,σ 38,σ 39,σ 40,σ 41,σ 42,σ 43,σ 44,σ 45,σ 46,σ 47,σ 48,σ 49,σ 50,σ 51] →
 IntKind.i64.max < (((((⟨#[48]⟩ : ByteArray)).size + (tv (σ 33)).size : Nat)) : Int) →
 iv (σ 10) = 0 →
    False
def baseR_L3 : Prop := ∀ σ : Nat → Value,
 σ 0 = (vS #[66,65,83,69]) →
 σ 2 = vF →
 σ 3 = vF →
 σ 4 = vO →
 σ 5 = vO →
 σ 7 = vZ →
 σ 8 = vZ →
 σ 9 = vO →
 tI (σ 10) →
 0 ≤ iv (σ 10) →
 iv (σ 10) ≤ 0 →
 tF (σ 11) →
 σ 12 = vE →
 σ 13 = vF →
 σ 14 = vZ →
 σ 15 = vF →
 σ 16 = vF →
 σ 17 = vO →
 σ 18 = vO →
 σ 20 = vZ →
 σ 21 = vZ →
 σ 22 = vO →
 tI (σ 23) →
 2 ≤ iv (σ 23) →
 iv (σ 23) ≤ 36 →
 tF (σ 24) →
 σ 25 = vE →
 σ 26 = vF →
 σ 27 = vZ →
 tU (σ 28) →
 tU (σ 29) →
 tU (σ 31) →
 tU (σ 32) →
 tS (σ 33) →
    (∀ x ∈ ([⟨#[]⟩] : List ByteArray), (tv (σ 33)).toList ≠ x.toList) →
 tI (σ 52) →
 0 ≤ iv (σ 52) →
 tI (σ 53) →
 1 ≤ iv (σ 53) →
 tS (σ 55) →
 tS (σ 56) →
 tI (σ 57) →
 32769 ≤ iv (σ 57) →
 fv (σ 24) = nE (iv (σ 23)) →
 fv (σ 11) = nE (iv (σ 10)) →
 extRel .fbits [σ 11] (σ 28) →
 aN (σ 28) (σ 29) →
 extRel .fbits [σ 24] (σ 31) →
 aN (σ 31) (σ 32) →
 baseI [(vG 0),σ 24,σ 33,σ 34,σ 35,σ 36,σ 37,σ 38,σ 39,σ 40,σ 41,σ 42,σ 43,σ 44,σ 45,σ 46,σ 47,σ 48,σ 49,σ 50,σ 51] →
 iv (σ 52) = ((tv (σ 33)).size : Nat) →
 iv (σ 53) = IntKind.i64.wrap (0 - iv (σ 52)) →
 rptR [(vS #[48]),σ 53,σ 55] →
 tv (σ 56) = tv (σ 55) ++ tv (σ 33) →
 iv (σ 57) = ((tv (σ 56)).size : Nat) →
 32768 < iv (σ 57) →
 bv (σ 58) = !true →
 0 < iv (σ 53) →
 iv (σ 10) = 0 →
    False
def baseR_L4 : Prop := ∀ σ : Nat → Value,
 σ 0 = (vS #[66,65,83,69]) →
 σ 2 = vF →
 σ 3 = vF →
 σ 4 = vO →
 σ 5 = vO →
 σ 7 = vZ →
 σ 8 = vZ →
 σ 9 = vO →
 tI (σ 10) →
 0 ≤ iv (σ 10) →
 iv (σ 10) ≤ 0 →
 tF (σ 11) →
 σ 12 = vE →
 σ 13 = vF →
 σ 14 = vZ →
 σ 15 = vF →
 σ 16 = vF →
 σ 17 = vO →
 σ 18 = vO →
 σ 20 = vZ →
 σ 21 = vZ →
 σ 22 = vO →
 tI (σ 23) →
 2 ≤ iv (σ 23) →
 iv (σ 23) ≤ 36 →
 tF (σ 24) →
 σ 25 = vE →
 σ 26 = vF →
 σ 27 = vZ →
 tU (σ 28) →
 tU (σ 29) →
 tU (σ 31) →
 tU (σ 32) →
 tS (σ 33) →
    (∀ x ∈ ([⟨#[]⟩] : List ByteArray), (tv (σ 33)).toList ≠ x.toList) →
 tI (σ 52) →
 0 ≤ iv (σ 52) →
 tI (σ 53) →
 1 ≤ iv (σ 53) →
 tS (σ 55) →
 tS (σ 56) →
 tI (σ 57) →
 0 ≤ iv (σ 57) →
 iv (σ 57) ≤ 32768 →
 fv (σ 24) = nE (iv (σ 23)) →
 fv (σ 11) = nE (iv (σ 10)) →
 extRel .fbits [σ 11] (σ 28) →
 aN (σ 28) (σ 29) →
 extRel .fbits [σ 24] (σ 31) →
 aN (σ 31) (σ 32) →
 baseI [(vG 0),σ 24,σ 33,σ 34,σ 35,σ 36,σ 37,σ 38,σ 39,σ 40,σ 41,σ 42,σ 43,σ 44,σ 45,σ 46,σ 47,σ 48,σ 49,σ 50,σ 51] →
 iv (σ 52) = ((tv (σ 33)).size : Nat) →
 iv (σ 53) = IntKind.i64.wrap (0 - iv (σ 52)) →
 rptR [(vS #[48]),σ 53,σ 55] →
 tv (σ 56) = tv (σ 55) ++ tv (σ 33) →
 iv (σ 57) = ((tv (σ 56)).size : Nat) →
 iv (σ 57) ≤ 32768 →
 bv (σ 58) = !false →
 0 < iv (σ 53) →
 iv (σ 10) = 0 →
    baseR [(vS #[66,65,83,69]),vU, vF, vF, vO, vO,vU,vZ,vZ, vO,σ 10,σ 11, vE, vF,vZ, vF, vF, vO, vO,vU,vZ,vZ, vO,σ 23,σ 24, vE, vF,vZ, (vI 2), (vG 0),σ 56, vF,vZ, vT]
def baseR_L5 : Prop := ∀ σ : Nat → Value,
 σ 0 = (vS #[66,65,83,69]) →
 σ 2 = vF →
 σ 3 = vF →
 σ 4 = vO →
 σ 5 = vO →
 σ 7 = vZ →
 σ 8 = vZ →
 σ 9 = vO →
 tI (σ 10) →
 0 ≤ iv (σ 10) →
 iv (σ 10) ≤ 0 →
 tF (σ 11) →
 σ 12 = vE →
 σ 13 = vF →
 σ 14 = vZ →
 σ 15 = vF →
 σ 16 = vF →
 σ 17 = vO →
 σ 18 = vO →
 σ 20 = vZ →
 σ 21 = vZ →
 σ 22 = vO →
 tI (σ 23) →
 2 ≤ iv (σ 23) →
 iv (σ 23) ≤ 36 →
 tF (σ 24) →
 σ 25 = vE →
 σ 26 = vF →
 σ 27 = vZ →
 tU (σ 28) →
 tU (σ 29) →
 tU (σ 31) →
 tU (σ 32) →
 tS (σ 33) →
    (∀ x ∈ ([⟨#[]⟩] : List ByteArray), (tv (σ 33)).toList ≠ x.toList) →
 tI (σ 52) →
 0 ≤ iv (σ 52) →
 tI (σ 53) →
 1 ≤ iv (σ 53) →
 tS (σ 55) →
 tB (σ 56) →
 fv (σ 24) = nE (iv (σ 23)) →
 fv (σ 11) = nE (iv (σ 10)) →
 extRel .fbits [σ 11] (σ 28) →
 aN (σ 28) (σ 29) →
 extRel .fbits [σ 24] (σ 31) →
 aN (σ 31) (σ 32) →
 baseI [(vG 0),σ 24,σ 33,σ 34,σ 35,σ 36,σ 37,σ 38,σ 39,σ 40,σ 41,σ 42,σ 43,σ 44,σ 45,σ 46,σ 47,σ 48,σ 49,σ 50,σ 51] →
 iv (σ 52) = ((tv (σ 33)).size : Nat) →
 iv (σ 53) = IntKind.i64.wrap (0 - iv (σ 52)) →
 rptR [(vS #[48]),σ 53,σ 55] →
 IntKind.i64.max < ((((tv (σ 55)).size + (tv (σ 33)).size : Nat)) : Int) →
 0 < iv (σ 53) →
 iv (σ 10) = 0 →
    False
def baseR_L6 : Prop := ∀ σ : Nat → Value,
 σ 0 = (vS #[66,65,83,69]) →
 σ 2 = vF →
 σ 3 = vF →
 σ 4 = vO →
 σ 5 = vO →
 σ 7 = vZ →
 σ 8 = vZ →
 σ 9 = vO →
 tI (σ 10) →
 0 ≤ iv (σ 10) →
 iv (σ 10) ≤ 0 →
 tF (σ 11) →
 σ 12 = vE →
 σ 13 = vF →
 σ 14 = vZ →
 σ 15 = vF →
 σ 16 = vF →
 σ 17 = vO →
 σ 18 = vO →
 σ 20 = vZ →
 σ 21 = vZ →
 σ 22 = vO →
 tI (σ 23) →
 2 ≤ iv (σ 23) →
 iv (σ 23) ≤ 36 →
 tF (σ 24) →
 σ 25 = vE →
 σ 26 = vF →
 σ 27 = vZ →
 tU (σ 28) →
 tU (σ 29) →
 tU (σ 31) →
 tU (σ 32) →
 tS (σ 33) →
    (∀ x ∈ ([⟨#[]⟩] : List ByteArray), (tv (σ 33)).toList ≠ x.toList) →
 tI (σ 52) →
 0 ≤ iv (σ 52) →
 tI (σ 53) →
 1 ≤ iv (σ 53) →
 fv (σ 24) = nE (iv (σ 23)) →
 fv (σ 11) = nE (iv (σ 10)) →
 extRel .fbits [σ 11] (σ 28) →
 aN (σ 28) (σ 29) →
 extRel .fbits [σ 24] (σ 31) →
 aN (σ 31) (σ 32) →
 baseI [(vG 0),σ 24,σ 33,σ 34,σ 35,σ 36,σ 37,σ 38,σ 39,σ 40,σ 41,σ 42,σ 43,σ 44,σ 45,σ 46,σ 47,σ 48,σ 49,σ 50,σ 51] →
 iv (σ 52) = ((tv (σ 33)).size : Nat) →
 iv (σ 53) = IntKind.i64.wrap (0 - iv (σ 52)) →
 ¬ rptRPre [(vS #[48]),σ 53] →
 0 < iv (σ 53) →
 iv (σ 10) = 0 →
    False
def baseR_L7 : Prop := ∀ σ : Nat → Value,
 σ 0 = (vS #[66,65,83,69]) →
 σ 2 = vF →
 σ 3 = vF →
 σ 4 = vO →
 σ 5 = vO →
 σ 7 = vZ →
 σ 8 = vZ →
 σ 9 = vO →
 tI (σ 10) →
 0 ≤ iv (σ 10) →
 iv (σ 10) ≤ 0 →
 tF (σ 11) →
 σ 12 = vE →
 σ 13 = vF →
 σ 14 = vZ →
 σ 15 = vF →
 σ 16 = vF →
 σ 17 = vO →
 σ 18 = vO →
 σ 20 = vZ →
 σ 21 = vZ →
 σ 22 = vO →
 tI (σ 23) →
 2 ≤ iv (σ 23) →
 iv (σ 23) ≤ 36 →
 tF (σ 24) →
 σ 25 = vE →
 σ 26 = vF →
 σ 27 = vZ →
 tU (σ 28) →
 tU (σ 29) →
 tU (σ 31) →
 tU (σ 32) →
 tS (σ 33) →
    (∀ x ∈ ([⟨#[]⟩] : List ByteArray), (tv (σ 33)).toList ≠ x.toList) →
 tI (σ 52) →
 0 ≤ iv (σ 52) →
 tI (σ 53) →
 iv (σ 53) ≤ 0 →
 tS (σ 55) →
 tS (σ 56) →
 tI (σ 57) →
 32769 ≤ iv (σ 57) →
 fv (σ 24) = nE (iv (σ 23)) →
 fv (σ 11) = nE (iv (σ 10)) →
 extRel .fbits [σ 11] (σ 28) →
 aN (σ 28) (σ 29) →
 extRel .fbits [σ 24] (σ 31) →
 aN (σ 31) (σ 32) →
 baseI [(vG 0),σ 24,σ 33,σ 34,σ 35,σ 36,σ 37,σ 38,σ 39,σ 40,σ 41,σ 42,σ 43,σ 44,σ 45,σ 46,σ 47,σ 48,σ 49,σ 50,σ 51] →
 iv (σ 52) = ((tv (σ 33)).size : Nat) →
 iv (σ 53) = IntKind.i64.wrap (0 - iv (σ 52)) →
 rptR [(vS #[48]),vZ,σ 55] →
 tv (σ 56) = tv (σ 55) ++ tv (σ 33) →
 iv (σ 57) = ((tv (σ 56)).size : Nat) →
 32768 < iv (σ 57) →
 bv (σ 58) = !true →
 iv (σ 53) ≤ 0 →
 iv (σ 10) = 0 →
    False
def baseR_L8 : Prop := ∀ σ : Nat → Value,
 σ 0 = (vS #[66,65,83,69]) →
 σ 2 = vF →
 σ 3 = vF →
 σ 4 = vO →
 σ 5 = vO →
 σ 7 = vZ →
 σ 8 = vZ →
 σ 9 = vO →
 tI (σ 10) →
 0 ≤ iv (σ 10) →
 iv (σ 10) ≤ 0 →
 tF (σ 11) →
 σ 12 = vE →
 σ 13 = vF →
 σ 14 = vZ →
 σ 15 = vF →
 σ 16 = vF →
 σ 17 = vO →
 σ 18 = vO →
 σ 20 = vZ →
 σ 21 = vZ →
 σ 22 = vO →
 tI (σ 23) →
 2 ≤ iv (σ 23) →
 iv (σ 23) ≤ 36 →
 tF (σ 24) →
 σ 25 = vE →
 σ 26 = vF →
 σ 27 = vZ →
 tU (σ 28) →
 tU (σ 29) →
 tU (σ 31) →
 tU (σ 32) →
 tS (σ 33) →
    (∀ x ∈ ([⟨#[]⟩] : List ByteArray), (tv (σ 33)).toList ≠ x.toList) →
 tI (σ 52) →
 0 ≤ iv (σ 52) →
 tI (σ 53) →
 iv (σ 53) ≤ 0 →
 tS (σ 55) →
 tS (σ 56) →
 tI (σ 57) →
 0 ≤ iv (σ 57) →
 iv (σ 57) ≤ 32768 →
 fv (σ 24) = nE (iv (σ 23)) →
 fv (σ 11) = nE (iv (σ 10)) →
 extRel .fbits [σ 11] (σ 28) →
 aN (σ 28) (σ 29) →
 extRel .fbits [σ 24] (σ 31) →
 aN (σ 31) (σ 32) →
 baseI [(vG 0),σ 24,σ 33,σ 34,σ 35,σ 36,σ 37,σ 38,σ 39,σ 40,σ 41,σ 42,σ 43,σ 44,σ 45,σ 46,σ 47,σ 48,σ 49,σ 50,σ 51] →
 iv (σ 52) = ((tv (σ 33)).size : Nat) →
 iv (σ 53) = IntKind.i64.wrap (0 - iv (σ 52)) →
 rptR [(vS #[48]),vZ,σ 55] →
 tv (σ 56) = tv (σ 55) ++ tv (σ 33) →
 iv (σ 57) = ((tv (σ 56)).size : Nat) →
 iv (σ 57) ≤ 32768 →
 bv (σ 58) = !false →
 iv (σ 53) ≤ 0 →
 iv (σ 10) = 0 →
    baseR [(vS #[66,65,83,69]),vU, vF, vF, vO, vO,vU,vZ,vZ, vO,σ 10,σ 11, vE, vF,vZ, vF, vF, vO, vO,vU,vZ,vZ, vO,σ 23,σ 24, vE, vF,vZ, (vI 2), (vG 0),σ 56, vF,vZ, vT]
def baseR_L9 : Prop := ∀ σ : Nat → Value,
 σ 0 = (vS #[66,65,83,69]) →
 σ 2 = vF →
 σ 3 = vF →
 σ 4 = vO →
 σ 5 = vO →
 σ 7 = vZ →
 σ 8 = vZ →
 σ 9 = vO →
 tI (σ 10) →
 0 ≤ iv (σ 10) →
 iv (σ 10) ≤ 0 →
 tF (σ 11) →
 σ 12 = vE →
 σ 13 = vF →
 σ 14 = vZ →
 σ 15 = vF →
 σ 16 = vF →
 σ 17 = vO →
 σ 18 = vO →
 σ 20 = vZ →
 σ 21 = vZ →
 σ 22 = vO →
 tI (σ 23) →
 2 ≤ iv (σ 23) →
 iv (σ 23) ≤ 36 →
 tF (σ 24) →
 σ 25 = vE →
 σ 26 = vF →
 σ 27 = vZ →
 tU (σ 28) →
 tU (σ 29) →
 tU (σ 31) →
 tU (σ 32) →
 tS (σ 33) →
    (∀ x ∈ ([⟨#[]⟩] : List ByteArray), (tv (σ 33)).toList ≠ x.toList) →
 tI (σ 52) →
 0 ≤ iv (σ 52) →
 tI (σ 53) →
 iv (σ 53) ≤ 0 →
 tS (σ 55) →
 tB (σ 56) →
 fv (σ 24) = nE (iv (σ 23)) →
 fv (σ 11) = nE (iv (σ 10)) →
 extRel .fbits [σ 11] (σ 28) →
 aN (σ 28) (σ 29) →
 extRel .fbits [σ 24] (σ 31) →
 aN (σ 31) (σ 32) →
 baseI [(vG 0),σ 24,σ 33,σ 34,σ 35,σ 36,σ 37,σ 38,σ 39,σ 40,σ 41,σ 42,σ 43,σ 44,σ 45,σ 46,σ 47,σ 48,σ 49,σ 50,σ 51] →
 iv (σ 52) = ((tv (σ 33)).size : Nat) →
 iv (σ 53) = IntKind.i64.wrap (0 - iv (σ 52)) →
 rptR [(vS #[48]),vZ,σ 55] →
 IntKind.i64.max < ((((tv (σ 55)).size + (tv (σ 33)).size : Nat)) : Int) →
 iv (σ 53) ≤ 0 →
 iv (σ 10) = 0 →
    False
def baseR_L10 : Prop := ∀ σ : Nat → Value,
 σ 0 = (vS #[66,65,83,69]) →
 σ 2 = vF →
 σ 3 = vF →
 σ 4 = vO →
 σ 5 = vO →
 σ 7 = vZ →
 σ 8 = vZ →
 σ 9 = vO →
 tI (σ 10) →
 0 ≤ iv (σ 10) →
 iv (σ 10) ≤ 0 →
 tF (σ 11) →
 σ 12 = vE →
 σ 13 = vF →
 σ 14 = vZ →
 σ 15 = vF →
 σ 16 = vF →
 σ 17 = vO →
 σ 18 = vO →
 σ 20 = vZ →
 σ 21 = vZ →
 σ 22 = vO →
 tI (σ 23) →
 2 ≤ iv (σ 23) →
 iv (σ 23) ≤ 36 →
 tF (σ 24) →
 σ 25 = vE →
 σ 26 = vF →
 σ 27 = vZ →
 tU (σ 28) →
 tU (σ 29) →
 tU (σ 31) →
 tU (σ 32) →
 tS (σ 33) →
    (∀ x ∈ ([⟨#[]⟩] : List ByteArray), (tv (σ 33)).toList ≠ x.toList) →
 tI (σ 52) →
 0 ≤ iv (σ 52) →
 tI (σ 53) →
 iv (σ 53) ≤ 0 →
 fv (σ 24) = nE (iv (σ 23)) →
 fv (σ 11) = nE (iv (σ 10)) →
 extRel .fbits [σ 11] (σ 28) →
 aN (σ 28) (σ 29) →
 extRel .fbits [σ 24] (σ 31) →
 aN (σ 31) (σ 32) →
 baseI [(vG 0),σ 24,σ 33,σ 34,σ 35,σ 36,σ 37,σ 38,σ 39,σ 40,σ 41,σ 42,σ 43,σ 44,σ 45,σ 46,σ 47,σ 48,σ 49,σ 50,σ 51] →
 iv (σ 52) = ((tv (σ 33)).size : Nat) →
 iv (σ 53) = IntKind.i64.wrap (0 - iv (σ 52)) →
 ¬ rptRPre [(vS #[48]),vZ] →
 iv (σ 53) ≤ 0 →
 iv (σ 10) = 0 →
    False
def baseR_L11 : Prop := ∀ σ : Nat → Value,
 σ 0 = (vS #[66,65,83,69]) →
 σ 2 = vF →
 σ 3 = vF →
 σ 4 = vO →
 σ 5 = vO →
 σ 7 = vZ →
 σ 8 = vZ →
 σ 9 = vO →
 tI (σ 10) →
 1 ≤ iv (σ 10) →
 iv (σ 10) ≤ 9007199254740991 →
 tF (σ 11) →
 σ 12 = vE →
 σ 13 = vF →
 σ 14 = vZ →
 σ 15 = vF →
 σ 16 = vF →
 σ 17 = vO →
 σ 18 = vO →
 σ 20 = vZ →
 σ 21 = vZ →
 σ 22 = vO →
 tI (σ 23) →
 2 ≤ iv (σ 23) →
 iv (σ 23) ≤ 36 →
 tF (σ 24) →
 σ 25 = vE →
 σ 26 = vF →
 σ 27 = vZ →
 tU (σ 28) →
 tU (σ 29) →
 tU (σ 31) →
 tU (σ 32) →
 fv (σ 24) = nE (iv (σ 23)) →
 fv (σ 11) = nE (iv (σ 10)) →
 extRel .fbits [σ 11] (σ 28) →
 aN (σ 28) (σ 29) →
 extRel .fbits [σ 24] (σ 31) →
 aN (σ 31) (σ 32) →
    ((fitsL [.any, .any, .str, .int .i64, .any, .any, .any, .any, .any, .any, .any, .any, .any, .any, .any, .any, .any, .any, .any, .any, .any, .any] [σ 11,σ 24, vE,σ 10,vU,vU,vU,vU,vU,vU,vU,vU,vU,vU,vU,vU,vU,vU,vU,vU,vU,vU] → ¬ baseI [σ 11,σ 24, vE,σ 10,vU,vU,vU,vU,vU,vU,vU,vU,vU,vU,vU,vU,vU,vU,vU,vU,vU,vU])) →
 iv (σ 10) ≠ 0 →
    False
def baseR_L12 : Prop := ∀ σ : Nat → Value,
 σ 0 = (vS #[66,65,83,69]) →
 σ 2 = vF →
 σ 3 = vF →
 σ 4 = vO →
 σ 5 = vO →
 σ 7 = vZ →
 σ 8 = vZ →
 σ 9 = vO →
 tI (σ 10) →
 1 ≤ iv (σ 10) →
 iv (σ 10) ≤ 9007199254740991 →
 tF (σ 11) →
 σ 12 = vE →
 σ 13 = vF →
 σ 14 = vZ →
 σ 15 = vF →
 σ 16 = vF →
 σ 17 = vO →
 σ 18 = vO →
 σ 20 = vZ →
 σ 21 = vZ →
 σ 22 = vO →
 tI (σ 23) →
 2 ≤ iv (σ 23) →
 iv (σ 23) ≤ 36 →
 tF (σ 24) →
 σ 25 = vE →
 σ 26 = vF →
 σ 27 = vZ →
 tU (σ 28) →
 tU (σ 29) →
 tU (σ 31) →
 tU (σ 32) →
 tS (σ 33) →
 tI (σ 34) →
 1 ≤ iv (σ 34) →
 tI (σ 55) →
 σ 58 = .int .u8 (iv (σ 58)) →
 0 ≤ iv (σ 58) →
 iv (σ 58) ≤ 255 →
 tS (σ 59) →
 tS (σ 60) →
 tI (σ 61) →
 fv (σ 24) = nE (iv (σ 23)) →
 fv (σ 11) = nE (iv (σ 10)) →
 extRel .fbits [σ 11] (σ 28) →
 aN (σ 28) (σ 29) →
 extRel .fbits [σ 24] (σ 31) →
 aN (σ 31) (σ 32) →
 baseI [σ 11,σ 24,σ 33,σ 34,σ 35,σ 36,σ 37,σ 38,σ 39,σ 40,σ 41,σ 42,σ 43,σ 44,σ 45,σ 46,σ 47,σ 48,σ 49,σ 50,σ 51,σ 52] →
 iv (σ 55) = (iv (σ 34) : Int).tmod (iv (σ 23)) →
 (0 : Int) ≤ iv (σ 55) →
    (sgB[(iv (σ 55) : Int).toNat]?.map (fun b => (b.toNat : Int)) = some (iv (σ 58))) →
 tv (σ 59) = Utf8.encode (iv (σ 58)) →
 tv (σ 60) = tv (σ 59) ++ tv (σ 33) →
 iv (σ 61) = IntKind.i64.wrap ((iv (σ 34)).tdiv (iv (σ 23))) →
    ((fitsL [.any, .any, .str, .int .i64, .any, .any, .any, .any, .any, .any, .any, .any, .any, .any, .any, .any, .any, .any, .any, .any, .any, .any] [σ 11,σ 24,σ 60,σ 61,σ 34,σ 53,σ 53,vU,vU, vT,σ 34,σ 24,σ 23,σ 61,σ 34,σ 24,σ 23,σ 55,σ 58,σ 59,σ 33,σ 60] → baseI [σ 11,σ 24,σ 60,σ 61,σ 34,σ 53,σ 53,vU,vU, vT,σ 34,σ 24,σ 23,σ 61,σ 34,σ 24,σ 23,σ 55,σ 58,σ 59,σ 33,σ 60] → ¬ baseIM [σ 11,σ 24,σ 60,σ 61,σ 34,σ 53,σ 53,vU,vU, vT,σ 34,σ 24,σ 23,σ 61,σ 34,σ 24,σ 23,σ 55,σ 58,σ 59,σ 33,σ 60] < baseIM [σ 11,σ 24,σ 33,σ 34,σ 35,σ 36,σ 37,σ 38,σ 39,σ 40,σ 41,σ 42,σ 43,σ 44,σ 45,σ 46,σ 47,σ 48,σ 49,σ 50,σ 51,σ 52])) →
 iv (σ 55) < 36 →
 0 ≤ iv (σ 55) →
 iv (σ 23) ≠ 0 →
 0 < iv (σ 34) →
 iv (σ 10) ≠ 0 →
    False
def baseR_L13 : Prop := ∀ σ : Nat → Value,
 σ 0 = (vS #[66,65,83,69]) →
 σ 2 = vF →
 σ 3 = vF →
 σ 4 = vO →
 σ 5 = vO →
 σ 7 = vZ →
 σ 8 = vZ →
 σ 9 = vO →
 tI (σ 10) →
 1 ≤ iv (σ 10) →
 iv (σ 10) ≤ 9007199254740991 →
 tF (σ 11) →
 σ 12 = vE →
 σ 13 = vF →
 σ 14 = vZ →
 σ 15 = vF →
 σ 16 = vF →
 σ 17 = vO →
 σ 18 = vO →
 σ 20 = vZ →
 σ 21 = vZ →
 σ 22 = vO →
 tI (σ 23) →
 2 ≤ iv (σ 23) →
 iv (σ 23) ≤ 36 →
 tF (σ 24) →
 σ 25 = vE →
 σ 26 = vF →
 σ 27 = vZ →
 tU (σ 28) →
 tU (σ 29) →
 tU (σ 31) →
 tU (σ 32) →
 tS (σ 33) →
 tI (σ 34) →
 1 ≤ iv (σ 34) →
 tI (σ 55) →
 σ 58 = .int .u8 (iv (σ 58)) →
 0 ≤ iv (σ 58) →
 iv (σ 58) ≤ 255 →
 tS (σ 59) →
 tB (σ 60) →
 fv (σ 24) = nE (iv (σ 23)) →
 fv (σ 11) = nE (iv (σ 10)) →
 extRel .fbits [σ 11] (σ 28) →
 aN (σ 28) (σ 29) →
 extRel .fbits [σ 24] (σ 31) →
 aN (σ 31) (σ 32) →
 baseI [σ 11,σ 24,σ 33,σ 34,σ 35,σ 36,σ 37,σ 38,σ 39,σ 40,σ 41,σ 42,σ 43,σ 44,σ 45,σ 46,σ 47,σ 48,σ 49,σ 50,σ 51,σ 52] →
 iv (σ 55) = (iv (σ 34) : Int).tmod (iv (σ 23)) →
 (0 : Int) ≤ iv (σ 55) →
    (sgB[(iv (σ 55) : Int).toNat]?.map (fun b => (b.toNat : Int)) = some (iv (σ 58))) →
 tv (σ 59) = Utf8.encode (iv (σ 58)) →
 IntKind.i64.max < ((((tv (σ 59)).size + (tv (σ 33)).size : Nat)) : Int) →
 iv (σ 55) < 36 →
 0 ≤ iv (σ 55) →
 iv (σ 23) ≠ 0 →
 0 < iv (σ 34) →
 iv (σ 10) ≠ 0 →
    False
def baseR_L14 : Prop := ∀ σ : Nat → Value,
 σ 0 = (vS #[66,65,83,69]) →
 σ 2 = vF →
 σ 3 = vF →
 σ 4 = vO →
 σ 5 = vO →
 σ 7 = vZ →
 σ 8 = vZ →
 σ 9 = vO →
 tI (σ 10) →
 1 ≤ iv (σ 10) →
 iv (σ 10) ≤ 9007199254740991 →
 tF (σ 11) →
 σ 12 = vE →
 σ 13 = vF →
 σ 14 = vZ →
 σ 15 = vF →
 σ 16 = vF →
 σ 17 = vO →
 σ 18 = vO →
 σ 20 = vZ →
 σ 21 = vZ →
 σ 22 = vO →
 tI (σ 23) →
 2 ≤ iv (σ 23) →
 iv (σ 23) ≤ 36 →
 tF (σ 24) →
 σ 25 = vE →
 σ 26 = vF →
 σ 27 = vZ →
 tU (σ 28) →
 tU (σ 29) →
 tU (σ 31) →
 tU (σ 32) →
 tS (σ 33) →
 tI (σ 34) →
 1 ≤ iv (σ 34) →
 tI (σ 55) →
 fv (σ 24) = nE (iv (σ 23)) →
 fv (σ 11) = nE (iv (σ 10)) →
 extRel .fbits [σ 11] (σ 28) →
 aN (σ 28) (σ 29) →
 extRel .fbits [σ 24] (σ 31) →
 aN (σ 31) (σ 32) →
 baseI [σ 11,σ 24,σ 33,σ 34,σ 35,σ 36,σ 37,σ 38,σ 39,σ 40,σ 41,σ 42,σ 43,σ 44,σ 45,σ 46,σ 47,σ 48,σ 49,σ 50,σ 51,σ 52] →
 iv (σ 55) = (iv (σ 34) : Int).tmod (iv (σ 23)) →
 iv (σ 55) < 0 →
 iv (σ 23) ≠ 0 →
 0 < iv (σ 34) →
 iv (σ 10) ≠ 0 →
    False
def baseR_L15 : Prop := ∀ σ : Nat → Value,
 σ 0 = (vS #[66,65,83,69]) →
 σ 2 = vF →
 σ 3 = vF →
 σ 4 = vO →
 σ 5 = vO →
 σ 7 = vZ →
 σ 8 = vZ →
 σ 9 = vO →
 tI (σ 10) →
 1 ≤ iv (σ 10) →
 iv (σ 10) ≤ 9007199254740991 →
 tF (σ 11) →
 σ 12 = vE →
 σ 13 = vF →
 σ 14 = vZ →
 σ 15 = vF →
 σ 16 = vF →
 σ 17 = vO →
 σ 18 = vO →
 σ 20 = vZ →
 σ 21 = vZ →
 σ 22 = vO →
 tI (σ 23) →
 2 ≤ iv (σ 23) →
 iv (σ 23) ≤ 36 →
 tF (σ 24) →
 σ 25 = vE →
 σ 26 = vF →
 σ 27 = vZ →
 tU (σ 28) →
 tU (σ 29) →
 tU (σ 31) →
 tU (σ 32) →
 tS (σ 33) →
 tI (σ 34) →
 1 ≤ iv (σ 34) →
 tI (σ 55) →
 fv (σ 24) = nE (iv (σ 23)) →
 fv (σ 11) = nE (iv (σ 10)) →
 extRel .fbits [σ 11] (σ 28) →
 aN (σ 28) (σ 29) →
 extRel .fbits [σ 24] (σ 31) →
 aN (σ 31) (σ 32) →
 baseI [σ 11,σ 24,σ 33,σ 34,σ 35,σ 36,σ 37,σ 38,σ 39,σ 40,σ 41,σ 42,σ 43,σ 44,σ 45,σ 46,σ 47,σ 48,σ 49,σ 50,σ 51,σ 52] →
 iv (σ 55) = (iv (σ 34) : Int).tmod (iv (σ 23)) →
 36 ≤ iv (σ 55) →
 0 ≤ iv (σ 55) →
 iv (σ 23) ≠ 0 →
 0 < iv (σ 34) →
 iv (σ 10) ≠ 0 →
    False
def baseR_L16 : Prop := ∀ σ : Nat → Value,
 σ 0 = (vS #[66,65,83,69]) →
 σ 2 = vF →
 σ 3 = vF →
 σ 4 = vO →
 σ 5 = vO →
 σ 7 = vZ →
 σ 8 = vZ →
 σ 9 = vO →
 tI (σ 10) →
 1 ≤ iv (σ 10) →
 iv (σ 10) ≤ 9007199254740991 →
 tF (σ 11) →
 σ 12 = vE →
 σ 13 = vF →
 σ 14 = vZ →
 σ 15 = vF →
 σ 16 = vF →
 σ 17 = vO →
 σ 18 = vO →
 σ 20 = vZ →
 σ 21 = vZ →
 σ 22 = vO →
 tI (σ 23) →
 2 ≤ iv (σ 23) →
 iv (σ 23) ≤ 36 →
 tF (σ 24) →
 σ 25 = vE →
 σ 26 = vF →
 σ 27 = vZ →
 tU (σ 28) →
 tU (σ 29) →
 tU (σ 31) →
 tU (σ 32) →
 tS (σ 33) →
 tI (σ 34) →
 1 ≤ iv (σ 34) →
 fv (σ 24) = nE (iv (σ 23)) →
 fv (σ 11) = nE (iv (σ 10)) →
 extRel .fbits [σ 11] (σ 28) →
 aN (σ 28) (σ 29) →
 extRel .fbits [σ 24] (σ 31) →
 aN (σ 31) (σ 32) →
 baseI [σ 11,σ 24,σ 33,σ 34,σ 35,σ 36,σ 37,σ 38,σ 39,σ 40,σ 41,σ 42,σ 43,σ 44,σ 45,σ 46,σ 47,σ 48,σ 49,σ 50,σ 51,σ 52] →
 iv (σ 23) = 0 →
 0 < iv (σ 34) →
 iv (σ 10) ≠ 0 →
    False
def baseR_L17 : Prop := ∀ σ : Nat → Value,
 σ 0 = (vS #[66,65,83,69]) →
 σ 2 = vF →
 σ 3 = vF →
 σ 4 = vO →
 σ 5 = vO →
 σ 7 = vZ →
 σ 8 = vZ →
 σ 9 = vO →
 tI (σ 10) →
 1 ≤ iv (σ 10) →
 iv (σ 10) ≤ 9007199254740991 →
 tF (σ 11) →
 σ 12 = vE →
 σ 13 = vF →
 σ 14 = vZ →
 σ 15 = vF →
 σ 16 = vF →
 σ 17 = vO →
 σ 18 = vO →
 σ 20 = vZ →
 σ 21 = vZ →
 σ 22 = vO →
 tI (σ 23) →
 2 ≤ iv (σ 23) →
 iv (σ 23) ≤ 36 →
 tF (σ 24) →
 σ 25 = vE →
 σ 26 = vF →
 σ 27 = vZ →
 tU (σ 28) →
 tU (σ 29) →
 tU (σ 31) →
 tU (σ 32) →
 σ 33 = vE →
 tI (σ 34) →
 iv (σ 34) ≤ 0 →
 tI (σ 55) →
 σ 58 = .int .u8 (iv (σ 58)) →
 0 ≤ iv (σ 58) →
 iv (σ 58) ≤ 255 →
 tS (σ 59) →
 tS (σ 60) →
 tI (σ 61) →
 fv (σ 24) = nE (iv (σ 23)) →
 fv (σ 11) = nE (iv (σ 10)) →
 extRel .fbits [σ 11] (σ 28) →
 aN (σ 28) (σ 29) →
 extRel .fbits [σ 24] (σ 31) →
 aN (σ 31) (σ 32) →
 baseI [σ 11,σ 24,σ 33,σ 34,σ 35,σ 36,σ 37,σ 38,σ 39,σ 40,σ 41,σ 42,σ 43,σ 44,σ 45,σ 46,σ 47,σ 48,σ 49,σ 50,σ 51,σ 52] →
 iv (σ 55) = (iv (σ 34) : Int).tmod (iv (σ 23)) →
 (0 : Int) ≤ iv (σ 55) →
    (sgB[(iv (σ 55) : Int).toNat]?.map (fun b => (b.toNat : Int)) = some (iv (σ 58))) →
 tv (σ 59) = Utf8.encode (iv (σ 58)) →
 tv (σ 60) = tv (σ 59) ++ tv (σ 33) →
 iv (σ 61) = IntKind.i64.wrap ((iv (σ 34)).tdiv (iv (σ 23))) →
    ((fitsL [.any, .any, .str, .int .i64, .any, .any, .any, .any, .any, .any, .any, .any, .any, .any, .any, .any, .any, .any, .any, .any, .any, .any] [σ 11,σ 24,σ 60,σ 61,σ 34,σ 53,σ 53,σ 33, vT, vT,σ 34,σ 24,σ 23,σ 61,σ 34,σ 24,σ 23,σ 55,σ 58,σ 59,σ 33,σ 60] → baseI [σ 11,σ 24,σ 60,σ 61,σ 34,σ 53,σ 53,σ 33, vT, vT,σ 34,σ 24,σ 23,σ 61,σ 34,σ 24,σ 23,σ 55,σ 58,σ 59,σ 33,σ 60] → ¬ baseIM [σ 11,σ 24,σ 60,σ 61,σ 34,σ 53,σ 53,σ 33, vT, vT,σ 34,σ 24,σ 23,σ 61,σ 34,σ 24,σ 23,σ 55,σ 58,σ 59,σ 33,σ 60] < baseIM [σ 11,σ 24,σ 33,σ 34,σ 35,σ 36,σ 37,σ 38,σ 39,σ 40,σ 41,σ 42,σ 43,σ 44,σ 45,σ 46,σ 47,σ 48,σ 49,σ 50,σ 51,σ 52])) →
 iv (σ 55) < 36 →
 0 ≤ iv (σ 55) →
 iv (σ 23) ≠ 0 →
 iv (σ 34) ≤ 0 →
 iv (σ 10) ≠ 0 →
    False
def baseR_L18 : Prop := ∀ σ : Nat → Value,
 σ 0 = (vS #[66,65,83,69]) →
 σ 2 = vF →
 σ 3 = vF →
 σ 4 = vO →
 σ 5 = vO →
 σ 7 = vZ →
 σ 8 = vZ →
 σ 9 = vO →
 tI (σ 10) →
 1 ≤ iv (σ 10) →
 iv (σ 10) ≤ 9007199254740991 →
 tF (σ 11) →
 σ 12 = vE →
 σ 13 = vF →
 σ 14 = vZ →
 σ 15 = vF →
 σ 16 = vF →
 σ 17 = vO →
 σ 18 = vO →
 σ 20 = vZ →
 σ 21 = vZ →
 σ 22 = vO →
 tI (σ 23) →
 2 ≤ iv (σ 23) →
 iv (σ 23) ≤ 36 →
 tF (σ 24) →
 σ 25 = vE →
 σ 26 = vF →
 σ 27 = vZ →
 tU (σ 28) →
 tU (σ 29) →
 tU (σ 31) →
 tU (σ 32) →
 σ 33 = vE →
 tI (σ 34) →
 iv (σ 34) ≤ 0 →
 tI (σ 55) →
 σ 58 = .int .u8 (iv (σ 58)) →
 0 ≤ iv (σ 58) →
 iv (σ 58) ≤ 255 →
 tS (σ 59) →
 tB (σ 60) →
 fv (σ 24) = nE (iv (σ 23)) →
 fv (σ 11) = nE (iv (σ 10)) →
 extRel .fbits [σ 11] (σ 28) →
 aN (σ 28) (σ 29) →
 extRel .fbits [σ 24] (σ 31) →
 aN (σ 31) (σ 32) →
 baseI [σ 11,σ 24,σ 33,σ 34,σ 35,σ 36,σ 37,σ 38,σ 39,σ 40,σ 41,σ 42,σ 43,σ 44,σ 45,σ 46,σ 47,σ 48,σ 49,σ 50,σ 51,σ 52] →
 iv (σ 55) = (iv (σ 34) : Int).tmod (iv (σ 23)) →
 (0 : Int) ≤ iv (σ 55) →
    (sgB[(iv (σ 55) : Int).toNat]?.map (fun b => (b.toNat : Int)) = some (iv (σ 58))) →
 tv (σ 59) = Utf8.encode (iv (σ 58)) →
 IntKind.i64.max < ((((tv (σ 59)).size + (tv (σ 33)).size : Nat)) : Int) →
 iv (σ 55) < 36 →
 0 ≤ iv (σ 55) →
 iv (σ 23) ≠ 0 →
 iv (σ 34) ≤ 0 →
 iv (σ 10) ≠ 0 →
    False
def baseR_L19 : Prop := ∀ σ : Nat → Value,
 σ 0 = (vS #[66,65,83,69]) →
 σ 2 = vF →
 σ 3 = vF →
 σ 4 = vO →
 σ 5 = vO →
 σ 7 = vZ →
 σ 8 = vZ →
 σ 9 = vO →
 tI (σ 10) →
 1 ≤ iv (σ 10) →
 iv (σ 10) ≤ 9007199254740991 →
 tF (σ 11) →
 σ 12 = vE →
 σ 13 = vF →
 σ 14 = vZ →
 σ 15 = vF →
 σ 16 = vF →
 σ 17 = vO →
 σ 18 = vO →
 σ 20 = vZ →
 σ 21 = vZ →
 σ 22 = vO →
 tI (σ 23) →
 2 ≤ iv (σ 23) →
 iv (σ 23) ≤ 36 →
 tF (σ 24) →
 σ 25 = vE →
 σ 26 = vF →
 σ 27 = vZ →
 tU (σ 28) →
 tU (σ 29) →
 tU (σ 31) →
 tU (σ 32) →
 σ 33 = vE →
 tI (σ 34) →
 iv (σ 34) ≤ 0 →
 tI (σ 55) →
 fv (σ 24) = nE (iv (σ 23)) →
 fv (σ 11) = nE (iv (σ 10)) →
 extRel .fbits [σ 11] (σ 28) →
 aN (σ 28) (σ 29) →
 extRel .fbits [σ 24] (σ 31) →
 aN (σ 31) (σ 32) →
 baseI [σ 11,σ 24,σ 33,σ 34,σ 35,σ 36,σ 37,σ 38,σ 39,σ 40,σ 41,σ 42,σ 43,σ 44,σ 45,σ 46,σ 47,σ 48,σ 49,σ 50,σ 51,σ 52] →
 iv (σ 55) = (iv (σ 34) : Int).tmod (iv (σ 23)) →
 iv (σ 55) < 0 →
 iv (σ 23) ≠ 0 →
 iv (σ 34) ≤ 0 →
 iv (σ 10) ≠ 0 →
    False
def baseR_L20 : Prop := ∀ σ : Nat → Value,
 σ 0 = (vS #[66,65,83,69]) →
 σ 2 = vF →
 σ 3 = vF →
 σ 4 = vO →
 σ 5 = vO →
 σ 7 = vZ →
 σ 8 = vZ →
 σ 9 = vO →
 tI (σ 10) →
 1 ≤ iv (σ 10) →
 iv (σ 10) ≤ 9007199254740991 →
 tF (σ 11) →
 σ 12 = vE →
 σ 13 = vF →
 σ 14 = vZ →
 σ 15 = vF →
 σ 16 = vF →
 σ 17 = vO →
 σ 18 = vO →
 σ 20 = vZ →
 σ 21 = vZ →
 σ 22 = vO →
 tI (σ 23) →
 2 ≤ iv (σ 23) →
 iv (σ 23) ≤ 36 →
 tF (σ 24) →
 σ 25 = vE →
 σ 26 = vF →
 σ 27 = vZ →
 tU (σ 28) →
 tU (σ 29) →
 tU (σ 31) →
 tU (σ 32) →
 σ 33 = vE →
 tI (σ 34) →
 iv (σ 34) ≤ 0 →
 tI (σ 55) →
 fv (σ 24) = nE (iv (σ 23)) →
 fv (σ 11) = nE (iv (σ 10)) →
 extRel .fbits [σ 11] (σ 28) →
 aN (σ 28) (σ 29) →
 extRel .fbits [σ 24] (σ 31) →
 aN (σ 31) (σ 32) →
 baseI [σ 11,σ 24,σ 33,σ 34,σ 35,σ 36,σ 37,σ 38,σ 39,σ 40,σ 41,σ 42,σ 43,σ 44,σ 45,σ 46,σ 47,σ 48,σ 49,σ 50,σ 51,σ 52] →
 iv (σ 55) = (iv (σ 34) : Int).tmod (iv (σ 23)) →
 36 ≤ iv (σ 55) →
 0 ≤ iv (σ 55) →
 iv (σ 23) ≠ 0 →
 iv (σ 34) ≤ 0 →
 iv (σ 10) ≠ 0 →
    False
def baseR_L21 : Prop := ∀ σ : Nat → Value,
 σ 0 = (vS #[66,65,83,69]) →
 σ 2 = vF →
 σ 3 = vF →
 σ 4 = vO →
 σ 5 = vO →
 σ 7 = vZ →
 σ 8 = vZ →
 σ 9 = vO →
 tI (σ 10) →
 1 ≤ iv (σ 10) →
 iv (σ 10) ≤ 9007199254740991 →
 tF (σ 11) →
 σ 12 = vE →
 σ 13 = vF →
 σ 14 = vZ →
 σ 15 = vF →
 σ 16 = vF →
 σ 17 = vO →
 σ 18 = vO →
 σ 20 = vZ →
 σ 21 = vZ →
 σ 22 = vO →
 tI (σ 23) →
 2 ≤ iv (σ 23) →
 iv (σ 23) ≤ 36 →
 tF (σ 24) →
 σ 25 = vE →
 σ 26 = vF →
 σ 27 = vZ →
 tU (σ 28) →
 tU (σ 29) →
 tU (σ 31) →
 tU (σ 32) →
 σ 33 = vE →
 tI (σ 34) →
 iv (σ 34) ≤ 0 →
 fv (σ 24) = nE (iv (σ 23)) →
 fv (σ 11) = nE (iv (σ 10)) →
 extRel .fbits [σ 11] (σ 28) →
 aN (σ 28) (σ 29) →
 extRel .fbits [σ 24] (σ 31) →
 aN (σ 31) (σ 32) →
 baseI [σ 11,σ 24,σ 33,σ 34,σ 35,σ 36,σ 37,σ 38,σ 39,σ 40,σ 41,σ 42,σ 43,σ 44,σ 45,σ 46,σ 47,σ 48,σ 49,σ 50,σ 51,σ 52] →
 iv (σ 23) = 0 →
 iv (σ 34) ≤ 0 →
 iv (σ 10) ≠ 0 →
    False
def baseR_L22 : Prop := ∀ σ : Nat → Value,
 σ 0 = (vS #[66,65,83,69]) →
 σ 2 = vF →
 σ 3 = vF →
 σ 4 = vO →
 σ 5 = vO →
 σ 7 = vZ →
 σ 8 = vZ →
 σ 9 = vO →
 tI (σ 10) →
 1 ≤ iv (σ 10) →
 iv (σ 10) ≤ 9007199254740991 →
 tF (σ 11) →
 σ 12 = vE →
 σ 13 = vF →
 σ 14 = vZ →
 σ 15 = vF →
 σ 16 = vF →
 σ 17 = vO →
 σ 18 = vO →
 σ 20 = vZ →
 σ 21 = vZ →
 σ 22 = vO →
 tI (σ 23) →
 2 ≤ iv (σ 23) →
 iv (σ 23) ≤ 36 →
 tF (σ 24) →
 σ 25 = vE →
 σ 26 = vF →
 σ 27 = vZ →
 tU (σ 28) →
 tU (σ 29) →
 tU (σ 31) →
 tU (σ 32) →
 tS (σ 33) →
    (∀ x ∈ ([⟨#[]⟩] : List ByteArray), (tv (σ 33)).toList ≠ x.toList) →
 tI (σ 34) →
 iv (σ 34) ≤ 0 →
 tI (σ 54) →
 0 ≤ iv (σ 54) →
 tI (σ 55) →
 1 ≤ iv (σ 55) →
 tS (σ 57) →
 tS (σ 58) →
 tI (σ 59) →
 32769 ≤ iv (σ 59) →
 fv (σ 24) = nE (iv (σ 23)) →
 fv (σ 11) = nE (iv (σ 10)) →
 extRel .fbits [σ 11] (σ 28) →
 aN (σ 28) (σ 29) →
 extRel .fbits [σ 24] (σ 31) →
 aN (σ 31) (σ 32) →
 baseI [σ 11,σ 24,σ 33,σ 34,σ 35,σ 36,σ 37,σ 38,σ 39,σ 40,σ 41,σ 42,σ 43,σ 44,σ 45,σ 46,σ 47,σ 48,σ 49,σ 50,σ 51,σ 52] →
 iv (σ 54) = ((tv (σ 33)).size : Nat) →
 iv (σ 55) = IntKind.i64.wrap (0 - iv (σ 54)) →
 rptR [(vS #[48]),σ 55,σ 57] →
 tv (σ 58) = tv (σ 57) ++ tv (σ 33) →
 iv (σ 59) = ((tv (σ 58)).size : Nat) →
 32768 < iv (σ 59) →
 bv (σ 60) = !true →
 0 < iv (σ 55) →
 iv (σ 34) ≤ 0 →
 iv (σ 10) ≠ 0 →
    False
def baseR_L23 : Prop := ∀ σ : Nat → Value,
 σ 0 = (vS #[66,65,83,69]) →
 σ 2 = vF →
 σ 3 = vF →
 σ 4 = vO →
 σ 5 = vO →
 σ 7 = vZ →
 σ 8 = vZ →
 σ 9 = vO →
 tI (σ 10) →
 1 ≤ iv (σ 10) →
 iv (σ 10) ≤ 9007199254740991 →
 tF (σ 11) →
 σ 12 = vE →
 σ 13 = vF →
 σ 14 = vZ →
 σ 15 = vF →
 σ 16 = vF →
 σ 17 = vO →
 σ 18 = vO →
 σ 20 = vZ →
 σ 21 = vZ →
 σ 22 = vO →
 tI (σ 23) →
 2 ≤ iv (σ 23) →
 iv (σ 23) ≤ 36 →
 tF (σ 24) →
 σ 25 = vE →
 σ 26 = vF →
 σ 27 = vZ →
 tU (σ 28) →
 tU (σ 29) →
 tU (σ 31) →
 tU (σ 32) →
 tS (σ 33) →
    (∀ x ∈ ([⟨#[]⟩] : List ByteArray), (tv (σ 33)).toList ≠ x.toList) →
 tI (σ 34) →
 iv (σ 34) ≤ 0 →
 tI (σ 54) →
 0 ≤ iv (σ 54) →
 tI (σ 55) →
 1 ≤ iv (σ 55) →
 tS (σ 57) →
 tS (σ 58) →
 tI (σ 59) →
 0 ≤ iv (σ 59) →
 iv (σ 59) ≤ 32768 →
 fv (σ 24) = nE (iv (σ 23)) →
 fv (σ 11) = nE (iv (σ 10)) →
 extRel .fbits [σ 11] (σ 28) →
 aN (σ 28) (σ 29) →
 extRel .fbits [σ 24] (σ 31) →
 aN (σ 31) (σ 32) →
 baseI [σ 11,σ 24,σ 33,σ 34,σ 35,σ 36,σ 37,σ 38,σ 39,σ 40,σ 41,σ 42,σ 43,σ 44,σ 45,σ 46,σ 47,σ 48,σ 49,σ 50,σ 51,σ 52] →
 iv (σ 54) = ((tv (σ 33)).size : Nat) →
 iv (σ 55) = IntKind.i64.wrap (0 - iv (σ 54)) →
 rptR [(vS #[48]),σ 55,σ 57] →
 tv (σ 58) = tv (σ 57) ++ tv (σ 33) →
 iv (σ 59) = ((tv (σ 58)).size : Nat) →
 iv (σ 59) ≤ 32768 →
 bv (σ 60) = !false →
 0 < iv (σ 55) →
 iv (σ 34) ≤ 0 →
 iv (σ 10) ≠ 0 →
    baseR [(vS #[66,65,83,69]),vU, vF, vF, vO, vO,vU,vZ,vZ, vO,σ 10,σ 11, vE, vF,vZ, vF, vF, vO, vO,vU,vZ,vZ, vO,σ 23,σ 24, vE, vF,vZ, (vI 2), (vG 0),σ 58, vF,vZ, vT]
def baseR_L24 : Prop := ∀ σ : Nat → Value,
 σ 0 = (vS #[66,65,83,69]) →
 σ 2 = vF →
 σ 3 = vF →
 σ 4 = vO →
 σ 5 = vO →
 σ 7 = vZ →
 σ 8 = vZ →
 σ 9 = vO →
 tI (σ 10) →
 1 ≤ iv (σ 10) →
 iv (σ 10) ≤ 9007199254740991 →
 tF (σ 11) →
 σ 12 = vE →
 σ 13 = vF →
 σ 14 = vZ →
 σ 15 = vF →
 σ 16 = vF →
 σ 17 = vO →
 σ 18 = vO →
 σ 20 = vZ →
 σ 21 = vZ →
 σ 22 = vO →
 tI (σ 23) →
 2 ≤ iv (σ 23) →
 iv (σ 23) ≤ 36 →
 tF (σ 24) →
 σ 25 = vE →
 σ 26 = vF →
 σ 27 = vZ →
 tU (σ 28) →
 tU (σ 29) →
 tU (σ 31) →
 tU (σ 32) →
 tS (σ 33) →
    (∀ x ∈ ([⟨#[]⟩] : List ByteArray), (tv (σ 33)).toList ≠ x.toList) →
 tI (σ 34) →
 iv (σ 34) ≤ 0 →
 tI (σ 54) →
 0 ≤ iv (σ 54) →
 tI (σ 55) →
 1 ≤ iv (σ 55) →
 tS (σ 57) →
 tB (σ 58) →
 fv (σ 24) = nE (iv (σ 23)) →
 fv (σ 11) = nE (iv (σ 10)) →
 extRel .fbits [σ 11] (σ 28) →
 aN (σ 28) (σ 29) →
 extRel .fbits [σ 24] (σ 31) →
 aN (σ 31) (σ 32) →
 baseI [σ 11,σ 24,σ 33,σ 34,σ 35,σ 36,σ 37,σ 38,σ 39,σ 40,σ 41,σ 42,σ 43,σ 44,σ 45,σ 46,σ 47,σ 48,σ 49,σ 50,σ 51,σ 52] →
 iv (σ 54) = ((tv (σ 33)).size : Nat) →
 iv (σ 55) = IntKind.i64.wrap (0 - iv (σ 54)) →
 rptR [(vS #[48]),σ 55,σ 57] →
 IntKind.i64.max < ((((tv (σ 57)).size + (tv (σ 33)).size : Nat)) : Int) →
 0 < iv (σ 55) →
 iv (σ 34) ≤ 0 →
 iv (σ 10) ≠ 0 →
    False
def baseR_L25 : Prop := ∀ σ : Nat → Value,
 σ 0 = (vS #[66,65,83,69]) →
 σ 2 = vF →
 σ 3 = vF →
 σ 4 = vO →
 σ 5 = vO →
 σ 7 = vZ →
 σ 8 = vZ →
 σ 9 = vO →
 tI (σ 10) →
 1 ≤ iv (σ 10) →
 iv (σ 10) ≤ 9007199254740991 →
 tF (σ 11) →
 σ 12 = vE →
 σ 13 = vF →
 σ 14 = vZ →
 σ 15 = vF →
 σ 16 = vF →
 σ 17 = vO →
 σ 18 = vO →
 σ 20 = vZ →
 σ 21 = vZ →
 σ 22 = vO →
 tI (σ 23) →
 2 ≤ iv (σ 23) →
 iv (σ 23) ≤ 36 →
 tF (σ 24) →
 σ 25 = vE →
 σ 26 = vF →
 σ 27 = vZ →
 tU (σ 28) →
 tU (σ 29) →
 tU (σ 31) →
 tU (σ 32) →
 tS (σ 33) →
    (∀ x ∈ ([⟨#[]⟩] : List ByteArray), (tv (σ 33)).toList ≠ x.toList) →
 tI (σ 34) →
 iv (σ 34) ≤ 0 →
 tI (σ 54) →
 0 ≤ iv (σ 54) →
 tI (σ 55) →
 1 ≤ iv (σ 55) →
 fv (σ 24) = nE (iv (σ 23)) →
 fv (σ 11) = nE (iv (σ 10)) →
 extRel .fbits [σ 11] (σ 28) →
 aN (σ 28) (σ 29) →
 extRel .fbits [σ 24] (σ 31) →
 aN (σ 31) (σ 32) →
 baseI [σ 11,σ 24,σ 33,σ 34,σ 35,σ 36,σ 37,σ 38,σ 39,σ 40,σ 41,σ 42,σ 43,σ 44,σ 45,σ 46,σ 47,σ 48,σ 49,σ 50,σ 51,σ 52] →
 iv (σ 54) = ((tv (σ 33)).size : Nat) →
 iv (σ 55) = IntKind.i64.wrap (0 - iv (σ 54)) →
 ¬ rptRPre [(vS #[48]),σ 55] →
 0 < iv (σ 55) →
 iv (σ 34) ≤ 0 →
 iv (σ 10) ≠ 0 →
    False
def baseR_L26 : Prop := ∀ σ : Nat → Value,
 σ 0 = (vS #[66,65,83,69]) →
 σ 2 = vF →
 σ 3 = vF →
 σ 4 = vO →
 σ 5 = vO →
 σ 7 = vZ →
 σ 8 = vZ →
 σ 9 = vO →
 tI (σ 10) →
 1 ≤ iv (σ 10) →
 iv (σ 10) ≤ 9007199254740991 →
 tF (σ 11) →
 σ 12 = vE →
 σ 13 = vF →
 σ 14 = vZ →
 σ 15 = vF →
 σ 16 = vF →
 σ 17 = vO →
 σ 18 = vO →
 σ 20 = vZ →
 σ 21 = vZ →
 σ 22 = vO →
 tI (σ 23) →
 2 ≤ iv (σ 23) →
 iv (σ 23) ≤ 36 →
 tF (σ 24) →
 σ 25 = vE →
 σ 26 = vF →
 σ 27 = vZ →
 tU (σ 28) →
 tU (σ 29) →
 tU (σ 31) →
 tU (σ 32) →
 tS (σ 33) →
    (∀ x ∈ ([⟨#[]⟩] : List ByteArray), (tv (σ 33)).toList ≠ x.toList) →
 tI (σ 34) →
 iv (σ 34) ≤ 0 →
 tI (σ 54) →
 0 ≤ iv (σ 54) →
 tI (σ 55) →
 iv (σ 55) ≤ 0 →
 tS (σ 57) →
 tS (σ 58) →
 tI (σ 59) →
 32769 ≤ iv (σ 59) →
 fv (σ 24) = nE (iv (σ 23)) →
 fv (σ 11) = nE (iv (σ 10)) →
 extRel .fbits [σ 11] (σ 28) →
 aN (σ 28) (σ 29) →
 extRel .fbits [σ 24] (σ 31) →
 aN (σ 31) (σ 32) →
 baseI [σ 11,σ 24,σ 33,σ 34,σ 35,σ 36,σ 37,σ 38,σ 39,σ 40,σ 41,σ 42,σ 43,σ 44,σ 45,σ 46,σ 47,σ 48,σ 49,σ 50,σ 51,σ 52] →
 iv (σ 54) = ((tv (σ 33)).size : Nat) →
 iv (σ 55) = IntKind.i64.wrap (0 - iv (σ 54)) →
 rptR [(vS #[48]),vZ,σ 57] →
 tv (σ 58) = tv (σ 57) ++ tv (σ 33) →
 iv (σ 59) = ((tv (σ 58)).size : Nat) →
 32768 < iv (σ 59) →
 bv (σ 60) = !true →
 iv (σ 55) ≤ 0 →
 iv (σ 34) ≤ 0 →
 iv (σ 10) ≠ 0 →
    False
def baseR_L27 : Prop := ∀ σ : Nat → Value,
 σ 0 = (vS #[66,65,83,69]) →
 σ 2 = vF →
 σ 3 = vF →
 σ 4 = vO →
 σ 5 = vO →
 σ 7 = vZ →
 σ 8 = vZ →
 σ 9 = vO →
 tI (σ 10) →
 1 ≤ iv (σ 10) →
 iv (σ 10) ≤ 9007199254740991 →
 tF (σ 11) →
 σ 12 = vE →
 σ 13 = vF →
 σ 14 = vZ →
 σ 15 = vF →
 σ 16 = vF →
 σ 17 = vO →
 σ 18 = vO →
 σ 20 = vZ →
 σ 21 = vZ →
 σ 22 = vO →
 tI (σ 23) →
 2 ≤ iv (σ 23) →
 iv (σ 23) ≤ 36 →
 tF (σ 24) →
 σ 25 = vE →
 σ 26 = vF →
 σ 27 = vZ →
 tU (σ 28) →
 tU (σ 29) →
 tU (σ 31) →
 tU (σ 32) →
 tS (σ 33) →
    (∀ x ∈ ([⟨#[]⟩] : List ByteArray), (tv (σ 33)).toList ≠ x.toList) →
 tI (σ 34) →
 iv (σ 34) ≤ 0 →
 tI (σ 54) →
 0 ≤ iv (σ 54) →
 tI (σ 55) →
 iv (σ 55) ≤ 0 →
 tS (σ 57) →
 tS (σ 58) →
 tI (σ 59) →
 0 ≤ iv (σ 59) →
 iv (σ 59) ≤ 32768 →
 fv (σ 24) = nE (iv (σ 23)) →
 fv (σ 11) = nE (iv (σ 10)) →
 extRel .fbits [σ 11] (σ 28) →
 aN (σ 28) (σ 29) →
 extRel .fbits [σ 24] (σ 31) →
 aN (σ 31) (σ 32) →
 baseI [σ 11,σ 24,σ 33,σ 34,σ 35,σ 36,σ 37,σ 38,σ 39,σ 40,σ 41,σ 42,σ 43,σ 44,σ 45,σ 46,σ 47,σ 48,σ 49,σ 50,σ 51,σ 52] →
 iv (σ 54) = ((tv (σ 33)).size : Nat) →
 iv (σ 55) = IntKind.i64.wrap (0 - iv (σ 54)) →
 rptR [(vS #[48]),vZ,σ 57] →
 tv (σ 58) = tv (σ 57) ++ tv (σ 33) →
 iv (σ 59) = ((tv (σ 58)).size : Nat) →
 iv (σ 59) ≤ 32768 →
 bv (σ 60) = !false →
 iv (σ 55) ≤ 0 →
 iv (σ 34) ≤ 0 →
 iv (σ 10) ≠ 0 →
    baseR [(vS #[66,65,83,69]),vU, vF, vF, vO, vO,vU,vZ,vZ, vO,σ 10,σ 11, vE, vF,vZ, vF, vF, vO, vO,vU,vZ,vZ, vO,σ 23,σ 24, vE, vF,vZ, (vI 2), (vG 0),σ 58, vF,vZ, vT]
def baseR_L28 : Prop := ∀ σ : Nat → Value,
 σ 0 = (vS #[66,65,83,69]) →
 σ 2 = vF →
 σ 3 = vF →
 σ 4 = vO →
 σ 5 = vO →
 σ 7 = vZ →
 σ 8 = vZ →
 σ 9 = vO →
 tI (σ 10) →
 1 ≤ iv (σ 10) →
 iv (σ 10) ≤ 9007199254740991 →
 tF (σ 11) →
 σ 12 = vE →
 σ 13 = vF →
 σ 14 = vZ →
 σ 15 = vF →
 σ 16 = vF →
 σ 17 = vO →
 σ 18 = vO →
 σ 20 = vZ →
 σ 21 = vZ →
 σ 22 = vO →
 tI (σ 23) →
 2 ≤ iv (σ 23) →
 iv (σ 23) ≤ 36 →
 tF (σ 24) →
 σ 25 = vE →
 σ 26 = vF →
 σ 27 = vZ →
 tU (σ 28) →
 tU (σ 29) →
 tU (σ 31) →
 tU (σ 32) →
 tS (σ 33) →
    (∀ x ∈ ([⟨#[]⟩] : List ByteArray), (tv (σ 33)).toList ≠ x.toList) →
 tI (σ 34) →
 iv (σ 34) ≤ 0 →
 tI (σ 54) →
 0 ≤ iv (σ 54) →
 tI (σ 55) →
 iv (σ 55) ≤ 0 →
 tS (σ 57) →
 tB (σ 58) →
 fv (σ 24) = nE (iv (σ 23)) →
 fv (σ 11) = nE (iv (σ 10)) →
 extRel .fbits [σ 11] (σ 28) →
 aN (σ 28) (σ 29) →
 extRel .fbits [σ 24] (σ 31) →
 aN (σ 31) (σ 32) →
 baseI [σ 11,σ 24,σ 33,σ 34,σ 35,σ 36,σ 37,σ 38,σ 39,σ 40,σ 41,σ 42,σ 43,σ 44,σ 45,σ 46,σ 47,σ 48,σ 49,σ 50,σ 51,σ 52] →
 iv (σ 54) = ((tv (σ 33)).size : Nat) →
 iv (σ 55) = IntKind.i64.wrap (0 - iv (σ 54)) →
 rptR [(vS #[48]),vZ,σ 57] →
 IntKind.i64.max < ((((tv (σ 57)).size + (tv (σ 33)).size : Nat)) : Int) →
 iv (σ 55) ≤ 0 →
 iv (σ 34) ≤ 0 →
 iv (σ 10) ≠ 0 →
    False
def baseR_L29 : Prop := ∀ σ : Nat → Value,
 σ 0 = (vS #[66,65,83,69]) →
 σ 2 = vF →
 σ 3 = vF →
 σ 4 = vO →
 σ 5 = vO →
 σ 7 = vZ →
 σ 8 = vZ →
 σ 9 = vO →
 tI (σ 10) →
 1 ≤ iv (σ 10) →
 iv (σ 10) ≤ 9007199254740991 →
 tF (σ 11) →
 σ 12 = vE →
 σ 13 = vF →
 σ 14 = vZ →
 σ 15 = vF →
 σ 16 = vF →
 σ 17 = vO →
 σ 18 = vO →
 σ 20 = vZ →
 σ 21 = vZ →
 σ 22 = vO →
 tI (σ 23) →
 2 ≤ iv (σ 23) →
 iv (σ 23) ≤ 36 →
 tF (σ 24) →
 σ 25 = vE →
 σ 26 = vF →
 σ 27 = vZ →
 tU (σ 28) →
 tU (σ 29) →
 tU (σ 31) →
 tU (σ 32) →
 tS (σ 33) →
    (∀ x ∈ ([⟨#[]⟩] : List ByteArray), (tv (σ 33)).toList ≠ x.toList) →
 tI (σ 34) →
 iv (σ 34) ≤ 0 →
 tI (σ 54) →
 0 ≤ iv (σ 54) →
 tI (σ 55) →
 iv (σ 55) ≤ 0 →
 fv (σ 24) = nE (iv (σ 23)) →
 fv (σ 11) = nE (iv (σ 10)) →
 extRel .fbits [σ 11] (σ 28) →
 aN (σ 28) (σ 29) →
 extRel .fbits [σ 24] (σ 31) →
 aN (σ 31) (σ 32) →
 baseI [σ 11,σ 24,σ 33,σ 34,σ 35,σ 36,σ 37,σ 38,σ 39,σ 40,σ 41,σ 42,σ 43,σ 44,σ 45,σ 46,σ 47,σ 48,σ 49,σ 50,σ 51,σ 52] →
 iv (σ 54) = ((tv (σ 33)).size : Nat) →
 iv (σ 55) = IntKind.i64.wrap (0 - iv (σ 54)) →
 ¬ rptRPre [(vS #[48]),vZ] →
 iv (σ 55) ≤ 0 →
 iv (σ 34) ≤ 0 →
 iv (σ 10) ≠ 0 →
    False
theorem baseR_tie : baseC.goals (cfgB baseC.base [vldC, ixbC, rptC, uppC]) [(33, 5, baseI_)] 2000 = (baseR_L0 ∧ baseR_L1 ∧ baseR_L2 ∧ baseR_L3 ∧ baseR_L4 ∧ baseR_L5 ∧ baseR_L6 ∧ baseR_L7 ∧ baseR_L8 ∧ baseR_L9 ∧ baseR_L10 ∧ baseR_L11 ∧ baseR_L12 ∧ baseR_L13 ∧ baseR_L14 ∧ baseR_L15 ∧ baseR_L16 ∧ baseR_L17 ∧ baseR_L18 ∧ baseR_L19 ∧ baseR_L20 ∧ baseR_L21 ∧ baseR_L22 ∧ baseR_L23 ∧ baseR_L24 ∧ baseR_L25 ∧ baseR_L26 ∧ baseR_L27 ∧ baseR_L28 ∧ baseR_L29 ∧ True) := by kernel_rfl
theorem baseR_L0_ok : baseR_L0 := by
  intro σ; intros
  obtain ⟨K, N, hK, hN, f24, f11, k2, k36, n53⟩ := base_pre (a := σ 10) (b := σ 11) (c := σ 23) (d := σ 24) (by omega) (by omega) (by omega) (by omega) ‹_› ‹_›
  have n0 : N = 0 := by omega
  have g0 : (0 : Nat) = nr N := by rw [n0]; exact nr_zero.symm
  specialize ‹fitsL _ _ → ¬ baseI _› (by (simp only [fitsL, Sort_.fits]; repeat' (first | exact True.intro | (with_reducible refine And.intro ?_ ?_) | exact ⟨_, ‹_›⟩ | exact ⟨_, rfl⟩ | exact ⟨_, ‹_›, fun a h => by cases h; omega, fun b h => by cases h; omega⟩ | exact ⟨_, rfl, fun a h => by cases h; decide, fun b h => by cases h; decide⟩)))
  have c_ := ‹¬ baseI _›
  have c : ¬ BaseI (fv (σ 24)) 0 (iv vU) [] := c_
  exact c ⟨K, N, N, k2, k36, n53, f24, g0, fun h => absurd n0 h, fun h => h, Writes.start K N⟩
theorem baseR_L1_ok : baseR_L1 := by
  intro σ; intros
  obtain ⟨K, N, hK, hN, f24, f11, k2, k36, n53⟩ := base_pre (a := σ 10) (b := σ 11) (c := σ 23) (d := σ 24) (by omega) (by omega) (by omega) (by omega) ‹_› ‹_›
  have n0 : N = 0 := by omega
  have g0 : (0 : Nat) = nr N := by rw [n0]; exact nr_zero.symm
  have hI_ := ‹baseI _›
  have hI : BaseI (fv (σ 24)) 0 (iv (σ 34)) (tl (σ 33)) := hI_
  obtain ⟨x, h6, h7, h8⟩ := hI.get f24 g0 k36 n53
  have x0 := h7 n0
  have hlen := h8.1
  have hm : x % K < K := Nat.mod_lt x (by omega)
  have e0 := tl_none ‹σ 33 = Value.string ⟨#[]⟩›
  have e1 : tl (σ 52) = tl (vS #[48]) ++ tl (σ 33) := tl_app ‹tv (σ 52) = _›
  have st := base_step (x3 := iv (σ 34)) (y3 := 0) k2 k36 n53 f24 g0 h6 h7 h8 (.inr e0) (fun h => absurd n0 h)
  rw [x0, Nat.zero_mod] at st
  have e2 : sgA 0 :: tl (σ 33) = tl (σ 52) := by rw [e1]; rfl
  rw [e2] at st
  specialize ‹fitsL _ _ → baseI _ → ¬ (_ : Nat) < _› (by (simp only [fitsL, Sort_.fits]; repeat' (first | exact True.intro | (with_reducible refine And.intro ?_ ?_) | exact ⟨_, ‹_›⟩ | exact ⟨_, rfl⟩ | exact ⟨_, ‹_›, fun a h => by cases h; omega, fun b h => by cases h; omega⟩ | exact ⟨_, rfl, fun a h => by cases h; decide, fun b h => by cases h; decide⟩)))
  have c0 := ‹baseI _ → ¬ (_ : Nat) < _›
  exact c0 st.1 st.2
theorem baseR_L2_ok : baseR_L2 := by
  intro σ; intros
  obtain ⟨K, N, hK, hN, f24, f11, k2, k36, n53⟩ := base_pre (a := σ 10) (b := σ 11) (c := σ 23) (d := σ 24) (by omega) (by omega) (by omega) (by omega) ‹_› ‹_›
  have n0 : N = 0 := by omega
  have g0 : (0 : Nat) = nr N := by rw [n0]; exact nr_zero.symm
  have hI_ := ‹baseI _›
  have hI : BaseI (fv (σ 24)) 0 (iv (σ 34)) (tl (σ 33)) := hI_
  obtain ⟨x, h6, h7, h8⟩ := hI.get f24 g0 k36 n53
  have x0 := h7 n0
  have hlen := h8.1
  have hm : x % K < K := Nat.mod_lt x (by omega)
  have e0 := tl_none ‹σ 33 = Value.string ⟨#[]⟩›
  exact big_no (a := vS #[48]) (b := σ 33) rfl rfl (by rw [e0]; decide) ‹IntKind.i64.max < _›
theorem baseR_L3_ok : baseR_L3 := by
  intro σ; intros
  obtain ⟨K, N, hK, hN, f24, f11, k2, k36, n53⟩ := base_pre (a := σ 10) (b := σ 11) (c := σ 23) (d := σ 24) (by omega) (by omega) (by omega) (by omega) ‹_› ‹_›
  have n0 : N = 0 := by omega
  have g0 : (0 : Nat) = nr N := by rw [n0]; exact nr_zero.symm
  have hI_ := ‹baseI _›
  have hI : BaseI (fv (σ 24)) 0 (iv (σ 34)) (tl (σ 33)) := hI_
  obtain ⟨x, h6, h7, h8⟩ := hI.get f24 g0 k36 n53
  have x0 := h7 n0
  have hlen := h8.1
  have hm : x % K < K := Nat.mod_lt x (by omega)
  have e0 : tl (σ 33) ≠ [] := tl_some ‹∀ x ∈ ([⟨#[]⟩] : List ByteArray), _›
  have hz := ‹iv (σ 52) = ((tv (σ 33)).size : Nat)›
  rw [← tl_len] at hz
  have hg := wrap_neg hz (by omega) ‹iv (σ 53) = IntKind.i64.wrap (0 - iv (σ 52))›
  omega
theorem baseR_L4_ok : baseR_L4 := by
  intro σ; intros
  obtain ⟨K, N, hK, hN, f24, f11, k2, k36, n53⟩ := base_pre (a := σ 10) (b := σ 11) (c := σ 23) (d := σ 24) (by omega) (by omega) (by omega) (by omega) ‹_› ‹_›
  have n0 : N = 0 := by omega
  have g0 : (0 : Nat) = nr N := by rw [n0]; exact nr_zero.symm
  have hI_ := ‹baseI _›
  have hI : BaseI (fv (σ 24)) 0 (iv (σ 34)) (tl (σ 33)) := hI_
  obtain ⟨x, h6, h7, h8⟩ := hI.get f24 g0 k36 n53
  have x0 := h7 n0
  have hlen := h8.1
  have hm : x % K < K := Nat.mod_lt x (by omega)
  have e0 : tl (σ 33) ≠ [] := tl_some ‹∀ x ∈ ([⟨#[]⟩] : List ByteArray), _›
  have hz := ‹iv (σ 52) = ((tv (σ 33)).size : Nat)›
  rw [← tl_len] at hz
  have hg := wrap_neg hz (by omega) ‹iv (σ 53) = IntKind.i64.wrap (0 - iv (σ 52))›
  exfalso
  omega
theorem baseR_L5_ok : baseR_L5 := by
  intro σ; intros
  obtain ⟨K, N, hK, hN, f24, f11, k2, k36, n53⟩ := base_pre (a := σ 10) (b := σ 11) (c := σ 23) (d := σ 24) (by omega) (by omega) (by omega) (by omega) ‹_› ‹_›
  have n0 : N = 0 := by omega
  have g0 : (0 : Nat) = nr N := by rw [n0]; exact nr_zero.symm
  have hI_ := ‹baseI _›
  have hI : BaseI (fv (σ 24)) 0 (iv (σ 34)) (tl (σ 33)) := hI_
  obtain ⟨x, h6, h7, h8⟩ := hI.get f24 g0 k36 n53
  have x0 := h7 n0
  have hlen := h8.1
  have hm : x % K < K := Nat.mod_lt x (by omega)
  have e0 : tl (σ 33) ≠ [] := tl_some ‹∀ x ∈ ([⟨#[]⟩] : List ByteArray), _›
  have hz := ‹iv (σ 52) = ((tv (σ 33)).size : Nat)›
  rw [← tl_len] at hz
  have hg := wrap_neg hz (by omega) ‹iv (σ 53) = IntKind.i64.wrap (0 - iv (σ 52))›
  omega
theorem baseR_L6_ok : baseR_L6 := by
  intro σ; intros
  obtain ⟨K, N, hK, hN, f24, f11, k2, k36, n53⟩ := base_pre (a := σ 10) (b := σ 11) (c := σ 23) (d := σ 24) (by omega) (by omega) (by omega) (by omega) ‹_› ‹_›
  have n0 : N = 0 := by omega
  have g0 : (0 : Nat) = nr N := by rw [n0]; exact nr_zero.symm
  have hI_ := ‹baseI _›
  have hI : BaseI (fv (σ 24)) 0 (iv (σ 34)) (tl (σ 33)) := hI_
  obtain ⟨x, h6, h7, h8⟩ := hI.get f24 g0 k36 n53
  have x0 := h7 n0
  have hlen := h8.1
  have hm : x % K < K := Nat.mod_lt x (by omega)
  have e0 : tl (σ 33) ≠ [] := tl_some ‹∀ x ∈ ([⟨#[]⟩] : List ByteArray), _›
  have hz := ‹iv (σ 52) = ((tv (σ 33)).size : Nat)›
  rw [← tl_len] at hz
  have hg := wrap_neg hz (by omega) ‹iv (σ 53) = IntKind.i64.wrap (0 - iv (σ 52))›
  omega
theorem baseR_L7_ok : baseR_L7 := by
  intro σ; intros
  obtain ⟨K, N, hK, hN, f24, f11, k2, k36, n53⟩ := base_pre (a := σ 10) (b := σ 11) (c := σ 23) (d := σ 24) (by omega) (by omega) (by omega) (by omega) ‹_› ‹_›
  have n0 : N = 0 := by omega
  have g0 : (0 : Nat) = nr N := by rw [n0]; exact nr_zero.symm
  have hI_ := ‹baseI _›
  have hI : BaseI (fv (σ 24)) 0 (iv (σ 34)) (tl (σ 33)) := hI_
  obtain ⟨x, h6, h7, h8⟩ := hI.get f24 g0 k36 n53
  have x0 := h7 n0
  have hlen := h8.1
  have hm : x % K < K := Nat.mod_lt x (by omega)
  have e0 : tl (σ 33) ≠ [] := tl_some ‹∀ x ∈ ([⟨#[]⟩] : List ByteArray), _›
  have hz := ‹iv (σ 52) = ((tv (σ 33)).size : Nat)›
  rw [← tl_len] at hz
  have hg := wrap_neg hz (by omega) ‹iv (σ 53) = IntKind.i64.wrap (0 - iv (σ 52))›
  have er : tl (σ 55) = [] := rep_no (c := vZ) (n := 0) ‹rptR _› rfl
  have dn := h8.done (by omega) e0
  have dl := dg_small k2 n53
  have ea : tl (σ 56) = tl (σ 55) ++ tl (σ 33) := tl_app ‹tv (σ 56) = _›
  rw [er, List.nil_append, dn] at ea
  have hq := ‹iv (σ 57) = ((tv (σ 56)).size : Nat)›
  rw [← tl_len, ea] at hq
  omega
theorem baseR_L8_ok : baseR_L8 := by
  intro σ; intros
  obtain ⟨K, N, hK, hN, f24, f11, k2, k36, n53⟩ := base_pre (a := σ 10) (b := σ 11) (c := σ 23) (d := σ 24) (by omega) (by omega) (by omega) (by omega) ‹_› ‹_›
  have n0 : N = 0 := by omega
  have g0 : (0 : Nat) = nr N := by rw [n0]; exact nr_zero.symm
  have hI_ := ‹baseI _›
  have hI : BaseI (fv (σ 24)) 0 (iv (σ 34)) (tl (σ 33)) := hI_
  obtain ⟨x, h6, h7, h8⟩ := hI.get f24 g0 k36 n53
  have x0 := h7 n0
  have hlen := h8.1
  have hm : x % K < K := Nat.mod_lt x (by omega)
  have e0 : tl (σ 33) ≠ [] := tl_some ‹∀ x ∈ ([⟨#[]⟩] : List ByteArray), _›
  have hz := ‹iv (σ 52) = ((tv (σ 33)).size : Nat)›
  rw [← tl_len] at hz
  have hg := wrap_neg hz (by omega) ‹iv (σ 53) = IntKind.i64.wrap (0 - iv (σ 52))›
  have er : tl (σ 55) = [] := rep_no (c := vZ) (n := 0) ‹rptR _› rfl
  have dn := h8.done (by omega) e0
  have dl := dg_small k2 n53
  have ea : tl (σ 56) = tl (σ 55) ++ tl (σ 33) := tl_app ‹tv (σ 56) = _›
  rw [er, List.nil_append, dn] at ea
  show tl (σ 56) = dg (iv (σ 23)).toNat (iv (σ 10)).toNat
  rw [hK, hN]
  exact ea
theorem baseR_L9_ok : baseR_L9 := by
  intro σ; intros
  obtain ⟨K, N, hK, hN, f24, f11, k2, k36, n53⟩ := base_pre (a := σ 10) (b := σ 11) (c := σ 23) (d := σ 24) (by omega) (by omega) (by omega) (by omega) ‹_› ‹_›
  have n0 : N = 0 := by omega
  have g0 : (0 : Nat) = nr N := by rw [n0]; exact nr_zero.symm
  have hI_ := ‹baseI _›
  have hI : BaseI (fv (σ 24)) 0 (iv (σ 34)) (tl (σ 33)) := hI_
  obtain ⟨x, h6, h7, h8⟩ := hI.get f24 g0 k36 n53
  have x0 := h7 n0
  have hlen := h8.1
  have hm : x % K < K := Nat.mod_lt x (by omega)
  have e0 : tl (σ 33) ≠ [] := tl_some ‹∀ x ∈ ([⟨#[]⟩] : List ByteArray), _›
  have hz := ‹iv (σ 52) = ((tv (σ 33)).size : Nat)›
  rw [← tl_len] at hz
  have hg := wrap_neg hz (by omega) ‹iv (σ 53) = IntKind.i64.wrap (0 - iv (σ 52))›
  have er : tl (σ 55) = [] := rep_no (c := vZ) (n := 0) ‹rptR _› rfl
  have dn := h8.done (by omega) e0
  have dl := dg_small k2 n53
  exact big_no (a := σ 55) (b := σ 33) (by rw [er]) rfl (by rw [dn]; simp only [List.length_nil]; omega) ‹IntKind.i64.max < _›
theorem baseR_L10_ok : baseR_L10 := by
  intro σ; intros
  obtain ⟨K, N, hK, hN, f24, f11, k2, k36, n53⟩ := base_pre (a := σ 10) (b := σ 11) (c := σ 23) (d := σ 24) (by omega) (by omega) (by omega) (by omega) ‹_› ‹_›
  have n0 : N = 0 := by omega
  have g0 : (0 : Nat) = nr N := by rw [n0]; exact nr_zero.symm
  have hI_ := ‹baseI _›
  have hI : BaseI (fv (σ 24)) 0 (iv (σ 34)) (tl (σ 33)) := hI_
  obtain ⟨x, h6, h7, h8⟩ := hI.get f24 g0 k36 n53
  have x0 := h7 n0
  have hlen := h8.1
  have hm : x % K < K := Nat.mod_lt x (by omega)
  have e0 : tl (σ 33) ≠ [] := tl_some ‹∀ x ∈ ([⟨#[]⟩] : List ByteArray), _›
  have hz := ‹iv (σ 52) = ((tv (σ 33)).size : Nat)›
  rw [← tl_len] at hz
  have hg := wrap_neg hz (by omega) ‹iv (σ 53) = IntKind.i64.wrap (0 - iv (σ 52))›
  have n_ := ‹¬ rptRPre _›
  exact n_ (rep_pre (c := vZ) (by decide) (by decide) (by decide))
theorem baseR_L11_ok : baseR_L11 := by
  intro σ; intros
  obtain ⟨K, N, hK, hN, f24, f11, k2, k36, n53⟩ := base_pre (a := σ 10) (b := σ 11) (c := σ 23) (d := σ 24) (by omega) (by omega) (by omega) (by omega) ‹_› ‹_›
  have n0 : N ≠ 0 := by omega
  specialize ‹fitsL _ _ → ¬ baseI _› (by (simp only [fitsL, Sort_.fits]; repeat' (first | exact True.intro | (with_reducible refine And.intro ?_ ?_) | exact ⟨_, ‹_›⟩ | exact ⟨_, rfl⟩ | exact ⟨_, ‹_›, fun a h => by cases h; omega, fun b h => by cases h; omega⟩ | exact ⟨_, rfl, fun a h => by cases h; decide, fun b h => by cases h; decide⟩)))
  have c_ := ‹¬ baseI _›
  have c : ¬ BaseI (fv (σ 24)) (fv (σ 11)) (iv (σ 10)) [] := c_
  exact c ⟨K, N, N, k2, k36, n53, f24, f11, fun h => hN, fun h => h, Writes.start K N⟩
theorem baseR_L12_ok : baseR_L12 := by
  intro σ; intros
  obtain ⟨K, N, hK, hN, f24, f11, k2, k36, n53⟩ := base_pre (a := σ 10) (b := σ 11) (c := σ 23) (d := σ 24) (by omega) (by omega) (by omega) (by omega) ‹_› ‹_›
  have n0 : N ≠ 0 := by omega
  have hI_ := ‹baseI _›
  have hI : BaseI (fv (σ 24)) (fv (σ 11)) (iv (σ 34)) (tl (σ 33)) := hI_
  obtain ⟨x, h6, h7, h8⟩ := hI.get f24 f11 k36 n53
  have h6x := h6 n0
  have hlen := h8.1
  have hm : x % K < K := Nat.mod_lt x (by omega)
  have hd := ‹iv (σ 55) = (iv (σ 34)).tmod (iv (σ 23))›
  rw [hK] at hd
  have hd := mod_nat h6x hd
  have hs := ‹sgB[(iv (σ 55)).toNat]?.map _ = _›
  have e1 := sig_of (d := x % K) (t := σ 59) (by omega) hd hs ‹tv (σ 59) = _›
  have e2 : tl (σ 60) = tl (σ 59) ++ tl (σ 33) := tl_app ‹tv (σ 60) = _›
  rw [e1] at e2
  have hy := ‹iv (σ 61) = IntKind.i64.wrap _›
  rw [hK, h6x] at hy
  have hy : iv (σ 61) = ((x / K : Nat) : Int) := wrap_nat (Nat.lt_of_le_of_lt (Nat.div_le_self x K) (by omega)) hy
  have st := base_step (x3 := iv (σ 34)) (y3 := iv (σ 61)) k2 k36 n53 f24 f11 h6 h7 h8 (.inl (by omega)) (fun _ => hy)
  have e3 : sgA (x % K) :: tl (σ 33) = tl (σ 60) := by rw [e2]; rfl
  rw [e3] at st
  specialize ‹fitsL _ _ → baseI _ → ¬ (_ : Nat) < _› (by (simp only [fitsL, Sort_.fits]; repeat' (first | exact True.intro | (with_reducible refine And.intro ?_ ?_) | exact ⟨_, ‹_›⟩ | exact ⟨_, rfl⟩ | exact ⟨_, ‹_›, fun a h => by cases h; omega, fun b h => by cases h; omega⟩ | exact ⟨_, rfl, fun a h => by cases h; decide, fun b h => by cases h; decide⟩)))
  have c0 := ‹baseI _ → ¬ (_ : Nat) < _›
  exact c0 st.1 st.2
theorem baseR_L13_ok : baseR_L13 := by
  intro σ; intros
  obtain ⟨K, N, hK, hN, f24, f11, k2, k36, n53⟩ := base_pre (a := σ 10) (b := σ 11) (c := σ 23) (d := σ 24) (by omega) (by omega) (by omega) (by omega) ‹_› ‹_›
  have n0 : N ≠ 0 := by omega
  have hI_ := ‹baseI _›
  have hI : BaseI (fv (σ 24)) (fv (σ 11)) (iv (σ 34)) (tl (σ 33)) := hI_
  obtain ⟨x, h6, h7, h8⟩ := hI.get f24 f11 k36 n53
  have h6x := h6 n0
  have hlen := h8.1
  have hm : x % K < K := Nat.mod_lt x (by omega)
  have hd := ‹iv (σ 55) = (iv (σ 34)).tmod (iv (σ 23))›
  rw [hK] at hd
  have hd := mod_nat h6x hd
  have hs := ‹sgB[(iv (σ 55)).toNat]?.map _ = _›
  have e1 := sig_of (d := x % K) (t := σ 59) (by omega) hd hs ‹tv (σ 59) = _›
  exact big_no (a := σ 59) (b := σ 33) (by rw [e1]) rfl (by simp only [List.length_singleton]; omega) ‹IntKind.i64.max < _›
theorem baseR_L14_ok : baseR_L14 := by
  intro σ; intros
  obtain ⟨K, N, hK, hN, f24, f11, k2, k36, n53⟩ := base_pre (a := σ 10) (b := σ 11) (c := σ 23) (d := σ 24) (by omega) (by omega) (by omega) (by omega) ‹_› ‹_›
  have n0 : N ≠ 0 := by omega
  have hI_ := ‹baseI _›
  have hI : BaseI (fv (σ 24)) (fv (σ 11)) (iv (σ 34)) (tl (σ 33)) := hI_
  obtain ⟨x, h6, h7, h8⟩ := hI.get f24 f11 k36 n53
  have h6x := h6 n0
  have hlen := h8.1
  have hm : x % K < K := Nat.mod_lt x (by omega)
  have hd := ‹iv (σ 55) = (iv (σ 34)).tmod (iv (σ 23))›
  rw [hK] at hd
  have hd := mod_nat h6x hd
  omega
theorem baseR_L15_ok : baseR_L15 := by
  intro σ; intros
  obtain ⟨K, N, hK, hN, f24, f11, k2, k36, n53⟩ := base_pre (a := σ 10) (b := σ 11) (c := σ 23) (d := σ 24) (by omega) (by omega) (by omega) (by omega) ‹_› ‹_›
  have n0 : N ≠ 0 := by omega
  have hI_ := ‹baseI _›
  have hI : BaseI (fv (σ 24)) (fv (σ 11)) (iv (σ 34)) (tl (σ 33)) := hI_
  obtain ⟨x, h6, h7, h8⟩ := hI.get f24 f11 k36 n53
  have h6x := h6 n0
  have hlen := h8.1
  have hm : x % K < K := Nat.mod_lt x (by omega)
  have hd := ‹iv (σ 55) = (iv (σ 34)).tmod (iv (σ 23))›
  rw [hK] at hd
  have hd := mod_nat h6x hd
  omega
theorem baseR_L16_ok : baseR_L16 := by
  intro σ; intros
  obtain ⟨K, N, hK, hN, f24, f11, k2, k36, n53⟩ := base_pre (a := σ 10) (b := σ 11) (c := σ 23) (d := σ 24) (by omega) (by omega) (by omega) (by omega) ‹_› ‹_›
  have n0 : N ≠ 0 := by omega
  have hI_ := ‹baseI _›
  have hI : BaseI (fv (σ 24)) (fv (σ 11)) (iv (σ 34)) (tl (σ 33)) := hI_
  obtain ⟨x, h6, h7, h8⟩ := hI.get f24 f11 k36 n53
  have h6x := h6 n0
  have hlen := h8.1
  have hm : x % K < K := Nat.mod_lt x (by omega)
  omega
theorem baseR_L17_ok : baseR_L17 := by
  intro σ; intros
  obtain ⟨K, N, hK, hN, f24, f11, k2, k36, n53⟩ := base_pre (a := σ 10) (b := σ 11) (c := σ 23) (d := σ 24) (by omega) (by omega) (by omega) (by omega) ‹_› ‹_›
  have n0 : N ≠ 0 := by omega
  have hI_ := ‹baseI _›
  have hI : BaseI (fv (σ 24)) (fv (σ 11)) (iv (σ 34)) (tl (σ 33)) := hI_
  obtain ⟨x, h6, h7, h8⟩ := hI.get f24 f11 k36 n53
  have h6x := h6 n0
  have hlen := h8.1
  have hm : x % K < K := Nat.mod_lt x (by omega)
  have e0 := tl_none ‹σ 33 = Value.string ⟨#[]⟩›
  exfalso
  have := h8.nil e0
  omega
theorem baseR_L18_ok : baseR_L18 := by
  intro σ; intros
  obtain ⟨K, N, hK, hN, f24, f11, k2, k36, n53⟩ := base_pre (a := σ 10) (b := σ 11) (c := σ 23) (d := σ 24) (by omega) (by omega) (by omega) (by omega) ‹_› ‹_›
  have n0 : N ≠ 0 := by omega
  have hI_ := ‹baseI _›
  have hI : BaseI (fv (σ 24)) (fv (σ 11)) (iv (σ 34)) (tl (σ 33)) := hI_
  obtain ⟨x, h6, h7, h8⟩ := hI.get f24 f11 k36 n53
  have h6x := h6 n0
  have hlen := h8.1
  have hm : x % K < K := Nat.mod_lt x (by omega)
  have e0 := tl_none ‹σ 33 = Value.string ⟨#[]⟩›
  exfalso
  have := h8.nil e0
  omega
theorem baseR_L19_ok : baseR_L19 := by
  intro σ; intros
  obtain ⟨K, N, hK, hN, f24, f11, k2, k36, n53⟩ := base_pre (a := σ 10) (b := σ 11) (c := σ 23) (d := σ 24) (by omega) (by omega) (by omega) (by omega) ‹_› ‹_›
  have n0 : N ≠ 0 := by omega
  have hI_ := ‹baseI _›
  have hI : BaseI (fv (σ 24)) (fv (σ 11)) (iv (σ 34)) (tl (σ 33)) := hI_
  obtain ⟨x, h6, h7, h8⟩ := hI.get f24 f11 k36 n53
  have h6x := h6 n0
  have hlen := h8.1
  have hm : x % K < K := Nat.mod_lt x (by omega)
  have e0 := tl_none ‹σ 33 = Value.string ⟨#[]⟩›
  exfalso
  have := h8.nil e0
  omega
theorem baseR_L20_ok : baseR_L20 := by
  intro σ; intros
  obtain ⟨K, N, hK, hN, f24, f11, k2, k36, n53⟩ := base_pre (a := σ 10) (b := σ 11) (c := σ 23) (d := σ 24) (by omega) (by omega) (by omega) (by omega) ‹_› ‹_›
  have n0 : N ≠ 0 := by omega
  have hI_ := ‹baseI _›
  have hI : BaseI (fv (σ 24)) (fv (σ 11)) (iv (σ 34)) (tl (σ 33)) := hI_
  obtain ⟨x, h6, h7, h8⟩ := hI.get f24 f11 k36 n53
  have h6x := h6 n0
  have hlen := h8.1
  have hm : x % K < K := Nat.mod_lt x (by omega)
  have e0 := tl_none ‹σ 33 = Value.string ⟨#[]⟩›
  exfalso
  have := h8.nil e0
  omega
theorem baseR_L21_ok : baseR_L21 := by
  intro σ; intros
  obtain ⟨K, N, hK, hN, f24, f11, k2, k36, n53⟩ := base_pre (a := σ 10) (b := σ 11) (c := σ 23) (d := σ 24) (by omega) (by omega) (by omega) (by omega) ‹_› ‹_›
  have n0 : N ≠ 0 := by omega
  have hI_ := ‹baseI _›
  have hI : BaseI (fv (σ 24)) (fv (σ 11)) (iv (σ 34)) (tl (σ 33)) := hI_
  obtain ⟨x, h6, h7, h8⟩ := hI.get f24 f11 k36 n53
  have h6x := h6 n0
  have hlen := h8.1
  have hm : x % K < K := Nat.mod_lt x (by omega)
  have e0 := tl_none ‹σ 33 = Value.string ⟨#[]⟩›
  exfalso
  have := h8.nil e0
  omega
theorem baseR_L22_ok : baseR_L22 := by
  intro σ; intros
  obtain ⟨K, N, hK, hN, f24, f11, k2, k36, n53⟩ := base_pre (a := σ 10) (b := σ 11) (c := σ 23) (d := σ 24) (by omega) (by omega) (by omega) (by omega) ‹_› ‹_›
  have n0 : N ≠ 0 := by omega
  have hI_ := ‹baseI _›
  have hI : BaseI (fv (σ 24)) (fv (σ 11)) (iv (σ 34)) (tl (σ 33)) := hI_
  obtain ⟨x, h6, h7, h8⟩ := hI.get f24 f11 k36 n53
  have h6x := h6 n0
  have hlen := h8.1
  have hm : x % K < K := Nat.mod_lt x (by omega)
  have e0 : tl (σ 33) ≠ [] := tl_some ‹∀ x ∈ ([⟨#[]⟩] : List ByteArray), _›
  have hz := ‹iv (σ 54) = ((tv (σ 33)).size : Nat)›
  rw [← tl_len] at hz
  have hg := wrap_neg hz (by omega) ‹iv (σ 55) = IntKind.i64.wrap (0 - iv (σ 54))›
  omega
theorem baseR_L23_ok : baseR_L23 := by
  intro σ; intros
  obtain ⟨K, N, hK, hN, f24, f11, k2, k36, n53⟩ := base_pre (a := σ 10) (b := σ 11) (c := σ 23) (d := σ 24) (by omega) (by omega) (by omega) (by omega) ‹_› ‹_›
  have n0 : N ≠ 0 := by omega
  have hI_ := ‹baseI _›
  have hI : BaseI (fv (σ 24)) (fv (σ 11)) (iv (σ 34)) (tl (σ 33)) := hI_
  obtain ⟨x, h6, h7, h8⟩ := hI.get f24 f11 k36 n53
  have h6x := h6 n0
  have hlen := h8.1
  have hm : x % K < K := Nat.mod_lt x (by omega)
  have e0 : tl (σ 33) ≠ [] := tl_some ‹∀ x ∈ ([⟨#[]⟩] : List ByteArray), _›
  have hz := ‹iv (σ 54) = ((tv (σ 33)).size : Nat)›
  rw [← tl_len] at hz
  have hg := wrap_neg hz (by omega) ‹iv (σ 55) = IntKind.i64.wrap (0 - iv (σ 54))›
  exfalso
  omega
theorem baseR_L24_ok : baseR_L24 := by
  intro σ; intros
  obtain ⟨K, N, hK, hN, f24, f11, k2, k36, n53⟩ := base_pre (a := σ 10) (b := σ 11) (c := σ 23) (d := σ 24) (by omega) (by omega) (by omega) (by omega) ‹_› ‹_›
  have n0 : N ≠ 0 := by omega
  have hI_ := ‹baseI _›
  have hI : BaseI (fv (σ 24)) (fv (σ 11)) (iv (σ 34)) (tl (σ 33)) := hI_
  obtain ⟨x, h6, h7, h8⟩ := hI.get f24 f11 k36 n53
  have h6x := h6 n0
  have hlen := h8.1
  have hm : x % K < K := Nat.mod_lt x (by omega)
  have e0 : tl (σ 33) ≠ [] := tl_some ‹∀ x ∈ ([⟨#[]⟩] : List ByteArray), _›
  have hz := ‹iv (σ 54) = ((tv (σ 33)).size : Nat)›
  rw [← tl_len] at hz
  have hg := wrap_neg hz (by omega) ‹iv (σ 55) = IntKind.i64.wrap (0 - iv (σ 54))›
  omega
theorem baseR_L25_ok : baseR_L25 := by
  intro σ; intros
  obtain ⟨K, N, hK, hN, f24, f11, k2, k36, n53⟩ := base_pre (a := σ 10) (b := σ 11) (c := σ 23) (d := σ 24) (by omega) (by omega) (by omega) (by omega) ‹_› ‹_›
  have n0 : N ≠ 0 := by omega
  have hI_ := ‹baseI _›
  have hI : BaseI (fv (σ 24)) (fv (σ 11)) (iv (σ 34)) (tl (σ 33)) := hI_
  obtain ⟨x, h6, h7, h8⟩ := hI.get f24 f11 k36 n53
  have h6x := h6 n0
  have hlen := h8.1
  have hm : x % K < K := Nat.mod_lt x (by omega)
  have e0 : tl (σ 33) ≠ [] := tl_some ‹∀ x ∈ ([⟨#[]⟩] : List ByteArray), _›
  have hz := ‹iv (σ 54) = ((tv (σ 33)).size : Nat)›
  rw [← tl_len] at hz
  have hg := wrap_neg hz (by omega) ‹iv (σ 55) = IntKind.i64.wrap (0 - iv (σ 54))›
  omega
theorem baseR_L26_ok : baseR_L26 := by
  intro σ; intros
  obtain ⟨K, N, hK, hN, f24, f11, k2, k36, n53⟩ := base_pre (a := σ 10) (b := σ 11) (c := σ 23) (d := σ 24) (by omega) (by omega) (by omega) (by omega) ‹_› ‹_›
  have n0 : N ≠ 0 := by omega
  have hI_ := ‹baseI _›
  have hI : BaseI (fv (σ 24)) (fv (σ 11)) (iv (σ 34)) (tl (σ 33)) := hI_
  obtain ⟨x, h6, h7, h8⟩ := hI.get f24 f11 k36 n53
  have h6x := h6 n0
  have hlen := h8.1
  have hm : x % K < K := Nat.mod_lt x (by omega)
  have e0 : tl (σ 33) ≠ [] := tl_some ‹∀ x ∈ ([⟨#[]⟩] : List ByteArray), _›
  have hz := ‹iv (σ 54) = ((tv (σ 33)).size : Nat)›
  rw [← tl_len] at hz
  have hg := wrap_neg hz (by omega) ‹iv (σ 55) = IntKind.i64.wrap (0 - iv (σ 54))›
  have er : tl (σ 57) = [] := rep_no (c := vZ) (n := 0) ‹rptR _› rfl
  have dn := h8.done (by omega) e0
  have dl := dg_small k2 n53
  have ea : tl (σ 58) = tl (σ 57) ++ tl (σ 33) := tl_app ‹tv (σ 58) = _›
  rw [er, List.nil_append, dn] at ea
  have hq := ‹iv (σ 59) = ((tv (σ 58)).size : Nat)›
  rw [← tl_len, ea] at hq
  omega
theorem baseR_L27_ok : baseR_L27 := by
  intro σ; intros
  obtain ⟨K, N, hK, hN, f24, f11, k2, k36, n53⟩ := base_pre (a := σ 10) (b := σ 11) (c := σ 23) (d := σ 24) (by omega) (by omega) (by omega) (by omega) ‹_› ‹_›
  have n0 : N ≠ 0 := by omega
  have hI_ := ‹baseI _›
  have hI : BaseI (fv (σ 24)) (fv (σ 11)) (iv (σ 34)) (tl (σ 33)) := hI_
  obtain ⟨x, h6, h7, h8⟩ := hI.get f24 f11 k36 n53
  have h6x := h6 n0
  have hlen := h8.1
  have hm : x % K < K := Nat.mod_lt x (by omega)
  have e0 : tl (σ 33) ≠ [] := tl_some ‹∀ x ∈ ([⟨#[]⟩] : List ByteArray), _›
  have hz := ‹iv (σ 54) = ((tv (σ 33)).size : Nat)›
  rw [← tl_len] at hz
  have hg := wrap_neg hz (by omega) ‹iv (σ 55) = IntKind.i64.wrap (0 - iv (σ 54))›
  have er : tl (σ 57) = [] := rep_no (c := vZ) (n := 0) ‹rptR _› rfl
  have dn := h8.done (by omega) e0
  have dl := dg_small k2 n53
  have ea : tl (σ 58) = tl (σ 57) ++ tl (σ 33) := tl_app ‹tv (σ 58) = _›
  rw [er, List.nil_append, dn] at ea
  show tl (σ 58) = dg (iv (σ 23)).toNat (iv (σ 10)).toNat
  rw [hK, hN]
  exact ea
theorem baseR_L28_ok : baseR_L28 := by
  intro σ; intros
  obtain ⟨K, N, hK, hN, f24, f11, k2, k36, n53⟩ := base_pre (a := σ 10) (b := σ 11) (c := σ 23) (d := σ 24) (by omega) (by omega) (by omega) (by omega) ‹_› ‹_›
  have n0 : N ≠ 0 := by omega
  have hI_ := ‹baseI _›
  have hI : BaseI (fv (σ 24)) (fv (σ 11)) (iv (σ 34)) (tl (σ 33)) := hI_
  obtain ⟨x, h6, h7, h8⟩ := hI.get f24 f11 k36 n53
  have h6x := h6 n0
  have hlen := h8.1
  have hm : x % K < K := Nat.mod_lt x (by omega)
  have e0 : tl (σ 33) ≠ [] := tl_some ‹∀ x ∈ ([⟨#[]⟩] : List ByteArray), _›
  have hz := ‹iv (σ 54) = ((tv (σ 33)).size : Nat)›
  rw [← tl_len] at hz
  have hg := wrap_neg hz (by omega) ‹iv (σ 55) = IntKind.i64.wrap (0 - iv (σ 54))›
  have er : tl (σ 57) = [] := rep_no (c := vZ) (n := 0) ‹rptR _› rfl
  have dn := h8.done (by omega) e0
  have dl := dg_small k2 n53
  exact big_no (a := σ 57) (b := σ 33) (by rw [er]) rfl (by rw [dn]; simp only [List.length_nil]; omega) ‹IntKind.i64.max < _›
theorem baseR_L29_ok : baseR_L29 := by
  intro σ; intros
  obtain ⟨K, N, hK, hN, f24, f11, k2, k36, n53⟩ := base_pre (a := σ 10) (b := σ 11) (c := σ 23) (d := σ 24) (by omega) (by omega) (by omega) (by omega) ‹_› ‹_›
  have n0 : N ≠ 0 := by omega
  have hI_ := ‹baseI _›
  have hI : BaseI (fv (σ 24)) (fv (σ 11)) (iv (σ 34)) (tl (σ 33)) := hI_
  obtain ⟨x, h6, h7, h8⟩ := hI.get f24 f11 k36 n53
  have h6x := h6 n0
  have hlen := h8.1
  have hm : x % K < K := Nat.mod_lt x (by omega)
  have e0 : tl (σ 33) ≠ [] := tl_some ‹∀ x ∈ ([⟨#[]⟩] : List ByteArray), _›
  have hz := ‹iv (σ 54) = ((tv (σ 33)).size : Nat)›
  rw [← tl_len] at hz
  have hg := wrap_neg hz (by omega) ‹iv (σ 55) = IntKind.i64.wrap (0 - iv (σ 54))›
  have n_ := ‹¬ rptRPre _›
  exact n_ (rep_pre (c := vZ) (by decide) (by decide) (by decide))
theorem base_ok : baseC.ok Tryz.prog Tabs :=
  by_tie baseR_tie (by kernel_rfl) (all_cons vld_ok (all_cons ixb_ok (all_cons rpt_ok (all_cons upp_ok all_nil)))) ⟨baseR_L0_ok, baseR_L1_ok, baseR_L2_ok, baseR_L3_ok, baseR_L4_ok, baseR_L5_ok, baseR_L6_ok, baseR_L7_ok, baseR_L8_ok, baseR_L9_ok, baseR_L10_ok, baseR_L11_ok, baseR_L12_ok, baseR_L13_ok, baseR_L14_ok, baseR_L15_ok, baseR_L16_ok, baseR_L17_ok, baseR_L18_ok, baseR_L19_ok, baseR_L20_ok, baseR_L21_ok, baseR_L22_ok, baseR_L23_ok, baseR_L24_ok, baseR_L25_ok, baseR_L26_ok, baseR_L27_ok, baseR_L28_ok, baseR_L29_ok, trivial⟩
end Go.Proofs.Bs
