/- DEC2BIN, DEC2OCT, DEC2HEX. -/
import Derived.Test.YtlinfpchnonbpaaGreatDoorFxbA
namespace Go.Proofs.Bs
open Go.Ev Go.RowKit Ieee
set_option maxRecDepth 1000000
def toR_L0 (p : Par) : Prop := ∀ σ : Nat → Value,
 σ 0 = (Value.string ⟨p.nm⟩) →
 σ 2 = vF →
 σ 3 = vF →
 σ 4 = vO →
 σ 5 = vO →
 σ 7 = vZ →
 σ 8 = vZ →
 σ 9 = vO →
 tI (σ 10) →
 (-p.H) ≤ iv (σ 10) →
 iv (σ 10) ≤ (-1) →
 tF (σ 11) →
 σ 12 = vE →
 σ 13 = vF →
 σ 14 = vZ →
 tU (σ 15) →
 tU (σ 16) →
 tI (σ 18) →
 1 ≤ iv (σ 18) →
 iv (σ 18) ≤ p.H →
 tF (σ 19) →
 σ 20 = (vI 3) →
 tI (σ 21) →
 p.D ≤ iv (σ 21) →
 iv (σ 21) ≤ p.E →
 fv (σ 11) = nE (iv (σ 10)) →
 extRel .fbits [σ 11] (σ 15) →
 aN (σ 15) (σ 16) →
 iv (σ 18) = 0 - iv (σ 10) →
 fv (σ 19) = nE (iv (σ 18)) →
 ixR [(Value.string ⟨p.nm⟩), (Value.int .u8 50), (vI 3)] →
 iv (σ 21) = iv (σ 10) + p.F →
    ((fitsL [.any, .int .i64, .str, .any, .any, .any, .any, .any, .any, .any, .any, .any, .any, .any, .any, .any, .any, .any, .any, .any, .any] [σ 21,σ 21, vE,vU,vU,vU,vU,vU,vU,vU,vU,vU,vU,vU,vU,vU,vU,vU,vU,vU,vU] → ¬ toI p [σ 21,σ 21, vE,vU,vU,vU,vU,vU,vU,vU,vU,vU,vU,vU,vU,vU,vU,vU,vU,vU,vU])) →
 iv (σ 10) < 0 →
    False
def toR_L1 (p : Par) : Prop := ∀ σ : Nat → Value,
 σ 0 = (Value.string ⟨p.nm⟩) →
 σ 2 = vF →
 σ 3 = vF →
 σ 4 = vO →
 σ 5 = vO →
 σ 7 = vZ →
 σ 8 = vZ →
 σ 9 = vO →
 tI (σ 10) →
 (-p.H) ≤ iv (σ 10) →
 iv (σ 10) ≤ (-1) →
 tF (σ 11) →
 σ 12 = vE →
 σ 13 = vF →
 σ 14 = vZ →
 tU (σ 15) →
 tU (σ 16) →
 tI (σ 18) →
 1 ≤ iv (σ 18) →
 iv (σ 18) ≤ p.H →
 tF (σ 19) →
 σ 20 = (vI 3) →
 tI (σ 21) →
 p.D ≤ iv (σ 21) →
 iv (σ 21) ≤ p.E →
 tI (σ 22) →
 1 ≤ iv (σ 22) →
 tS (σ 23) →
 tI (σ 43) →
 σ 46 = .int .u8 (iv (σ 46)) →
 0 ≤ iv (σ 46) →
 iv (σ 46) ≤ 255 →
 tS (σ 47) →
 tS (σ 48) →
 tI (σ 49) →
 fv (σ 11) = nE (iv (σ 10)) →
 extRel .fbits [σ 11] (σ 15) →
 aN (σ 15) (σ 16) →
 iv (σ 18) = 0 - iv (σ 10) →
 fv (σ 19) = nE (iv (σ 18)) →
 ixR [(Value.string ⟨p.nm⟩), (Value.int .u8 50), (vI 3)] →
 iv (σ 21) = iv (σ 10) + p.F →
 toI p [σ 21,σ 22,σ 23,σ 24,σ 25,σ 26,σ 27,σ 28,σ 29,σ 30,σ 31,σ 32,σ 33,σ 34,σ 35,σ 36,σ 37,σ 38,σ 39,σ 40,σ 41] →
 ibin .and IntKind.i64 (iv (σ 22)) (p.M) = some (.int IntKind.i64 (iv (σ 43))) →
 (0 : Int) ≤ iv (σ 43) →
    (sgC[(iv (σ 43) : Int).toNat]?.map (fun b => (b.toNat : Int)) = some (iv (σ 46))) →
 tv (σ 47) = Utf8.encode (iv (σ 46)) →
 tv (σ 48) = tv (σ 47) ++ tv (σ 23) →
 iv (σ 49) = (iv (σ 22) : Int).fdiv (2 ^ min (p.b : Int).toNat IntKind.i64.bits) →
    ((fitsL [.any, .int .i64, .str, .any, .any, .any, .any, .any, .any, .any, .any, .any, .any, .any, .any, .any, .any, .any, .any, .any, .any] [σ 21,σ 49,σ 48,σ 22,σ 42,σ 42,vU,vU, vT,σ 22, (Value.int .i64 p.b),σ 49,σ 22, (Value.int .i64 p.b), (Value.int .i64 p.K), (Value.int .i64 p.M),σ 43,σ 46,σ 47,σ 23,σ 48] → toI p [σ 21,σ 49,σ 48,σ 22,σ 42,σ 42,vU,vU, vT,σ 22, (Value.int .i64 p.b),σ 49,σ 22, (Value.int .i64 p.b), (Value.int .i64 p.K), (Value.int .i64 p.M),σ 43,σ 46,σ 47,σ 23,σ 48] → ¬ toIM p [σ 21,σ 49,σ 48,σ 22,σ 42,σ 42,vU,vU, vT,σ 22, (Value.int .i64 p.b),σ 49,σ 22, (Value.int .i64 p.b), (Value.int .i64 p.K), (Value.int .i64 p.M),σ 43,σ 46,σ 47,σ 23,σ 48] < toIM p [σ 21,σ 22,σ 23,σ 24,σ 25,σ 26,σ 27,σ 28,σ 29,σ 30,σ 31,σ 32,σ 33,σ 34,σ 35,σ 36,σ 37,σ 38,σ 39,σ 40,σ 41])) →
 iv (σ 43) < 16 →
 0 ≤ iv (σ 43) →
 0 < iv (σ 22) →
 iv (σ 10) < 0 →
    False
def toR_L2 (p : Par) : Prop := ∀ σ : Nat → Value,
 σ 0 = (Value.string ⟨p.nm⟩) →
 σ 2 = vF →
 σ 3 = vF →
 σ 4 = vO →
 σ 5 = vO →
 σ 7 = vZ →
 σ 8 = vZ →
 σ 9 = vO →
 tI (σ 10) →
 (-p.H) ≤ iv (σ 10) →
 iv (σ 10) ≤ (-1) →
 tF (σ 11) →
 σ 12 = vE →
 σ 13 = vF →
 σ 14 = vZ →
 tU (σ 15) →
 tU (σ 16) →
 tI (σ 18) →
 1 ≤ iv (σ 18) →
 iv (σ 18) ≤ p.H →
 tF (σ 19) →
 σ 20 = (vI 3) →
 tI (σ 21) →
 p.D ≤ iv (σ 21) →
 iv (σ 21) ≤ p.E →
 tI (σ 22) →
 1 ≤ iv (σ 22) →
 tS (σ 23) →
 tI (σ 43) →
 σ 46 = .int .u8 (iv (σ 46)) →
 0 ≤ iv (σ 46) →
 iv (σ 46) ≤ 255 →
 tS (σ 47) →
 tB (σ 48) →
 fv (σ 11) = nE (iv (σ 10)) →
 extRel .fbits [σ 11] (σ 15) →
 aN (σ 15) (σ 16) →
 iv (σ 18) = 0 - iv (σ 10) →
 fv (σ 19) = nE (iv (σ 18)) →
 ixR [(Value.string ⟨p.nm⟩), (Value.int .u8 50), (vI 3)] →
 iv (σ 21) = iv (σ 10) + p.F →
 toI p [σ 21,σ 22,σ 23,σ 24,σ 25,σ 26,σ 27,σ 28,σ 29,σ 30,σ 31,σ 32,σ 33,σ 34,σ 35,σ 36,σ 37,σ 38,σ 39,σ 40,σ 41] →
 ibin .and IntKind.i64 (iv (σ 22)) (p.M) = some (.int IntKind.i64 (iv (σ 43))) →
 (0 : Int) ≤ iv (σ 43) →
    (sgC[(iv (σ 43) : Int).toNat]?.map (fun b => (b.toNat : Int)) = some (iv (σ 46))) →
 tv (σ 47) = Utf8.encode (iv (σ 46)) →
 IntKind.i64.max < ((((tv (σ 47)).size + (tv (σ 23)).size : Nat)) : Int) →
 iv (σ 43) < 16 →
 0 ≤ iv (σ 43) →
 0 < iv (σ 22) →
 iv (σ 10) < 0 →
    False
def toR_L3 (p : Par) : Prop := ∀ σ : Nat → Value,
 σ 0 = (Value.string ⟨p.nm⟩) →
 σ 2 = vF →
 σ 3 = vF →
 σ 4 = vO →
 σ 5 = vO →
 σ 7 = vZ →
 σ 8 = vZ →
 σ 9 = vO →
 tI (σ 10) →
 (-p.H) ≤ iv (σ 10) →
 iv (σ 10) ≤ (-1) →
 tF (σ 11) →
 σ 12 = vE →
 σ 13 = vF →
 σ 14 = vZ →
 tU (σ 15) →
 tU (σ 16) →
 tI (σ 18) →
 1 ≤ iv (σ 18) →
 iv (σ 18) ≤ p.H →
 tF (σ 19) →
 σ 20 = (vI 3) →
 tI (σ 21) →
 p.D ≤ iv (σ 21) →
 iv (σ 21) ≤ p.E →
 tI (σ 22) →
 1 ≤ iv (σ 22) →
 tS (σ 23) →
 tI (σ 43) →
 fv (σ 11) = nE (iv (σ 10)) →
 extRel .fbits [σ 11] (σ 15) →
 aN (σ 15) (σ 16) →
 iv (σ 18) = 0 - iv (σ 10) →
 fv (σ 19) = nE (iv (σ 18)) →
 ixR [(Value.string ⟨p.nm⟩), (Value.int .u8 50), (vI 3)] →
 iv (σ 21) = iv (σ 10) + p.F →
 toI p [σ 21,σ 22,σ 23,σ 24,σ 25,σ 26,σ 27,σ 28,σ 29,σ 30,σ 31,σ 32,σ 33,σ 34,σ 35,σ 36,σ 37,σ 38,σ 39,σ 40,σ 41] →
 ibin .and IntKind.i64 (iv (σ 22)) (p.M) = some (.int IntKind.i64 (iv (σ 43))) →
 iv (σ 43) < 0 →
 0 < iv (σ 22) →
 iv (σ 10) < 0 →
    False
def toR_L4 (p : Par) : Prop := ∀ σ : Nat → Value,
 σ 0 = (Value.string ⟨p.nm⟩) →
 σ 2 = vF →
 σ 3 = vF →
 σ 4 = vO →
 σ 5 = vO →
 σ 7 = vZ →
 σ 8 = vZ →
 σ 9 = vO →
 tI (σ 10) →
 (-p.H) ≤ iv (σ 10) →
 iv (σ 10) ≤ (-1) →
 tF (σ 11) →
 σ 12 = vE →
 σ 13 = vF →
 σ 14 = vZ →
 tU (σ 15) →
 tU (σ 16) →
 tI (σ 18) →
 1 ≤ iv (σ 18) →
 iv (σ 18) ≤ p.H →
 tF (σ 19) →
 σ 20 = (vI 3) →
 tI (σ 21) →
 p.D ≤ iv (σ 21) →
 iv (σ 21) ≤ p.E →
 tI (σ 22) →
 1 ≤ iv (σ 22) →
 tS (σ 23) →
 tI (σ 43) →
 fv (σ 11) = nE (iv (σ 10)) →
 extRel .fbits [σ 11] (σ 15) →
 aN (σ 15) (σ 16) →
 iv (σ 18) = 0 - iv (σ 10) →
 fv (σ 19) = nE (iv (σ 18)) →
 ixR [(Value.string ⟨p.nm⟩), (Value.int .u8 50), (vI 3)] →
 iv (σ 21) = iv (σ 10) + p.F →
 toI p [σ 21,σ 22,σ 23,σ 24,σ 25,σ 26,σ 27,σ 28,σ 29,σ 30,σ 31,σ 32,σ 33,σ 34,σ 35,σ 36,σ 37,σ 38,σ 39,σ 40,σ 41] →
 ibin .and IntKind.i64 (iv (σ 22)) (p.M) = some (.int IntKind.i64 (iv (σ 43))) →
 16 ≤ iv (σ 43) →
 0 ≤ iv (σ 43) →
 0 < iv (σ 22) →
 iv (σ 10) < 0 →
    False
def toR_L5 (p : Par) : Prop := ∀ σ : Nat → Value,
 σ 0 = (Value.string ⟨p.nm⟩) →
 σ 2 = vF →
 σ 3 = vF →
 σ 4 = vO →
 σ 5 = vO →
 σ 7 = vZ →
 σ 8 = vZ →
 σ 9 = vO →
 tI (σ 10) →
 (-p.H) ≤ iv (σ 10) →
 iv (σ 10) ≤ (-1) →
 tF (σ 11) →
 σ 12 = vE →
 σ 13 = vF →
 σ 14 = vZ →
 tU (σ 15) →
 tU (σ 16) →
 tI (σ 18) →
 1 ≤ iv (σ 18) →
 iv (σ 18) ≤ p.H →
 tF (σ 19) →
 σ 20 = (vI 3) →
 tI (σ 21) →
 p.D ≤ iv (σ 21) →
 iv (σ 21) ≤ p.E →
 tI (σ 22) →
 iv (σ 22) ≤ 0 →
 σ 23 = vE →
 tI (σ 43) →
 σ 46 = .int .u8 (iv (σ 46)) →
 0 ≤ iv (σ 46) →
 iv (σ 46) ≤ 255 →
 tS (σ 47) →
 tS (σ 48) →
 tI (σ 49) →
 fv (σ 11) = nE (iv (σ 10)) →
 extRel .fbits [σ 11] (σ 15) →
 aN (σ 15) (σ 16) →
 iv (σ 18) = 0 - iv (σ 10) →
 fv (σ 19) = nE (iv (σ 18)) →
 ixR [(Value.string ⟨p.nm⟩), (Value.int .u8 50), (vI 3)] →
 iv (σ 21) = iv (σ 10) + p.F →
 toI p [σ 21,σ 22,σ 23,σ 24,σ 25,σ 26,σ 27,σ 28,σ 29,σ 30,σ 31,σ 32,σ 33,σ 34,σ 35,σ 36,σ 37,σ 38,σ 39,σ 40,σ 41] →
 ibin .and IntKind.i64 (iv (σ 22)) (p.M) = some (.int IntKind.i64 (iv (σ 43))) →
 (0 : Int) ≤ iv (σ 43) →
    (sgC[(iv (σ 43) : Int).toNat]?.map (fun b => (b.toNat : Int)) = some (iv (σ 46))) →
 tv (σ 47) = Utf8.encode (iv (σ 46)) →
 tv (σ 48) = tv (σ 47) ++ tv (σ 23) →
 iv (σ 49) = (iv (σ 22) : Int).fdiv (2 ^ min (p.b : Int).toNat IntKind.i64.bits) →
    ((fitsL [.any, .int .i64, .str, .any, .any, .any, .any, .any, .any, .any, .any, .any, .any, .any, .any, .any, .any, .any, .any, .any, .any] [σ 21,σ 49,σ 48,σ 22,σ 42,σ 42,σ 23, vT, vT,σ 22, (Value.int .i64 p.b),σ 49,σ 22, (Value.int .i64 p.b), (Value.int .i64 p.K), (Value.int .i64 p.M),σ 43,σ 46,σ 47,σ 23,σ 48] → toI p [σ 21,σ 49,σ 48,σ 22,σ 42,σ 42,σ 23, vT, vT,σ 22, (Value.int .i64 p.b),σ 49,σ 22, (Value.int .i64 p.b), (Value.int .i64 p.K), (Value.int .i64 p.M),σ 43,σ 46,σ 47,σ 23,σ 48] → ¬ toIM p [σ 21,σ 49,σ 48,σ 22,σ 42,σ 42,σ 23, vT, vT,σ 22, (Value.int .i64 p.b),σ 49,σ 22, (Value.int .i64 p.b), (Value.int .i64 p.K), (Value.int .i64 p.M),σ 43,σ 46,σ 47,σ 23,σ 48] < toIM p [σ 21,σ 22,σ 23,σ 24,σ 25,σ 26,σ 27,σ 28,σ 29,σ 30,σ 31,σ 32,σ 33,σ 34,σ 35,σ 36,σ 37,σ 38,σ 39,σ 40,σ 41])) →
 iv (σ 43) < 16 →
 0 ≤ iv (σ 43) →
 iv (σ 22) ≤ 0 →
 iv (σ 10) < 0 →
    False
def toR_L6 (p : Par) : Prop := ∀ σ : Nat → Value,
 σ 0 = (Value.string ⟨p.nm⟩) →
 σ 2 = vF →
 σ 3 = vF →
 σ 4 = vO →
 σ 5 = vO →
 σ 7 = vZ →
 σ 8 = vZ →
 σ 9 = vO →
 tI (σ 10) →
 (-p.H) ≤ iv (σ 10) →
 iv (σ 10) ≤ (-1) →
 tF (σ 11) →
 σ 12 = vE →
 σ 13 = vF →
 σ 14 = vZ →
 tU (σ 15) →
 tU (σ 16) →
 tI (σ 18) →
 1 ≤ iv (σ 18) →
 iv (σ 18) ≤ p.H →
 tF (σ 19) →
 σ 20 = (vI 3) →
 tI (σ 21) →
 p.D ≤ iv (σ 21) →
 iv (σ 21) ≤ p.E →
 tI (σ 22) →
 iv (σ 22) ≤ 0 →
 σ 23 = vE →
 tI (σ 43) →
 σ 46 = .int .u8 (iv (σ 46)) →
 0 ≤ iv (σ 46) →
 iv (σ 46) ≤ 255 →
 tS (σ 47) →
 tB (σ 48) →
 fv (σ 11) = nE (iv (σ 10)) →
 extRel .fbits [σ 11] (σ 15) →
 aN (σ 15) (σ 16) →
 iv (σ 18) = 0 - iv (σ 10) →
 fv (σ 19) = nE (iv (σ 18)) →
 ixR [(Value.string ⟨p.nm⟩), (Value.int .u8 50), (vI 3)] →
 iv (σ 21) = iv (σ 10) + p.F →
 toI p [σ 21,σ 22,σ 23,σ 24,σ 25,σ 26,σ 27,σ 28,σ 29,σ 30,σ 31,σ 32,σ 33,σ 34,σ 35,σ 36,σ 37,σ 38,σ 39,σ 40,σ 41] →
 ibin .and IntKind.i64 (iv (σ 22)) (p.M) = some (.int IntKind.i64 (iv (σ 43))) →
 (0 : Int) ≤ iv (σ 43) →
    (sgC[(iv (σ 43) : Int).toNat]?.map (fun b => (b.toNat : Int)) = some (iv (σ 46))) →
 tv (σ 47) = Utf8.encode (iv (σ 46)) →
 IntKind.i64.max < ((((tv (σ 47)).size + (tv (σ 23)).size : Nat)) : Int) →
 iv (σ 43) < 16 →
 0 ≤ iv (σ 43) →
 iv (σ 22) ≤ 0 →
 iv (σ 10) < 0 →
    False
def toR_L7 (p : Par) : Prop := ∀ σ : Nat → Value,
 σ 0 = (Value.string ⟨p.nm⟩) →
 σ 2 = vF →
 σ 3 = vF →
 σ 4 = vO →
 σ 5 = vO →
 σ 7 = vZ →
 σ 8 = vZ →
 σ 9 = vO →
 tI (σ 10) →
 (-p.H) ≤ iv (σ 10) →
 iv (σ 10) ≤ (-1) →
 tF (σ 11) →
 σ 12 = vE →
 σ 13 = vF →
 σ 14 = vZ →
 tU (σ 15) →
 tU (σ 16) →
 tI (σ 18) →
 1 ≤ iv (σ 18) →
 iv (σ 18) ≤ p.H →
 tF (σ 19) →
 σ 20 = (vI 3) →
 tI (σ 21) →
 p.D ≤ iv (σ 21) →
 iv (σ 21) ≤ p.E →
 tI (σ 22) →
 iv (σ 22) ≤ 0 →
 σ 23 = vE →
 tI (σ 43) →
 fv (σ 11) = nE (iv (σ 10)) →
 extRel .fbits [σ 11] (σ 15) →
 aN (σ 15) (σ 16) →
 iv (σ 18) = 0 - iv (σ 10) →
 fv (σ 19) = nE (iv (σ 18)) →
 ixR [(Value.string ⟨p.nm⟩), (Value.int .u8 50), (vI 3)] →
 iv (σ 21) = iv (σ 10) + p.F →
 toI p [σ 21,σ 22,σ 23,σ 24,σ 25,σ 26,σ 27,σ 28,σ 29,σ 30,σ 31,σ 32,σ 33,σ 34,σ 35,σ 36,σ 37,σ 38,σ 39,σ 40,σ 41] →
 ibin .and IntKind.i64 (iv (σ 22)) (p.M) = some (.int IntKind.i64 (iv (σ 43))) →
 iv (σ 43) < 0 →
 iv (σ 22) ≤ 0 →
 iv (σ 10) < 0 →
    False
def toR_L8 (p : Par) : Prop := ∀ σ : Nat → Value,
 σ 0 = (Value.string ⟨p.nm⟩) →
 σ 2 = vF →
 σ 3 = vF →
 σ 4 = vO →
 σ 5 = vO →
 σ 7 = vZ →
 σ 8 = vZ →
 σ 9 = vO →
 tI (σ 10) →
 (-p.H) ≤ iv (σ 10) →
 iv (σ 10) ≤ (-1) →
 tF (σ 11) →
 σ 12 = vE →
 σ 13 = vF →
 σ 14 = vZ →
 tU (σ 15) →
 tU (σ 16) →
 tI (σ 18) →
 1 ≤ iv (σ 18) →
 iv (σ 18) ≤ p.H →
 tF (σ 19) →
 σ 20 = (vI 3) →
 tI (σ 21) →
 p.D ≤ iv (σ 21) →
 iv (σ 21) ≤ p.E →
 tI (σ 22) →
 iv (σ 22) ≤ 0 →
 σ 23 = vE →
 tI (σ 43) →
 fv (σ 11) = nE (iv (σ 10)) →
 extRel .fbits [σ 11] (σ 15) →
 aN (σ 15) (σ 16) →
 iv (σ 18) = 0 - iv (σ 10) →
 fv (σ 19) = nE (iv (σ 18)) →
 ixR [(Value.string ⟨p.nm⟩), (Value.int .u8 50), (vI 3)] →
 iv (σ 21) = iv (σ 10) + p.F →
 toI p [σ 21,σ 22,σ 23,σ 24,σ 25,σ 26,σ 27,σ 28,σ 29,σ 30,σ 31,σ 32,σ 33,σ 34,σ 35,σ 36,σ 37,σ 38,σ 39,σ 40,σ 41] →
 ibin .and IntKind.i64 (iv (σ 22)) (p.M) = some (.int IntKind.i64 (iv (σ 43))) →
 16 ≤ iv (σ 43) →
 0 ≤ iv (σ 43) →
 iv (σ 22) ≤ 0 →
 iv (σ 10) < 0 →
    False
def toR_L9 (p : Par) : Prop := ∀ σ : Nat → Value,
 σ 0 = (Value.string ⟨p.nm⟩) →
 σ 2 = vF →
 σ 3 = vF →
 σ 4 = vO →
 σ 5 = vO →
 σ 7 = vZ →
 σ 8 = vZ →
 σ 9 = vO →
 tI (σ 10) →
 (-p.H) ≤ iv (σ 10) →
 iv (σ 10) ≤ (-1) →
 tF (σ 11) →
 σ 12 = vE →
 σ 13 = vF →
 σ 14 = vZ →
 tU (σ 15) →
 tU (σ 16) →
 tI (σ 18) →
 1 ≤ iv (σ 18) →
 iv (σ 18) ≤ p.H →
 tF (σ 19) →
 σ 20 = (vI 3) →
 tI (σ 21) →
 p.D ≤ iv (σ 21) →
 iv (σ 21) ≤ p.E →
 tI (σ 22) →
 iv (σ 22) ≤ 0 →
 tS (σ 23) →
    (∀ x ∈ ([⟨#[]⟩] : List ByteArray), (tv (σ 23)).toList ≠ x.toList) →
 tI (σ 43) →
 32769 ≤ iv (σ 43) →
 fv (σ 11) = nE (iv (σ 10)) →
 extRel .fbits [σ 11] (σ 15) →
 aN (σ 15) (σ 16) →
 iv (σ 18) = 0 - iv (σ 10) →
 fv (σ 19) = nE (iv (σ 18)) →
 ixR [(Value.string ⟨p.nm⟩), (Value.int .u8 50), (vI 3)] →
 iv (σ 21) = iv (σ 10) + p.F →
 toI p [σ 21,σ 22,σ 23,σ 24,σ 25,σ 26,σ 27,σ 28,σ 29,σ 30,σ 31,σ 32,σ 33,σ 34,σ 35,σ 36,σ 37,σ 38,σ 39,σ 40,σ 41] →
 iv (σ 43) = ((tv (σ 23)).size : Nat) →
 32768 < iv (σ 43) →
 bv (σ 44) = !true →
 iv (σ 22) ≤ 0 →
 iv (σ 10) < 0 →
    False
def toR_L10 (p : Par) : Prop := ∀ σ : Nat → Value,
 σ 0 = (Value.string ⟨p.nm⟩) →
 σ 2 = vF →
 σ 3 = vF →
 σ 4 = vO →
 σ 5 = vO →
 σ 7 = vZ →
 σ 8 = vZ →
 σ 9 = vO →
 tI (σ 10) →
 (-p.H) ≤ iv (σ 10) →
 iv (σ 10) ≤ (-1) →
 tF (σ 11) →
 σ 12 = vE →
 σ 13 = vF →
 σ 14 = vZ →
 tU (σ 15) →
 tU (σ 16) →
 tI (σ 18) →
 1 ≤ iv (σ 18) →
 iv (σ 18) ≤ p.H →
 tF (σ 19) →
 σ 20 = (vI 3) →
 tI (σ 21) →
 p.D ≤ iv (σ 21) →
 iv (σ 21) ≤ p.E →
 tI (σ 22) →
 iv (σ 22) ≤ 0 →
 tS (σ 23) →
    (∀ x ∈ ([⟨#[]⟩] : List ByteArray), (tv (σ 23)).toList ≠ x.toList) →
 tI (σ 43) →
 0 ≤ iv (σ 43) →
 iv (σ 43) ≤ 32768 →
 fv (σ 11) = nE (iv (σ 10)) →
 extRel .fbits [σ 11] (σ 15) →
 aN (σ 15) (σ 16) →
 iv (σ 18) = 0 - iv (σ 10) →
 fv (σ 19) = nE (iv (σ 18)) →
 ixR [(Value.string ⟨p.nm⟩), (Value.int .u8 50), (vI 3)] →
 iv (σ 21) = iv (σ 10) + p.F →
 toI p [σ 21,σ 22,σ 23,σ 24,σ 25,σ 26,σ 27,σ 28,σ 29,σ 30,σ 31,σ 32,σ 33,σ 34,σ 35,σ 36,σ 37,σ 38,σ 39,σ 40,σ 41] →
 iv (σ 43) = ((tv (σ 23)).size : Nat) →
 iv (σ 43) ≤ 32768 →
 bv (σ 44) = !false →
 iv (σ 22) ≤ 0 →
 iv (σ 10) < 0 →
    toR p [(Value.string ⟨p.nm⟩),vU, vF, vF, vO, vO,vU,vZ,vZ, vO,σ 10,σ 11, vE, vF,vZ, (vI 2), (vG 0),σ 23, vF,vZ, vT]
def toR_L11 (p : Par) : Prop := ∀ σ : Nat → Value,
 σ 0 = (Value.string ⟨p.nm⟩) →
 σ 2 = vF →
 σ 3 = vF →
 σ 4 = vO →
 σ 5 = vO →
 σ 7 = vZ →
 σ 8 = vZ →
 σ 9 = vO →
 tI (σ 10) →
 0 ≤ iv (σ 10) →
 iv (σ 10) ≤ 0 →
 tF (σ 11) →
 σ 12 = vE →
 σ 13 = vF →
 σ 14 = vZ →
 tU (σ 15) →
 tU (σ 16) →
 σ 19 = (vI 3) →
 fv (σ 11) = nE (iv (σ 10)) →
 extRel .fbits [σ 11] (σ 15) →
 aN (σ 15) (σ 16) →
 ixR [(Value.string ⟨p.nm⟩), (Value.int .u8 50), (vI 3)] →
    ((fitsL [.any, .str, .any, .any, .any, .any, .any, .any, .any, .any, .any, .any, .any, .any, .any, .any, .any, .any, .any, .any] [vZ, vE,vU,vU,vU,vU,vU,vU,vU,vU,vU,vU,vU,vU,vU,vU,vU,vU,vU,vU] → ¬ toI p [vZ, vE,vU,vU,vU,vU,vU,vU,vU,vU,vU,vU,vU,vU,vU,vU,vU,vU,vU,vU])) →
 iv (σ 10) = 0 →
 0 ≤ iv (σ 10) →
    False
def toR_L12 (p : Par) : Prop := ∀ σ : Nat → Value,
 σ 0 = (Value.string ⟨p.nm⟩) →
 σ 2 = vF →
 σ 3 = vF →
 σ 4 = vO →
 σ 5 = vO →
 σ 7 = vZ →
 σ 8 = vZ →
 σ 9 = vO →
 tI (σ 10) →
 0 ≤ iv (σ 10) →
 iv (σ 10) ≤ 0 →
 tF (σ 11) →
 σ 12 = vE →
 σ 13 = vF →
 σ 14 = vZ →
 tU (σ 15) →
 tU (σ 16) →
 σ 19 = (vI 3) →
 σ 20 = vE →
 tS (σ 39) →
 fv (σ 11) = nE (iv (σ 10)) →
 extRel .fbits [σ 11] (σ 15) →
 aN (σ 15) (σ 16) →
 ixR [(Value.string ⟨p.nm⟩), (Value.int .u8 50), (vI 3)] →
 toI p [vZ,σ 20,σ 21,σ 22,σ 23,σ 24,σ 25,σ 26,σ 27,σ 28,σ 29,σ 30,σ 31,σ 32,σ 33,σ 34,σ 35,σ 36,σ 37,σ 38] →
 tv (σ 39) = (⟨#[48]⟩ : ByteArray) ++ tv (σ 20) →
    ((fitsL [.any, .str, .any, .any, .any, .any, .any, .any, .any, .any, .any, .any, .any, .any, .any, .any, .any, .any, .any, .any] [vZ,σ 39,vZ, vF, vF,σ 20, vT, vT,vZ, (Value.int .i64 p.b),vZ,vZ, (Value.int .i64 p.b), (Value.int .i64 p.K), (Value.int .i64 p.M),vZ, (Value.int .u8 48), (vS #[48]),σ 20,σ 39] → toI p [vZ,σ 39,vZ, vF, vF,σ 20, vT, vT,vZ, (Value.int .i64 p.b),vZ,vZ, (Value.int .i64 p.b), (Value.int .i64 p.K), (Value.int .i64 p.M),vZ, (Value.int .u8 48), (vS #[48]),σ 20,σ 39] → ¬ toIM p [vZ,σ 39,vZ, vF, vF,σ 20, vT, vT,vZ, (Value.int .i64 p.b),vZ,vZ, (Value.int .i64 p.b), (Value.int .i64 p.K), (Value.int .i64 p.M),vZ, (Value.int .u8 48), (vS #[48]),σ 20,σ 39] < toIM p [vZ,σ 20,σ 21,σ 22,σ 23,σ 24,σ 25,σ 26,σ 27,σ 28,σ 29,σ 30,σ 31,σ 32,σ 33,σ 34,σ 35,σ 36,σ 37,σ 38])) →
 iv (σ 10) = 0 →
 0 ≤ iv (σ 10) →
    False
def toR_L13 (p : Par) : Prop := ∀ σ : Nat → Value,
 σ 0 = (Value.string ⟨p.nm⟩) →
 σ 2 = vF →
 σ 3 = vF →
 σ 4 = vO →
 σ 5 = vO →
 σ 7 = vZ →
 σ 8 = vZ →
 σ 9 = vO →
 tI (σ 10) →
 0 ≤ iv (σ 10) →
 iv (σ 10) ≤ 0 →
 tF (σ 11) →
 σ 12 = vE →
 σ 13 = vF →
 σ 14 = vZ →
 tU (σ 15) →
 tU (σ 16) →
 σ 19 = (vI 3) →
 σ 20 = vE →
 tB (σ 39) →
 fv (σ 11) = nE (iv (σ 10)) →
 extRel .fbits [σ 11] (σ 15) →
 aN (σ 15) (σ 16) →
 ixR [(Value.string ⟨p.nm⟩), (Value.int .u8 50), (vI 3)] →
 toI p [vZ,σ 20,σ 21,σ 22,σ 23,σ 24,σ 25,σ 26,σ 27,σ 28,σ 29,σ 30,σ 31,σ 32,σ 33,σ 34,σ 35,σ 36,σ 37,σ 38] →
 IntKind.i64.max < (((((⟨#[48]⟩ : ByteArray)).size + (tv (σ 20)).size : Nat)) : Int) →
 iv (σ 10) = 0 →
 0 ≤ iv (σ 10) →
    False
def toR_L14 (p : Par) : Prop := ∀ σ : Nat → Value,
 σ 0 = (Value.string ⟨p.nm⟩) →
 σ 2 = vF →
 σ 3 = vF →
 σ 4 = vO →
 σ 5 = vO →
 σ 7 = vZ →
 σ 8 = vZ →
 σ 9 = vO →
 tI (σ 10) →
 0 ≤ iv (σ 10) →
 iv (σ 10) ≤ 0 →
 tF (σ 11) →
 σ 12 = vE →
 σ 13 = vF →
 σ 14 = vZ →
 tU (σ 15) →
 tU (σ 16) →
 σ 19 = (vI 3) →
 tS (σ 20) →
    (∀ x ∈ ([⟨#[]⟩] : List ByteArray), (tv (σ 20)).toList ≠ x.toList) →
 tI (σ 39) →
 0 ≤ iv (σ 39) →
 tI (σ 40) →
 1 ≤ iv (σ 40) →
 tS (σ 42) →
 tS (σ 43) →
 tI (σ 44) →
 32769 ≤ iv (σ 44) →
 fv (σ 11) = nE (iv (σ 10)) →
 extRel .fbits [σ 11] (σ 15) →
 aN (σ 15) (σ 16) →
 ixR [(Value.string ⟨p.nm⟩), (Value.int .u8 50), (vI 3)] →
 toI p [vZ,σ 20,σ 21,σ 22,σ 23,σ 24,σ 25,σ 26,σ 27,σ 28,σ 29,σ 30,σ 31,σ 32,σ 33,σ 34,σ 35,σ 36,σ 37,σ 38] →
 iv (σ 39) = ((tv (σ 20)).size : Nat) →
 iv (σ 40) = IntKind.i64.wrap (0 - iv (σ 39)) →
 rptR [(vS #[48]),σ 40,σ 42] →
 tv (σ 43) = tv (σ 42) ++ tv (σ 20) →
 iv (σ 44) = ((tv (σ 43)).size : Nat) →
 32768 < iv (σ 44) →
 bv (σ 45) = !true →
 0 < iv (σ 40) →
 iv (σ 10) = 0 →
 0 ≤ iv (σ 10) →
    False
def toR_L15 (p : Par) : Prop := ∀ σ : Nat → Value,
 σ 0 = (Value.string ⟨p.nm⟩) →
 σ 2 = vF →
 σ 3 = vF →
 σ 4 = vO →
 σ 5 = vO →
 σ 7 = vZ →
 σ 8 = vZ →
 σ 9 = vO →
 tI (σ 10) →
 0 ≤ iv (σ 10) →
 iv (σ 10) ≤ 0 →
 tF (σ 11) →
 σ 12 = vE →
 σ 13 = vF →
 σ 14 = vZ →
 tU (σ 15) →
 tU (σ 16) →
 σ 19 = (vI 3) →
 tS (σ 20) →
    (∀ x ∈ ([⟨#[]⟩] : List ByteArray), (tv (σ 20)).toList ≠ x.toList) →
 tI (σ 39) →
 0 ≤ iv (σ 39) →
 tI (σ 40) →
 1 ≤ iv (σ 40) →
 tS (σ 42) →
 tS (σ 43) →
 tI (σ 44) →
 0 ≤ iv (σ 44) →
 iv (σ 44) ≤ 32768 →
 fv (σ 11) = nE (iv (σ 10)) →
 extRel .fbits [σ 11] (σ 15) →
 aN (σ 15) (σ 16) →
 ixR [(Value.string ⟨p.nm⟩), (Value.int .u8 50), (vI 3)] →
 toI p [vZ,σ 20,σ 21,σ 22,σ 23,σ 24,σ 25,σ 26,σ 27,σ 28,σ 29,σ 30,σ 31,σ 32,σ 33,σ 34,σ 35,σ 36,σ 37,σ 38] →
 iv (σ 39) = ((tv (σ 20)).size : Nat) →
 iv (σ 40) = IntKind.i64.wrap (0 - iv (σ 39)) →
 rptR [(vS #[48]),σ 40,σ 42] →
 tv (σ 43) = tv (σ 42) ++ tv (σ 20) →
 iv (σ 44) = ((tv (σ 43)).size : Nat) →
 iv (σ 44) ≤ 32768 →
 bv (σ 45) = !false →
 0 < iv (σ 40) →
 iv (σ 10) = 0 →
 0 ≤ iv (σ 10) →
    toR p [(Value.string ⟨p.nm⟩),vU, vF, vF, vO, vO,vU,vZ,vZ, vO,σ 10,σ 11, vE, vF,vZ, (vI 2), (vG 0),σ 43, vF,vZ, vT]
def toR_L16 (p : Par) : Prop := ∀ σ : Nat → Value,
 σ 0 = (Value.string ⟨p.nm⟩) →
 σ 2 = vF →
 σ 3 = vF →
 σ 4 = vO →
 σ 5 = vO →
 σ 7 = vZ →
 σ 8 = vZ →
 σ 9 = vO →
 tI (σ 10) →
 0 ≤ iv (σ 10) →
 iv (σ 10) ≤ 0 →
 tF (σ 11) →
 σ 12 = vE →
 σ 13 = vF →
 σ 14 = vZ →
 tU (σ 15) →
 tU (σ 16) →
 σ 19 = (vI 3) →
 tS (σ 20) →
    (∀ x ∈ ([⟨#[]⟩] : List ByteArray), (tv (σ 20)).toList ≠ x.toList) →
 tI (σ 39) →
 0 ≤ iv (σ 39) →
 tI (σ 40) →
 1 ≤ iv (σ 40) →
 tS (σ 42) →
 tB (σ 43) →
 fv (σ 11) = nE (iv (σ 10)) →
 extRel .fbits [σ 11] (σ 15) →
 aN (σ 15) (σ 16) →
 ixR [(Value.string ⟨p.nm⟩), (Value.int .u8 50), (vI 3)] →
 toI p [vZ,σ 20,σ 21,σ 22,σ 23,σ 24,σ 25,σ 26,σ 27,σ 28,σ 29,σ 30,σ 31,σ 32,σ 33,σ 34,σ 35,σ 36,σ 37,σ 38] →
 iv (σ 39) = ((tv (σ 20)).size : Nat) →
 iv (σ 40) = IntKind.i64.wrap (0 - iv (σ 39)) →
 rptR [(vS #[48]),σ 40,σ 42] →
 IntKind.i64.max < ((((tv (σ 42)).size + (tv (σ 20)).size : Nat)) : Int) →
 0 < iv (σ 40) →
 iv (σ 10) = 0 →
 0 ≤ iv (σ 10) →
    False
def toR_L17 (p : Par) : Prop := ∀ σ : Nat → Value,
 σ 0 = (Value.string ⟨p.nm⟩) →
 σ 2 = vF →
 σ 3 = vF →
 σ 4 = vO →
 σ 5 = vO →
 σ 7 = vZ →
 σ 8 = vZ →
 σ 9 = vO →
 tI (σ 10) →
 0 ≤ iv (σ 10) →
 iv (σ 10) ≤ 0 →
 tF (σ 11) →
 σ 12 = vE →
 σ 13 = vF →
 σ 14 = vZ →
 tU (σ 15) →
 tU (σ 16) →
 σ 19 = (vI 3) →
 tS (σ 20) →
    (∀ x ∈ ([⟨#[]⟩] : List ByteArray), (tv (σ 20)).toList ≠ x.toList) →
 tI (σ 39) →
 0 ≤ iv (σ 39) →
 tI (σ 40) →
 1 ≤ iv (σ 40) →
 fv (σ 11) = nE (iv (σ 10)) →
 extRel .fbits [σ 11] (σ 15) →
 aN (σ 15) (σ 16) →
 ixR [(Value.string ⟨p.nm⟩), (Value.int .u8 50), (vI 3)] →
 toI p [vZ,σ 20,σ 21,σ 22,σ 23,σ 24,σ 25,σ 26,σ 27,σ 28,σ 29,σ 30,σ 31,σ 32,σ 33,σ 34,σ 35,σ 36,σ 37,σ 38] →
 iv (σ 39) = ((tv (σ 20)).size : Nat) →
 iv (σ 40) = IntKind.i64.wrap (0 - iv (σ 39)) →
 ¬ rptRPre [(vS #[48]),σ 40] →
 0 < iv (σ 40) →
 iv (σ 10) = 0 →
 0 ≤ iv (σ 10) →
    False
def toR_L18 (p : Par) : Prop := ∀ σ : Nat → Value,
 σ 0 = (Value.string ⟨p.nm⟩) →
 σ 2 = vF →
 σ 3 = vF →
 σ 4 = vO →
 σ 5 = vO →
 σ 7 = vZ →
 σ 8 = vZ →
 σ 9 = vO →
 tI (σ 10) →
 0 ≤ iv (σ 10) →
 iv (σ 10) ≤ 0 →
 tF (σ 11) →
 σ 12 = vE →
 σ 13 = vF →
 σ 14 = vZ →
 tU (σ 15) →
 tU (σ 16) →
 σ 19 = (vI 3) →
 tS (σ 20) →
    (∀ x ∈ ([⟨#[]⟩] : List ByteArray), (tv (σ 20)).toList ≠ x.toList) →
 tI (σ 39) →
 0 ≤ iv (σ 39) →
 tI (σ 40) →
 iv (σ 40) ≤ 0 →
 tS (σ 42) →
 tS (σ 43) →
 tI (σ 44) →
 32769 ≤ iv (σ 44) →
 fv (σ 11) = nE (iv (σ 10)) →
 extRel .fbits [σ 11] (σ 15) →
 aN (σ 15) (σ 16) →
 ixR [(Value.string ⟨p.nm⟩), (Value.int .u8 50), (vI 3)] →
 toI p [vZ,σ 20,σ 21,σ 22,σ 23,σ 24,σ 25,σ 26,σ 27,σ 28,σ 29,σ 30,σ 31,σ 32,σ 33,σ 34,σ 35,σ 36,σ 37,σ 38] →
 iv (σ 39) = ((tv (σ 20)).size : Nat) →
 iv (σ 40) = IntKind.i64.wrap (0 - iv (σ 39)) →
 rptR [(vS #[48]),vZ,σ 42] →
 tv (σ 43) = tv (σ 42) ++ tv (σ 20) →
 iv (σ 44) = ((tv (σ 43)).size : Nat) →
 32768 < iv (σ 44) →
 bv (σ 45) = !true →
 iv (σ 40) ≤ 0 →
 iv (σ 10) = 0 →
 0 ≤ iv (σ 10) →
    False
def toR_L19 (p : Par) : Prop := ∀ σ : Nat → Value,
 σ 0 = (Value.string ⟨p.nm⟩) →
 σ 2 = vF →
 σ 3 = vF →
 σ 4 = vO →
 σ 5 = vO →
 σ 7 = vZ →
 σ 8 = vZ →
 σ 9 = vO →
 tI (σ 10) →
 0 ≤ iv (σ 10) →
 iv (σ 10) ≤ 0 →
 tF (σ 11) →
 σ 12 = vE →
 σ 13 = vF →
 σ 14 = vZ →
 tU (σ 15) →
 tU (σ 16) →
 σ 19 = (vI 3) →
 tS (σ 20) →
    (∀ x ∈ ([⟨#[]⟩] : List ByteArray), (tv (σ 20)).toList ≠ x.toList) →
 tI (σ 39) →
 0 ≤ iv (σ 39) →
 tI (σ 40) →
 iv (σ 40) ≤ 0 →
 tS (σ 42) →
 tS (σ 43) →
 tI (σ 44) →
 0 ≤ iv (σ 44) →
 iv (σ 44) ≤ 32768 →
 fv (σ 11) = nE (iv (σ 10)) →
 extRel .fbits [σ 11] (σ 15) →
 aN (σ 15) (σ 16) →
 ixR [(Value.string ⟨p.nm⟩), (Value.int .u8 50), (vI 3)] →
 toI p [vZ,σ 20,σ 21,σ 22,σ 23,σ 24,σ 25,σ 26,σ 27,σ 28,σ 29,σ 30,σ 31,σ 32,σ 33,σ 34,σ 35,σ 36,σ 37,σ 38] →
 iv (σ 39) = ((tv (σ 20)).size : Nat) →
 iv (σ 40) = IntKind.i64.wrap (0 - iv (σ 39)) →
 rptR [(vS #[48]),vZ,σ 42] →
 tv (σ 43) = tv (σ 42) ++ tv (σ 20) →
 iv (σ 44) = ((tv (σ 43)).size : Nat) →
 iv (σ 44) ≤ 32768 →
 bv (σ 45) = !false →
 iv (σ 40) ≤ 0 →
 iv (σ 10) = 0 →
 0 ≤ iv (σ 10) →
    toR p [(Value.string ⟨p.nm⟩),vU, vF, vF, vO, vO,vU,vZ,vZ, vO,σ 10,σ 11, vE, vF,vZ, (vI 2), (vG 0),σ 43, vF,vZ, vT]
def toR_L20 (p : Par) : Prop := ∀ σ : Nat → Value,
 σ 0 = (Value.string ⟨p.nm⟩) →
 σ 2 = vF →
 σ 3 = vF →
 σ 4 = vO →
 σ 5 = vO →
 σ 7 = vZ →
 σ 8 = vZ →
 σ 9 = vO →
 tI (σ 10) →
 0 ≤ iv (σ 10) →
 iv (σ 10) ≤ 0 →
 tF (σ 11) →
 σ 12 = vE →
 σ 13 = vF →
 σ 14 = vZ →
 tU (σ 15) →
 tU (σ 16) →
 σ 19 = (vI 3) →
 tS (σ 20) →
    (∀ x ∈ ([⟨#[]⟩] : List ByteArray), (tv (σ 20)).toList ≠ x.toList) →
 tI (σ 39) →
 0 ≤ iv (σ 39) →
 tI (σ 40) →
 iv (σ 40) ≤ 0 →
 tS (σ 42) →
 tB (σ 43) →
 fv (σ 11) = nE (iv (σ 10)) →
 extRel .fbits [σ 11] (σ 15) →
 aN (σ 15) (σ 16) →
 ixR [(Value.string ⟨p.nm⟩), (Value.int .u8 50), (vI 3)] →
 toI p [vZ,σ 20,σ 21,σ 22,σ 23,σ 24,σ 25,σ 26,σ 27,σ 28,σ 29,σ 30,σ 31,σ 32,σ 33,σ 34,σ 35,σ 36,σ 37,σ 38] →
 iv (σ 39) = ((tv (σ 20)).size : Nat) →
 iv (σ 40) = IntKind.i64.wrap (0 - iv (σ 39)) →
 rptR [(vS #[48]),vZ,σ 42] →
 IntKind.i64.max < ((((tv (σ 42)).size + (tv (σ 20)).size : Nat)) : Int) →
 iv (σ 40) ≤ 0 →
 iv (σ 10) = 0 →
 0 ≤ iv (σ 10) →
    False
def toR_L21 (p : Par) : Prop := ∀ σ : Nat → Value,
 σ 0 = (Value.string ⟨p.nm⟩) →
 σ 2 = vF →
 σ 3 = vF →
 σ 4 = vO →
 σ 5 = vO →
 σ 7 = vZ →
 σ 8 = vZ →
 σ 9 = vO →
 tI (σ 10) →
 0 ≤ iv (σ 10) →
 iv (σ 10) ≤ 0 →
 tF (σ 11) →
 σ 12 = vE →
 σ 13 = vF →
 σ 14 = vZ →
 tU (σ 15) →
 tU (σ 16) →
 σ 19 = (vI 3) →
 tS (σ 20) →
    (∀ x ∈ ([⟨#[]⟩] : List ByteArray), (tv (σ 20)).toList ≠ x.toList) →
 tI (σ 39) →
 0 ≤ iv (σ 39) →
 tI (σ 40) →
 iv (σ 40) ≤ 0 →
 fv (σ 11) = nE (iv (σ 10)) →
 extRel .fbits [σ 11] (σ 15) →
 aN (σ 15) (σ 16) →
 ixR [(Value.string ⟨p.nm⟩), (Value.int .u8 50), (vI 3)] →
 toI p [vZ,σ 20,σ 21,σ 22,σ 23,σ 24,σ 25,σ 26,σ 27,σ 28,σ 29,σ 30,σ 31,σ 32,σ 33,σ 34,σ 35,σ 36,σ 37,σ 38] →
 iv (σ 39) = ((tv (σ 20)).size : Nat) →
 iv (σ 40) = IntKind.i64.wrap (0 - iv (σ 39)) →
 ¬ rptRPre [(vS #[48]),vZ] →
 iv (σ 40) ≤ 0 →
 iv (σ 10) = 0 →
 0 ≤ iv (σ 10) →
    False
def toR_L22 (p : Par) : Prop := ∀ σ : Nat → Value,
 σ 0 = (Value.string ⟨p.nm⟩) →
 σ 2 = vF →
 σ 3 = vF →
 σ 4 = vO →
 σ 5 = vO →
 σ 7 = vZ →
 σ 8 = vZ →
 σ 9 = vO →
 tI (σ 10) →
 1 ≤ iv (σ 10) →
 iv (σ 10) ≤ p.H →
 tF (σ 11) →
 σ 12 = vE →
 σ 13 = vF →
 σ 14 = vZ →
 tU (σ 15) →
 tU (σ 16) →
 σ 19 = (vI 3) →
 fv (σ 11) = nE (iv (σ 10)) →
 extRel .fbits [σ 11] (σ 15) →
 aN (σ 15) (σ 16) →
 ixR [(Value.string ⟨p.nm⟩), (Value.int .u8 50), (vI 3)] →
    ((fitsL [.any, .int .i64, .str, .any, .any, .any, .any, .any, .any, .any, .any, .any, .any, .any, .any, .any, .any, .any, .any, .any, .any] [σ 10,σ 10, vE,vU,vU,vU,vU,vU,vU,vU,vU,vU,vU,vU,vU,vU,vU,vU,vU,vU,vU] → ¬ toI p [σ 10,σ 10, vE,vU,vU,vU,vU,vU,vU,vU,vU,vU,vU,vU,vU,vU,vU,vU,vU,vU,vU])) →
 iv (σ 10) ≠ 0 →
 0 ≤ iv (σ 10) →
    False
def toR_L23 (p : Par) : Prop := ∀ σ : Nat → Value,
 σ 0 = (Value.string ⟨p.nm⟩) →
 σ 2 = vF →
 σ 3 = vF →
 σ 4 = vO →
 σ 5 = vO →
 σ 7 = vZ →
 σ 8 = vZ →
 σ 9 = vO →
 tI (σ 10) →
 1 ≤ iv (σ 10) →
 iv (σ 10) ≤ p.H →
 tF (σ 11) →
 σ 12 = vE →
 σ 13 = vF →
 σ 14 = vZ →
 tU (σ 15) →
 tU (σ 16) →
 σ 19 = (vI 3) →
 tI (σ 20) →
 1 ≤ iv (σ 20) →
 tS (σ 21) →
 tI (σ 41) →
 σ 44 = .int .u8 (iv (σ 44)) →
 0 ≤ iv (σ 44) →
 iv (σ 44) ≤ 255 →
 tS (σ 45) →
 tS (σ 46) →
 tI (σ 47) →
 fv (σ 11) = nE (iv (σ 10)) →
 extRel .fbits [σ 11] (σ 15) →
 aN (σ 15) (σ 16) →
 ixR [(Value.string ⟨p.nm⟩), (Value.int .u8 50), (vI 3)] →
 toI p [σ 10,σ 20,σ 21,σ 22,σ 23,σ 24,σ 25,σ 26,σ 27,σ 28,σ 29,σ 30,σ 31,σ 32,σ 33,σ 34,σ 35,σ 36,σ 37,σ 38,σ 39] →
 ibin .and IntKind.i64 (iv (σ 20)) (p.M) = some (.int IntKind.i64 (iv (σ 41))) →
 (0 : Int) ≤ iv (σ 41) →
    (sgC[(iv (σ 41) : Int).toNat]?.map (fun b => (b.toNat : Int)) = some (iv (σ 44))) →
 tv (σ 45) = Utf8.encode (iv (σ 44)) →
 tv (σ 46) = tv (σ 45) ++ tv (σ 21) →
 iv (σ 47) = (iv (σ 20) : Int).fdiv (2 ^ min (p.b : Int).toNat IntKind.i64.bits) →
    ((fitsL [.any, .int .i64, .str, .any, .any, .any, .any, .any, .any, .any, .any, .any, .any, .any, .any, .any, .any, .any, .any, .any, .any] [σ 10,σ 47,σ 46,σ 20,σ 40,σ 40,vU,vU, vT,σ 20, (Value.int .i64 p.b),σ 47,σ 20, (Value.int .i64 p.b), (Value.int .i64 p.K), (Value.int .i64 p.M),σ 41,σ 44,σ 45,σ 21,σ 46] → toI p [σ 10,σ 47,σ 46,σ 20,σ 40,σ 40,vU,vU, vT,σ 20, (Value.int .i64 p.b),σ 47,σ 20, (Value.int .i64 p.b), (Value.int .i64 p.K), (Value.int .i64 p.M),σ 41,σ 44,σ 45,σ 21,σ 46] → ¬ toIM p [σ 10,σ 47,σ 46,σ 20,σ 40,σ 40,vU,vU, vT,σ 20, (Value.int .i64 p.b),σ 47,σ 20, (Value.int .i64 p.b), (Value.int .i64 p.K), (Value.int .i64 p.M),σ 41,σ 44,σ 45,σ 21,σ 46] < toIM p [σ 10,σ 20,σ 21,σ 22,σ 23,σ 24,σ 25,σ 26,σ 27,σ 28,σ 29,σ 30,σ 31,σ 32,σ 33,σ 34,σ 35,σ 36,σ 37,σ 38,σ 39])) →
 iv (σ 41) < 16 →
 0 ≤ iv (σ 41) →
 0 < iv (σ 20) →
 iv (σ 10) ≠ 0 →
 0 ≤ iv (σ 10) →
    False
def toR_L24 (p : Par) : Prop := ∀ σ : Nat → Value,
 σ 0 = (Value.string ⟨p.nm⟩) →
 σ 2 = vF →
 σ 3 = vF →
 σ 4 = vO →
 σ 5 = vO →
 σ 7 = vZ →
 σ 8 = vZ →
 σ 9 = vO →
 tI (σ 10) →
 1 ≤ iv (σ 10) →
 iv (σ 10) ≤ p.H →
 tF (σ 11) →
 σ 12 = vE →
 σ 13 = vF →
 σ 14 = vZ →
 tU (σ 15) →
 tU (σ 16) →
 σ 19 = (vI 3) →
 tI (σ 20) →
 1 ≤ iv (σ 20) →
 tS (σ 21) →
 tI (σ 41) →
 σ 44 = .int .u8 (iv (σ 44)) →
 0 ≤ iv (σ 44) →
 iv (σ 44) ≤ 255 →
 tS (σ 45) →
 tB (σ 46) →
 fv (σ 11) = nE (iv (σ 10)) →
 extRel .fbits [σ 11] (σ 15) →
 aN (σ 15) (σ 16) →
 ixR [(Value.string ⟨p.nm⟩), (Value.int .u8 50), (vI 3)] →
 toI p [σ 10,σ 20,σ 21,σ 22,σ 23,σ 24,σ 25,σ 26,σ 27,σ 28,σ 29,σ 30,σ 31,σ 32,σ 33,σ 34,σ 35,σ 36,σ 37,σ 38,σ 39] →
 ibin .and IntKind.i64 (iv (σ 20)) (p.M) = some (.int IntKind.i64 (iv (σ 41))) →
 (0 : Int) ≤ iv (σ 41) →
    (sgC[(iv (σ 41) : Int).toNat]?.map (fun b => (b.toNat : Int)) = some (iv (σ 44))) →
 tv (σ 45) = Utf8.encode (iv (σ 44)) →
 IntKind.i64.max < ((((tv (σ 45)).size + (tv (σ 21)).size : Nat)) : Int) →
 iv (σ 41) < 16 →
 0 ≤ iv (σ 41) →
 0 < iv (σ 20) →
 iv (σ 10) ≠ 0 →
 0 ≤ iv (σ 10) →
    False
def toR_L25 (p : Par) : Prop := ∀ σ : Nat → Value,
 σ 0 = (Value.string ⟨p.nm⟩) →
 σ 2 = vF →
 σ 3 = vF →
 σ 4 = vO →
 σ 5 = vO →
 σ 7 = vZ →
 σ 8 = vZ →
 σ 9 = vO →
 tI (σ 10) →
 1 ≤ iv (σ 10) →
 iv (σ 10) ≤ p.H →
 tF (σ 11) →
 σ 12 = vE →
 σ 13 = vF →
 σ 14 = vZ →
 tU (σ 15) →
 tU (σ 16) →
 σ 19 = (vI 3) →
 tI (σ 20) →
 1 ≤ iv (σ 20) →
 tS (σ 21) →
 tI (σ 41) →
 fv (σ 11) = nE (iv (σ 10)) →
 extRel .fbits [σ 11] (σ 15) →
 aN (σ 15) (σ 16) →
 ixR [(Value.string ⟨p.nm⟩), (Value.int .u8 50), (vI 3)] →
 toI p [σ 10,σ 20,σ 21,σ 22,σ 23,σ 24,σ 25,σ 26,σ 27,σ 28,σ 29,σ 30,σ 31,σ 32,σ 33,σ 34,σ 35,σ 36,σ 37,σ 38,σ 39] →
 ibin .and IntKind.i64 (iv (σ 20)) (p.M) = some (.int IntKind.i64 (iv (σ 41))) →
 iv (σ 41) < 0 →
 0 < iv (σ 20) →
 iv (σ 10) ≠ 0 →
 0 ≤ iv (σ 10) →
    False
def toR_L26 (p : Par) : Prop := ∀ σ : Nat → Value,
 σ 0 = (Value.string ⟨p.nm⟩) →
 σ 2 = vF →
 σ 3 = vF →
 σ 4 = vO →
 σ 5 = vO →
 σ 7 = vZ →
 σ 8 = vZ →
 σ 9 = vO →
 tI (σ 10) →
 1 ≤ iv (σ 10) →
 iv (σ 10) ≤ p.H →
 tF (σ 11) →
 σ 12 = vE →
 σ 13 = vF →
 σ 14 = vZ →
 tU (σ 15) →
 tU (σ 16) →
 σ 19 = (vI 3) →
 tI (σ 20) →
 1 ≤ iv (σ 20) →
 tS (σ 21) →
 tI (σ 41) →
 fv (σ 11) = nE (iv (σ 10)) →
 extRel .fbits [σ 11] (σ 15) →
 aN (σ 15) (σ 16) →
 ixR [(Value.string ⟨p.nm⟩), (Value.int .u8 50), (vI 3)] →
 toI p [σ 10,σ 20,σ 21,σ 22,σ 23,σ 24,σ 25,σ 26,σ 27,σ 28,σ 29,σ 30,σ 31,σ 32,σ 33,σ 34,σ 35,σ 36,σ 37,σ 38,σ 39] →
 ibin .and IntKind.i64 (iv (σ 20)) (p.M) = some (.int IntKind.i64 (iv (σ 41))) →
 16 ≤ iv (σ 41) →
 0 ≤ iv (σ 41) →
 0 < iv (σ 20) →
 iv (σ 10) ≠ 0 →
 0 ≤ iv (σ 10) →
    False
def toR_L27 (p : Par) : Prop := ∀ σ : Nat → Value,
 σ 0 = (Value.string ⟨p.nm⟩) →
 σ 2 = vF →
 σ 3 = vF →
 σ 4 = vO →
 σ 5 = vO →
 σ 7 = vZ →
 σ 8 = vZ →
 σ 9 = vO →
 tI (σ 10) →
 1 ≤ iv (σ 10) →
 iv (σ 10) ≤ p.H →
 tF (σ 11) →
 σ 12 = vE →
 σ 13 = vF →
 σ 14 = vZ →
 tU (σ 15) →
 tU (σ 16) →
 σ 19 = (vI 3) →
 tI (σ 20) →
 iv (σ 20) ≤ 0 →
 σ 21 = vE →
 tI (σ 41) →
 σ 44 = .int .u8 (iv (σ 44)) →
 0 ≤ iv (σ 44) →
 iv (σ 44) ≤ 255 →
 tS (σ 45) →
 tS (σ 46) →
 tI (σ 47) →
 fv (σ 11) = nE (iv (σ 10)) →
 extRel .fbits [σ 11] (σ 15) →
 aN (σ 15) (σ 16) →
 ixR [(Value.string ⟨p.nm⟩), (Value.int .u8 50), (vI 3)] →
 toI p [σ 10,σ 20,σ 21,σ 22,σ 23,σ 24,σ 25,σ 26,σ 27,σ 28,σ 29,σ 30,σ 31,σ 32,σ 33,σ 34,σ 35,σ 36,σ 37,σ 38,σ 39] →
 ibin .and IntKind.i64 (iv (σ 20)) (p.M) = some (.int IntKind.i64 (iv (σ 41))) →
 (0 : Int) ≤ iv (σ 41) →
    (sgC[(iv (σ 41) : Int).toNat]?.map (fun b => (b.toNat : Int)) = some (iv (σ 44))) →
 tv (σ 45) = Utf8.encode (iv (σ 44)) →
 tv (σ 46) = tv (σ 45) ++ tv (σ 21) →
 iv (σ 47) = (iv (σ 20) : Int).fdiv (2 ^ min (p.b : Int).toNat IntKind.i64.bits) →
    ((fitsL [.any, .int .i64, .str, .any, .any, .any, .any, .any, .any, .any, .any, .any, .any, .any, .any, .any, .any, .any, .any, .any, .any] [σ 10,σ 47,σ 46,σ 20,σ 40,σ 40,σ 21, vT, vT,σ 20, (Value.int .i64 p.b),σ 47,σ 20, (Value.int .i64 p.b), (Value.int .i64 p.K), (Value.int .i64 p.M),σ 41,σ 44,σ 45,σ 21,σ 46] → toI p [σ 10,σ 47,σ 46,σ 20,σ 40,σ 40,σ 21, vT, vT,σ 20, (Value.int .i64 p.b),σ 47,σ 20, (Value.int .i64 p.b), (Value.int .i64 p.K), (Value.int .i64 p.M),σ 41,σ 44,σ 45,σ 21,σ 46] → ¬ toIM p [σ 10,σ 47,σ 46,σ 20,σ 40,σ 40,σ 21, vT, vT,σ 20, (Value.int .i64 p.b),σ 47,σ 20, (Value.int .i64 p.b), (Value.int .i64 p.K), (Value.int .i64 p.M),σ 41,σ 44,σ 45,σ 21,σ 46] < toIM p [σ 10,σ 20,σ 21,σ 22,σ 23,σ 24,σ 25,σ 26,σ 27,σ 28,σ 29,σ 30,σ 31,σ 32,σ 33,σ 34,σ 35,σ 36,σ 37,σ 38,σ 39])) →
 iv (σ 41) < 16 →
 0 ≤ iv (σ 41) →
 iv (σ 20) ≤ 0 →
 iv (σ 10) ≠ 0 →
 0 ≤ iv (σ 10) →
    False
def toR_L28 (p : Par) : Prop := ∀ σ : Nat → Value,
 σ 0 = (Value.string ⟨p.nm⟩) →
 σ 2 = vF →
 σ 3 = vF →
 σ 4 = vO →
 σ 5 = vO →
 σ 7 = vZ →
 σ 8 = vZ →
 σ 9 = vO →
 tI (σ 10) →
 1 ≤ iv (σ 10) →
 iv (σ 10) ≤ p.H →
 tF (σ 11) →
 σ 12 = vE →
 σ 13 = vF →
 σ 14 = vZ →
 tU (σ 15) →
 tU (σ 16) →
 σ 19 = (vI 3) →
 tI (σ 20) →
 iv (σ 20) ≤ 0 →
 σ 21 = vE →
 tI (σ 41) →
 σ 44 = .int .u8 (iv (σ 44)) →
 0 ≤ iv (σ 44) →
 iv (σ 44) ≤ 255 →
 tS (σ 45) →
 tB (σ 46) →
 fv (σ 11) = nE (iv (σ 10)) →
 extRel .fbits [σ 11] (σ 15) →
 aN (σ 15) (σ 16) →
 ixR [(Value.string ⟨p.nm⟩), (Value.int .u8 50), (vI 3)] →
 toI p [σ 10,σ 20,σ 21,σ 22,σ 23,σ 24,σ 25,σ 26,σ 27,σ 28,σ 29,σ 30,σ 31,σ 32,σ 33,σ 34,σ 35,σ 36,σ 37,σ 38,σ 39] →
 ibin .and IntKind.i64 (iv (σ 20)) (p.M) = some (.int IntKind.i64 (iv (σ 41))) →
 (0 : Int) ≤ iv (σ 41) →
    (sgC[(iv (σ 41) : Int).toNat]?.map (fun b => (b.toNat : Int)) = some (iv (σ 44))) →
 tv (σ 45) = Utf8.encode (iv (σ 44)) →
 IntKind.i64.max < ((((tv (σ 45)).size + (tv (σ 21)).size : Nat)) : Int) →
 iv (σ 41) < 16 →
 0 ≤ iv (σ 41) →
 iv (σ 20) ≤ 0 →
 iv (σ 10) ≠ 0 →
 0 ≤ iv (σ 10) →
    False
def toR_L29 (p : Par) : Prop := ∀ σ : Nat → Value,
 σ 0 = (Value.string ⟨p.nm⟩) →
 σ 2 = vF →
 σ 3 = vF →
 σ 4 = vO →
 σ 5 = vO →
 σ 7 = vZ →
 σ 8 = vZ →
 σ 9 = vO →
 tI (σ 10) →
 1 ≤ iv (σ 10) →
 iv (σ 10) ≤ p.H →
 tF (σ 11) →
 σ 12 = vE →
 σ 13 = vF →
 σ 14 = vZ →
 tU (σ 15) →
 tU (σ 16) →
 σ 19 = (vI 3) →
 tI (σ 20) →
 iv (σ 20) ≤ 0 →
 σ 21 = vE →
 tI (σ 41) →
 fv (σ 11) = nE (iv (σ 10)) →
 extRel .fbits [σ 11] (σ 15) →
 aN (σ 15) (σ 16) →
 ixR [(Value.string ⟨p.nm⟩), (Value.int .u8 50), (vI 3)] →
 toI p [σ 10,σ 20,σ 21,σ 22,σ 23,σ 24,σ 25,σ 26,σ 27,σ 28,σ 29,σ 30,σ 31,σ 32,σ 33,σ 34,σ 35,σ 36,σ 37,σ 38,σ 39] →
 ibin .and IntKind.i64 (iv (σ 20)) (p.M) = some (.int IntKind.i64 (iv (σ 41))) →
 iv (σ 41) < 0 →
 iv (σ 20) ≤ 0 →
 iv (σ 10) ≠ 0 →
 0 ≤ iv (σ 10) →
    False
def toR_L30 (p : Par) : Prop := ∀ σ : Nat → Value,
 σ 0 = (Value.string ⟨p.nm⟩) →
 σ 2 = vF →
 σ 3 = vF →
 σ 4 = vO →
 σ 5 = vO →
 σ 7 = vZ →
 σ 8 = vZ →
 σ 9 = vO →
 tI (σ 10) →
 1 ≤ iv (σ 10) →
 iv (σ 10) ≤ p.H →
 tF (σ 11) →
 σ 12 = vE →
 σ 13 = vF →
 σ 14 = vZ →
 tU (σ 15) →
 tU (σ 16) →
 σ 19 = (vI 3) →
 tI (σ 20) →
 iv (σ 20) ≤ 0 →
 σ 21 = vE →
 tI (σ 41) →
 fv (σ 11) = nE (iv (σ 10)) →
 extRel .fbits [σ 11] (σ 15) →
 aN (σ 15) (σ 16) →
 ixR [(Value.string ⟨p.nm⟩), (Value.int .u8 50), (vI 3)] →
 toI p [σ 10,σ 20,σ 21,σ 22,σ 23,σ 24,σ 25,σ 26,σ 27,σ 28,σ 29,σ 30,σ 31,σ 32,σ 33,σ 34,σ 35,σ 36,σ 37,σ 38,σ 39] →
 ibin .and IntKind.i64 (iv (σ 20)) (p.M) = some (.int IntKind.i64 (iv (σ 41))) →
 16 ≤ iv (σ 41) →
 0 ≤ iv (σ 41) →
 iv (σ 20) ≤ 0 →
 iv (σ 10) ≠ 0 →
 0 ≤ iv (σ 10) →
    False
def toR_L31 (p : Par) : Prop := ∀ σ : Nat → Value,
 σ 0 = (Value.string ⟨p.nm⟩) →
 σ 2 = vF →
 σ 3 = vF →
 σ 4 = vO →
 σ 5 = vO →
 σ 7 = vZ →
 σ 8 = vZ →
 σ 9 = vO →
 tI (σ 10) →
 1 ≤ iv (σ 10) →
 iv (σ 10) ≤ p.H →
 tF (σ 11) →
 σ 12 = vE →
 σ 13 = vF →
 σ 14 = vZ →
 tU (σ 15) →
 tU (σ 16) →
 σ 19 = (vI 3) →
 tI (σ 20) →
 iv (σ 20) ≤ 0 →
 tS (σ 21) →
    (∀ x ∈ ([⟨#[]⟩] : List ByteArray), (tv (σ 21)).toList ≠ x.toList) →
 tI (σ 41) →
 0 ≤ iv (σ 41) →
 tI (σ 42) →
 1 ≤ iv (σ 42) →
 tS (σ 44) →
 tS (σ 45) →
 tI (σ 46) →
 32769 ≤ iv (σ 46) →
 fv (σ 11) = nE (iv (σ 10)) →
 extRel .fbits [σ 11] (σ 15) →
 aN (σ 15) (σ 16) →
 ixR [(Value.string ⟨p.nm⟩), (Value.int .u8 50), (vI 3)] →
 toI p [σ 10,σ 20,σ 21,σ 22,σ 23,σ 24,σ 25,σ 26,σ 27,σ 28,σ 29,σ 30,σ 31,σ 32,σ 33,σ 34,σ 35,σ 36,σ 37,σ 38,σ 39] →
 iv (σ 41) = ((tv (σ 21)).size : Nat) →
 iv (σ 42) = IntKind.i64.wrap (0 - iv (σ 41)) →
 rptR [(vS #[48]),σ 42,σ 44] →
 tv (σ 45) = tv (σ 44) ++ tv (σ 21) →
 iv (σ 46) = ((tv (σ 45)).size : Nat) →
 32768 < iv (σ 46) →
 bv (σ 47) = !true →
 0 < iv (σ 42) →
 iv (σ 20) ≤ 0 →
 iv (σ 10) ≠ 0 →
 0 ≤ iv (σ 10) →
    False
def toR_L32 (p : Par) : Prop := ∀ σ : Nat → Value,
 σ 0 = (Value.string ⟨p.nm⟩) →
 σ 2 = vF →
 σ 3 = vF →
 σ 4 = vO →
 σ 5 = vO →
 σ 7 = vZ →
 σ 8 = vZ →
 σ 9 = vO →
 tI (σ 10) →
 1 ≤ iv (σ 10) →
 iv (σ 10) ≤ p.H →
 tF (σ 11) →
 σ 12 = vE →
 σ 13 = vF →
 σ 14 = vZ →
 tU (σ 15) →
 tU (σ 16) →
 σ 19 = (vI 3) →
 tI (σ 20) →
 iv (σ 20) ≤ 0 →
 tS (σ 21) →
    (∀ x ∈ ([⟨#[]⟩] : List ByteArray), (tv (σ 21)).toList ≠ x.toList) →
 tI (σ 41) →
 0 ≤ iv (σ 41) →
 tI (σ 42) →
 1 ≤ iv (σ 42) →
 tS (σ 44) →
 tS (σ 45) →
 tI (σ 46) →
 0 ≤ iv (σ 46) →
 iv (σ 46) ≤ 32768 →
 fv (σ 11) = nE (iv (σ 10)) →
 extRel .fbits [σ 11] (σ 15) →
 aN (σ 15) (σ 16) →
 ixR [(Value.string ⟨p.nm⟩), (Value.int .u8 50), (vI 3)] →
 toI p [σ 10,σ 20,σ 21,σ 22,σ 23,σ 24,σ 25,σ 26,σ 27,σ 28,σ 29,σ 30,σ 31,σ 32,σ 33,σ 34,σ 35,σ 36,σ 37,σ 38,σ 39] →
 iv (σ 41) = ((tv (σ 21)).size : Nat) →
 iv (σ 42) = IntKind.i64.wrap (0 - iv (σ 41)) →
 rptR [(vS #[48]),σ 42,σ 44] →
 tv (σ 45) = tv (σ 44) ++ tv (σ 21) →
 iv (σ 46) = ((tv (σ 45)).size : Nat) →
 iv (σ 46) ≤ 32768 →
 bv (σ 47) = !false →
 0 < iv (σ 42) →
 iv (σ 20) ≤ 0 →
 iv (σ 10) ≠ 0 →
 0 ≤ iv (σ 10) →
    toR p [(Value.string ⟨p.nm⟩),vU, vF, vF, vO, vO,vU,vZ,vZ, vO,σ 10,σ 11, vE, vF,vZ, (vI 2), (vG 0),σ 45, vF,vZ, vT]
def toR_L33 (p : Par) : Prop := ∀ σ : Nat → Value,
 σ 0 = (Value.string ⟨p.nm⟩) →
 σ 2 = vF →
 σ 3 = vF →
 σ 4 = vO →
 σ 5 = vO →
 σ 7 = vZ →
 σ 8 = vZ →
 σ 9 = vO →
 tI (σ 10) →
 1 ≤ iv (σ 10) →
 iv (σ 10) ≤ p.H →
 tF (σ 11) →
 σ 12 = vE →
 σ 13 = vF →
 σ 14 = vZ →
 tU (σ 15) →
 tU (σ 16) →
 σ 19 = (vI 3) →
 tI (σ 20) →
 iv (σ 20) ≤ 0 →
 tS (σ 21) →
    (∀ x ∈ ([⟨#[]⟩] : List ByteArray), (tv (σ 21)).toList ≠ x.toList) →
 tI (σ 41) →
 0 ≤ iv (σ 41) →
 tI (σ 42) →
 1 ≤ iv (σ 42) →
 tS (σ 44) →
 tB (σ 45) →
 fv (σ 11) = nE (iv (σ 10)) →
 extRel .fbits [σ 11] (σ 15) →
 aN (σ 15) (σ 16) →
 ixR [(Value.string ⟨p.nm⟩), (Value.int .u8 50), (vI 3)] →
 toI p [σ 10,σ 20,σ 21,σ 22,σ 23,σ 24,σ 25,σ 26,σ 27,σ 28,σ 29,σ 30,σ 31,σ 32,σ 33,σ 34,σ 35,σ 36,σ 37,σ 38,σ 39] →
 iv (σ 41) = ((tv (σ 21)).size : Nat) →
 iv (σ 42) = IntKind.i64.wrap (0 - iv (σ 41)) →
 rptR [(vS #[48]),σ 42,σ 44] →
 IntKind.i64.max < ((((tv (σ 44)).size + (tv (σ 21)).size : Nat)) : Int) →
 0 < iv (σ 42) →
 iv (σ 20) ≤ 0 →
 iv (σ 10) ≠ 0 →
 0 ≤ iv (σ 10) →
    False
def toR_L34 (p : Par) : Prop := ∀ σ : Nat → Value,
 σ 0 = (Value.string ⟨p.nm⟩) →
 σ 2 = vF →
 σ 3 = vF →
 σ 4 = vO →
 σ 5 = vO →
 σ 7 = vZ →
 σ 8 = vZ →
 σ 9 = vO →
 tI (σ 10) →
 1 ≤ iv (σ 10) →
 iv (σ 10) ≤ p.H →
 tF (σ 11) →
 σ 12 = vE →
 σ 13 = vF →
 σ 14 = vZ →
 tU (σ 15) →
 tU (σ 16) →
 σ 19 = (vI 3) →
 tI (σ 20) →
 iv (σ 20) ≤ 0 →
 tS (σ 21) →
    (∀ x ∈ ([⟨#[]⟩] : List ByteArray), (tv (σ 21)).toList ≠ x.toList) →
 tI (σ 41) →
 0 ≤ iv (σ 41) →
 tI (σ 42) →
 1 ≤ iv (σ 42) →
 fv (σ 11) = nE (iv (σ 10)) →
 extRel .fbits [σ 11] (σ 15) →
 aN (σ 15) (σ 16) →
 ixR [(Value.string ⟨p.nm⟩), (Value.int .u8 50), (vI 3)] →
 toI p [σ 10,σ 20,σ 21,σ 22,σ 23,σ 24,σ 25,σ 26,σ 27,σ 28,σ 29,σ 30,σ 31,σ 32,σ 33,σ 34,σ 35,σ 36,σ 37,σ 38,σ 39] →
 iv (σ 41) = ((tv (σ 21)).size : Nat) →
 iv (σ 42) = IntKind.i64.wrap (0 - iv (σ 41)) →
 ¬ rptRPre [(vS #[48]),σ 42] →
 0 < iv (σ 42) →
 iv (σ 20) ≤ 0 →
 iv (σ 10) ≠ 0 →
 0 ≤ iv (σ 10) →
    False
def toR_L35 (p : Par) : Prop := ∀ σ : Nat → Value,
 σ 0 = (Value.string ⟨p.nm⟩) →
 σ 2 = vF →
 σ 3 = vF →
 σ 4 = vO →
 σ 5 = vO →
 σ 7 = vZ →
 σ 8 = vZ →
 σ 9 = vO →
 tI (σ 10) →
 1 ≤ iv (σ 10) →
 iv (σ 10) ≤ p.H →
 tF (σ 11) →
 σ 12 = vE →
 σ 13 = vF →
 σ 14 = vZ →
 tU (σ 15) →
 tU (σ 16) →
 σ 19 = (vI 3) →
 tI (σ 20) →
 iv (σ 20) ≤ 0 →
 tS (σ 21) →
    (∀ x ∈ ([⟨#[]⟩] : List ByteArray), (tv (σ 21)).toList ≠ x.toList) →
 tI (σ 41) →
 0 ≤ iv (σ 41) →
 tI (σ 42) →
 iv (σ 42) ≤ 0 →
 tS (σ 44) →
 tS (σ 45) →
 tI (σ 46) →
 32769 ≤ iv (σ 46) →
 fv (σ 11) = nE (iv (σ 10)) →
 extRel .fbits [σ 11] (σ 15) →
 aN (σ 15) (σ 16) →
 ixR [(Value.string ⟨p.nm⟩), (Value.int .u8 50), (vI 3)] →
 toI p [σ 10,σ 20,σ 21,σ 22,σ 23,σ 24,σ 25,σ 26,σ 27,σ 28,σ 29,σ 30,σ 31,σ 32,σ 33,σ 34,σ 35,σ 36,σ 37,σ 38,σ 39] →
 iv (σ 41) = ((tv (σ 21)).size : Nat) →
 iv (σ 42) = IntKind.i64.wrap (0 - iv (σ 41)) →
 rptR [(vS #[48]),vZ,σ 44] →
 tv (σ 45) = tv (σ 44) ++ tv (σ 21) →
 iv (σ 46) = ((tv (σ 45)).size : Nat) →
 32768 < iv (σ 46) →
 bv (σ 47) = !true →
 iv (σ 42) ≤ 0 →
 iv (σ 20) ≤ 0 →
 iv (σ 10) ≠ 0 →
 0 ≤ iv (σ 10) →
    False
def toR_L36 (p : Par) : Prop := ∀ σ : Nat → Value,
 σ 0 = (Value.string ⟨p.nm⟩) →
 σ 2 = vF →
 σ 3 = vF →
 σ 4 = vO →
 σ 5 = vO →
 σ 7 = vZ →
 σ 8 = vZ →
 σ 9 = vO →
 tI (σ 10) →
 1 ≤ iv (σ 10) →
 iv (σ 10) ≤ p.H →
 tF (σ 11) →
 σ 12 = vE →
 σ 13 = vF →
 σ 14 = vZ →
 tU (σ 15) →
 tU (σ 16) →
 σ 19 = (vI 3) →
 tI (σ 20) →
 iv (σ 20) ≤ 0 →
 tS (σ 21) →
    (∀ x ∈ ([⟨#[]⟩] : List ByteArray), (tv (σ 21)).toList ≠ x.toList) →
 tI (σ 41) →
 0 ≤ iv (σ 41) →
 tI (σ 42) →
 iv (σ 42) ≤ 0 →
 tS (σ 44) →
 tS (σ 45) →
 tI (σ 46) →
 0 ≤ iv (σ 46) →
 iv (σ 46) ≤ 32768 →
 fv (σ 11) = nE (iv (σ 10)) →
 extRel .fbits [σ 11] (σ 15) →
 aN (σ 15) (σ 16) →
 ixR [(Value.string ⟨p.nm⟩), (Value.int .u8 50), (vI 3)] →
 toI p [σ 10,σ 20,σ 21,σ 22,σ 23,σ 24,σ 25,σ 26,σ 27,σ 28,σ 29,σ 30,σ 31,σ 32,σ 33,σ 34,σ 35,σ 36,σ 37,σ 38,σ 39] →
 iv (σ 41) = ((tv (σ 21)).size : Nat) →
 iv (σ 42) = IntKind.i64.wrap (0 - iv (σ 41)) →
 rptR [(vS #[48]),vZ,σ 44] →
 tv (σ 45) = tv (σ 44) ++ tv (σ 21) →
 iv (σ 46) = ((tv (σ 45)).size : Nat) →
 iv (σ 46) ≤ 32768 →
 bv (σ 47) = !false →
 iv (σ 42) ≤ 0 →
 iv (σ 20) ≤ 0 →
 iv (σ 10) ≠ 0 →
 0 ≤ iv (σ 10) →
    toR p [(Value.string ⟨p.nm⟩),vU, vF, vF, vO, vO,vU,vZ,vZ, vO,σ 10,σ 11, vE, vF,vZ, (vI 2), (vG 0),σ 45, vF,vZ, vT]
def toR_L37 (p : Par) : Prop := ∀ σ : Nat → Value,
 σ 0 = (Value.string ⟨p.nm⟩) →
 σ 2 = vF →
 σ 3 = vF →
 σ 4 = vO →
 σ 5 = vO →
 σ 7 = vZ →
 σ 8 = vZ →
 σ 9 = vO →
 tI (σ 10) →
 1 ≤ iv (σ 10) →
 iv (σ 10) ≤ p.H →
 tF (σ 11) →
 σ 12 = vE →
 σ 13 = vF →
 σ 14 = vZ →
 tU (σ 15) →
 tU (σ 16) →
 σ 19 = (vI 3) →
 tI (σ 20) →
 iv (σ 20) ≤ 0 →
 tS (σ 21) →
    (∀ x ∈ ([⟨#[]⟩] : List ByteArray), (tv (σ 21)).toList ≠ x.toList) →
 tI (σ 41) →
 0 ≤ iv (σ 41) →
 tI (σ 42) →
 iv (σ 42) ≤ 0 →
 tS (σ 44) →
 tB (σ 45) →
 fv (σ 11) = nE (iv (σ 10)) →
 extRel .fbits [σ 11] (σ 15) →
 aN (σ 15) (σ 16) →
 ixR [(Value.string ⟨p.nm⟩), (Value.int .u8 50), (vI 3)] →
 toI p [σ 10,σ 20,σ 21,σ 22,σ 23,σ 24,σ 25,σ 26,σ 27,σ 28,σ 29,σ 30,σ 31,σ 32,σ 33,σ 34,σ 35,σ 36,σ 37,σ 38,σ 39] →
 iv (σ 41) = ((tv (σ 21)).size : Nat) →
 iv (σ 42) = IntKind.i64.wrap (0 - iv (σ 41)) →
 rptR [(vS #[48]),vZ,σ 44] →
 IntKind.i64.max < ((((tv (σ 44)).size + (tv (σ 21)).size : Nat)) : Int) →
 iv (σ 42) ≤ 0 →
 iv (σ 20) ≤ 0 →
 iv (σ 10) ≠ 0 →
 0 ≤ iv (σ 10) →
    False
def toR_L38 (p : Par) : Prop := ∀ σ : Nat → Value,
 σ 0 = (Value.string ⟨p.nm⟩) →
 σ 2 = vF →
 σ 3 = vF →
 σ 4 = vO →
 σ 5 = vO →
 σ 7 = vZ →
 σ 8 = vZ →
 σ 9 = vO →
 tI (σ 10) →
 1 ≤ iv (σ 10) →
 iv (σ 10) ≤ p.H →
 tF (σ 11) →
 σ 12 = vE →
 σ 13 = vF →
 σ 14 = vZ →
 tU (σ 15) →
 tU (σ 16) →
 σ 19 = (vI 3) →
 tI (σ 20) →
 iv (σ 20) ≤ 0 →
 tS (σ 21) →
    (∀ x ∈ ([⟨#[]⟩] : List ByteArray), (tv (σ 21)).toList ≠ x.toList) →
 tI (σ 41) →
 0 ≤ iv (σ 41) →
 tI (σ 42) →
 iv (σ 42) ≤ 0 →
 fv (σ 11) = nE (iv (σ 10)) →
 extRel .fbits [σ 11] (σ 15) →
 aN (σ 15) (σ 16) →
 ixR [(Value.string ⟨p.nm⟩), (Value.int .u8 50), (vI 3)] →
 toI p [σ 10,σ 20,σ 21,σ 22,σ 23,σ 24,σ 25,σ 26,σ 27,σ 28,σ 29,σ 30,σ 31,σ 32,σ 33,σ 34,σ 35,σ 36,σ 37,σ 38,σ 39] →
 iv (σ 41) = ((tv (σ 21)).size : Nat) →
 iv (σ 42) = IntKind.i64.wrap (0 - iv (σ 41)) →
 ¬ rptRPre [(vS #[48]),vZ] →
 iv (σ 42) ≤ 0 →
 iv (σ 20) ≤ 0 →
 iv (σ 10) ≠ 0 →
 0 ≤ iv (σ 10) →
    False
theorem toR_tieB : (toC pB).goals (cfgB (toC pB).base (cons pB)) [(25, 14, toI_ pB)] 2000 = (toR_L0 pB ∧ toR_L1 pB ∧ toR_L2 pB ∧ toR_L3 pB ∧ toR_L4 pB ∧ toR_L5 pB ∧ toR_L6 pB ∧ toR_L7 pB ∧ toR_L8 pB ∧ toR_L9 pB ∧ toR_L10 pB ∧ toR_L11 pB ∧ toR_L12 pB ∧ toR_L13 pB ∧ toR_L14 pB ∧ toR_L15 pB ∧ toR_L16 pB ∧ toR_L17 pB ∧ toR_L18 pB ∧ toR_L19 pB ∧ toR_L20 pB ∧ toR_L21 pB ∧ toR_L22 pB ∧ toR_L23 pB ∧ toR_L24 pB ∧ toR_L25 pB ∧ toR_L26 pB ∧ toR_L27 pB ∧ toR_L28 pB ∧ toR_L29 pB ∧ toR_L30 pB ∧ toR_L31 pB ∧ toR_L32 pB ∧ toR_L33 pB ∧ toR_L34 pB ∧ toR_L35 pB ∧ toR_L36 pB ∧ toR_L37 pB ∧ toR_L38 pB ∧ True) := by kernel_rfl
theorem toR_tieO : (toC pO).goals (cfgB (toC pO).base (cons pO)) [(25, 14, toI_ pO)] 2000 = (toR_L0 pO ∧ toR_L1 pO ∧ toR_L2 pO ∧ toR_L3 pO ∧ toR_L4 pO ∧ toR_L5 pO ∧ toR_L6 pO ∧ toR_L7 pO ∧ toR_L8 pO ∧ toR_L9 pO ∧ toR_L10 pO ∧ toR_L11 pO ∧ toR_L12 pO ∧ toR_L13 pO ∧ toR_L14 pO ∧ toR_L15 pO ∧ toR_L16 pO ∧ toR_L17 pO ∧ toR_L18 pO ∧ toR_L19 pO ∧ toR_L20 pO ∧ toR_L21 pO ∧ toR_L22 pO ∧ toR_L23 pO ∧ toR_L24 pO ∧ toR_L25 pO ∧ toR_L26 pO ∧ toR_L27 pO ∧ toR_L28 pO ∧ toR_L29 pO ∧ toR_L30 pO ∧ toR_L31 pO ∧ toR_L32 pO ∧ toR_L33 pO ∧ toR_L34 pO ∧ toR_L35 pO ∧ toR_L36 pO ∧ toR_L37 pO ∧ toR_L38 pO ∧ True) := by kernel_rfl
theorem toR_tieX : (toC pX).goals (cfgB (toC pX).base (cons pX)) [(25, 14, toI_ pX)] 2000 = (toR_L0 pX ∧ toR_L1 pX ∧ toR_L2 pX ∧ toR_L3 pX ∧ toR_L4 pX ∧ toR_L5 pX ∧ toR_L6 pX ∧ toR_L7 pX ∧ toR_L8 pX ∧ toR_L9 pX ∧ toR_L10 pX ∧ toR_L11 pX ∧ toR_L12 pX ∧ toR_L13 pX ∧ toR_L14 pX ∧ toR_L15 pX ∧ toR_L16 pX ∧ toR_L17 pX ∧ toR_L18 pX ∧ toR_L19 pX ∧ toR_L20 pX ∧ toR_L21 pX ∧ toR_L22 pX ∧ toR_L23 pX ∧ toR_L24 pX ∧ toR_L25 pX ∧ toR_L26 pX ∧ toR_L27 pX ∧ toR_L28 pX ∧ toR_L29 pX ∧ toR_L30 pX ∧ toR_L31 pX ∧ toR_L32 pX ∧ toR_L33 pX ∧ toR_L34 pX ∧ toR_L35 pX ∧ toR_L36 pX ∧ toR_L37 pX ∧ toR_L38 pX ∧ True) := by kernel_rfl
theorem toR_L0_ok {p : Par} (hp : Good p) : toR_L0 p := by
  intro σ; intros
  have g1 := hp.hF; have g2 := hp.hH; have g3 := hp.h0; have g4 := hp.hL; have k2 := hp.k2; have k16 := hp.k16
  obtain ⟨c, hb, hc4, hkc, hM⟩ := hp.hb
  have hN := ‹iv (σ 21) = iv (σ 10) + p.F›
  have en : iv (σ 21) = ((enc p (iv (σ 10)) : Nat) : Int) := by unfold enc; rw [if_pos (by omega)]; omega
  have el := (enc_lt hp (x := iv (σ 10)) (by omega) (by omega)).2
  specialize ‹fitsL _ _ → ¬ toI p _› (by (simp only [fitsL, Sort_.fits]; repeat' (first | exact True.intro | (with_reducible refine And.intro ?_ ?_) | exact ⟨_, ‹_›⟩ | exact ⟨_, rfl⟩ | exact ⟨_, ‹_›, fun a h => by cases h; omega, fun b h => by cases h; omega⟩ | exact ⟨_, rfl, fun a h => by cases h; decide, fun b h => by cases h; decide⟩)))
  have c0 := ‹¬ toI p _›
  exact c0 (toI_mk (N := iv (σ 21)) (x := iv (σ 21)) (s := []) rfl rfl rfl (by omega) ⟨_, _, en, en, el.2, Writes.start _ _⟩)
theorem toR_L1_ok {p : Par} (hp : Good p) : toR_L1 p := by
  intro σ; intros
  have g1 := hp.hF; have g2 := hp.hH; have g3 := hp.h0; have g4 := hp.hL; have k2 := hp.k2; have k16 := hp.k16
  obtain ⟨c, hb, hc4, hkc, hM⟩ := hp.hb
  have hN := ‹iv (σ 21) = iv (σ 10) + p.F›
  have en : iv (σ 21) = ((enc p (iv (σ 10)) : Nat) : Int) := by unfold enc; rw [if_pos (by omega)]; omega
  have el := (enc_lt hp (x := iv (σ 10)) (by omega) (by omega)).2
  have hI0 := ‹toI p _›
  obtain ⟨n, y, hn, hy, hlt, hw⟩ := toI_ne (N := iv (σ 21)) (x := iv (σ 22)) (s := tl (σ 23)) hI0 rfl rfl rfl (by omega)
  have qn : n = enc p (iv (σ 10)) := by omega
  have hlen := hw.1
  have hd0 := ‹ibin .and IntKind.i64 (iv (σ 22)) p.M = _›
  have hd := and_mask hc4 hM hy (by omega) hd0
  rw [← hkc] at hd
  have hm : y % p.kn < p.kn := Nat.mod_lt y (by omega)
  have hs := ‹sgC[(iv (σ 43)).toNat]?.map _ = _›
  have e1 := sig_of (d := y % p.kn) (t := σ 47) (by omega) hd hs ‹tv (σ 47) = _›
  have e2 : tl (σ 48) = tl (σ 47) ++ tl (σ 23) := tl_app ‹tv (σ 48) = _›
  rw [e1] at e2
  have hs0 := ‹iv (σ 49) = (iv (σ 22)).fdiv _›
  have hs1 := shr_nat hc4 hb hy hs0
  rw [← hkc] at hs1
  have st := to_step hp hlt hw (.inl (by omega))
  have e3 : sgA (y % p.kn) :: tl (σ 23) = tl (σ 48) := by rw [e2]; rfl
  rw [e3, ← hs1, ← hy, ← hn] at st
  specialize ‹fitsL _ _ → toI p _ → ¬ (_ : Nat) < _› (by (simp only [fitsL, Sort_.fits]; repeat' (first | exact True.intro | (with_reducible refine And.intro ?_ ?_) | exact ⟨_, ‹_›⟩ | exact ⟨_, rfl⟩ | exact ⟨_, ‹_›, fun a h => by cases h; omega, fun b h => by cases h; omega⟩ | exact ⟨_, rfl, fun a h => by cases h; decide, fun b h => by cases h; decide⟩)))
  have c0 := ‹toI p _ → ¬ (_ : Nat) < _›
  have c1 := c0 (toI_mk (N := iv (σ 21)) (x := iv (σ 49)) (s := tl (σ 48)) rfl rfl rfl (by omega) st.1)
  rw [toIM_ne (N := iv (σ 21)) (x := iv (σ 49)) (s := tl (σ 48)) rfl rfl rfl (by omega), toIM_ne (N := iv (σ 21)) (x := iv (σ 22)) (s := tl (σ 23)) rfl rfl rfl (by omega)] at c1
  exact c1 st.2
theorem toR_L2_ok {p : Par} (hp : Good p) : toR_L2 p := by
  intro σ; intros
  have g1 := hp.hF; have g2 := hp.hH; have g3 := hp.h0; have g4 := hp.hL; have k2 := hp.k2; have k16 := hp.k16
  obtain ⟨c, hb, hc4, hkc, hM⟩ := hp.hb
  have hN := ‹iv (σ 21) = iv (σ 10) + p.F›
  have en : iv (σ 21) = ((enc p (iv (σ 10)) : Nat) : Int) := by unfold enc; rw [if_pos (by omega)]; omega
  have el := (enc_lt hp (x := iv (σ 10)) (by omega) (by omega)).2
  have hI0 := ‹toI p _›
  obtain ⟨n, y, hn, hy, hlt, hw⟩ := toI_ne (N := iv (σ 21)) (x := iv (σ 22)) (s := tl (σ 23)) hI0 rfl rfl rfl (by omega)
  have qn : n = enc p (iv (σ 10)) := by omega
  have hlen := hw.1
  have hd0 := ‹ibin .and IntKind.i64 (iv (σ 22)) p.M = _›
  have hd := and_mask hc4 hM hy (by omega) hd0
  rw [← hkc] at hd
  have hm : y % p.kn < p.kn := Nat.mod_lt y (by omega)
  have hs := ‹sgC[(iv (σ 43)).toNat]?.map _ = _›
  have e1 := sig_of (d := y % p.kn) (t := σ 47) (by omega) hd hs ‹tv (σ 47) = _›
  exact big_no (a := σ 47) (b := σ 23) (by rw [e1]) rfl (by simp only [List.length_singleton]; omega) ‹IntKind.i64.max < _›
theorem toR_L3_ok {p : Par} (hp : Good p) : toR_L3 p := by
  intro σ; intros
  have g1 := hp.hF; have g2 := hp.hH; have g3 := hp.h0; have g4 := hp.hL; have k2 := hp.k2; have k16 := hp.k16
  obtain ⟨c, hb, hc4, hkc, hM⟩ := hp.hb
  have hN := ‹iv (σ 21) = iv (σ 10) + p.F›
  have en : iv (σ 21) = ((enc p (iv (σ 10)) : Nat) : Int) := by unfold enc; rw [if_pos (by omega)]; omega
  have el := (enc_lt hp (x := iv (σ 10)) (by omega) (by omega)).2
  have hI0 := ‹toI p _›
  obtain ⟨n, y, hn, hy, hlt, hw⟩ := toI_ne (N := iv (σ 21)) (x := iv (σ 22)) (s := tl (σ 23)) hI0 rfl rfl rfl (by omega)
  have qn : n = enc p (iv (σ 10)) := by omega
  have hlen := hw.1
  have hd0 := ‹ibin .and IntKind.i64 (iv (σ 22)) p.M = _›
  have hd := and_mask hc4 hM hy (by omega) hd0
  rw [← hkc] at hd
  have hm : y % p.kn < p.kn := Nat.mod_lt y (by omega)
  omega
theorem toR_L4_ok {p : Par} (hp : Good p) : toR_L4 p := by
  intro σ; intros
  have g1 := hp.hF; have g2 := hp.hH; have g3 := hp.h0; have g4 := hp.hL; have k2 := hp.k2; have k16 := hp.k16
  obtain ⟨c, hb, hc4, hkc, hM⟩ := hp.hb
  have hN := ‹iv (σ 21) = iv (σ 10) + p.F›
  have en : iv (σ 21) = ((enc p (iv (σ 10)) : Nat) : Int) := by unfold enc; rw [if_pos (by omega)]; omega
  have el := (enc_lt hp (x := iv (σ 10)) (by omega) (by omega)).2
  have hI0 := ‹toI p _›
  obtain ⟨n, y, hn, hy, hlt, hw⟩ := toI_ne (N := iv (σ 21)) (x := iv (σ 22)) (s := tl (σ 23)) hI0 rfl rfl rfl (by omega)
  have qn : n = enc p (iv (σ 10)) := by omega
  have hlen := hw.1
  have hd0 := ‹ibin .and IntKind.i64 (iv (σ 22)) p.M = _›
  have hd := and_mask hc4 hM hy (by omega) hd0
  rw [← hkc] at hd
  have hm : y % p.kn < p.kn := Nat.mod_lt y (by omega)
  omega
theorem toR_L5_ok {p : Par} (hp : Good p) : toR_L5 p := by
  intro σ; intros
  have g1 := hp.hF; have g2 := hp.hH; have g3 := hp.h0; have g4 := hp.hL; have k2 := hp.k2; have k16 := hp.k16
  obtain ⟨c, hb, hc4, hkc, hM⟩ := hp.hb
  have hN := ‹iv (σ 21) = iv (σ 10) + p.F›
  have en : iv (σ 21) = ((enc p (iv (σ 10)) : Nat) : Int) := by unfold enc; rw [if_pos (by omega)]; omega
  have el := (enc_lt hp (x := iv (σ 10)) (by omega) (by omega)).2
  have hI0 := ‹toI p _›
  obtain ⟨n, y, hn, hy, hlt, hw⟩ := toI_ne (N := iv (σ 21)) (x := iv (σ 22)) (s := tl (σ 23)) hI0 rfl rfl rfl (by omega)
  have qn : n = enc p (iv (σ 10)) := by omega
  have hlen := hw.1
  have e0 := tl_none ‹σ 23 = Value.string ⟨#[]⟩›
  exfalso
  have := hw.nil e0
  omega
theorem toR_L6_ok {p : Par} (hp : Good p) : toR_L6 p := by
  intro σ; intros
  have g1 := hp.hF; have g2 := hp.hH; have g3 := hp.h0; have g4 := hp.hL; have k2 := hp.k2; have k16 := hp.k16
  obtain ⟨c, hb, hc4, hkc, hM⟩ := hp.hb
  have hN := ‹iv (σ 21) = iv (σ 10) + p.F›
  have en : iv (σ 21) = ((enc p (iv (σ 10)) : Nat) : Int) := by unfold enc; rw [if_pos (by omega)]; omega
  have el := (enc_lt hp (x := iv (σ 10)) (by omega) (by omega)).2
  have hI0 := ‹toI p _›
  obtain ⟨n, y, hn, hy, hlt, hw⟩ := toI_ne (N := iv (σ 21)) (x := iv (σ 22)) (s := tl (σ 23)) hI0 rfl rfl rfl (by omega)
  have qn : n = enc p (iv (σ 10)) := by omega
  have hlen := hw.1
  have e0 := tl_none ‹σ 23 = Value.string ⟨#[]⟩›
  exfalso
  have := hw.nil e0
  omega
theorem toR_L7_ok {p : Par} (hp : Good p) : toR_L7 p := by
  intro σ; intros
  have g1 := hp.hF; have g2 := hp.hH; have g3 := hp.h0; have g4 := hp.hL; have k2 := hp.k2; have k16 := hp.k16
  obtain ⟨c, hb, hc4, hkc, hM⟩ := hp.hb
  have hN := ‹iv (σ 21) = iv (σ 10) + p.F›
  have en : iv (σ 21) = ((enc p (iv (σ 10)) : Nat) : Int) := by unfold enc; rw [if_pos (by omega)]; omega
  have el := (enc_lt hp (x := iv (σ 10)) (by omega) (by omega)).2
  have hI0 := ‹toI p _›
  obtain ⟨n, y, hn, hy, hlt, hw⟩ := toI_ne (N := iv (σ 21)) (x := iv (σ 22)) (s := tl (σ 23)) hI0 rfl rfl rfl (by omega)
  have qn : n = enc p (iv (σ 10)) := by omega
  have hlen := hw.1
  have e0 := tl_none ‹σ 23 = Value.string ⟨#[]⟩›
  exfalso
  have := hw.nil e0
  omega
theorem toR_L8_ok {p : Par} (hp : Good p) : toR_L8 p := by
  intro σ; intros
  have g1 := hp.hF; have g2 := hp.hH; have g3 := hp.h0; have g4 := hp.hL; have k2 := hp.k2; have k16 := hp.k16
  obtain ⟨c, hb, hc4, hkc, hM⟩ := hp.hb
  have hN := ‹iv (σ 21) = iv (σ 10) + p.F›
  have en : iv (σ 21) = ((enc p (iv (σ 10)) : Nat) : Int) := by unfold enc; rw [if_pos (by omega)]; omega
  have el := (enc_lt hp (x := iv (σ 10)) (by omega) (by omega)).2
  have hI0 := ‹toI p _›
  obtain ⟨n, y, hn, hy, hlt, hw⟩ := toI_ne (N := iv (σ 21)) (x := iv (σ 22)) (s := tl (σ 23)) hI0 rfl rfl rfl (by omega)
  have qn : n = enc p (iv (σ 10)) := by omega
  have hlen := hw.1
  have e0 := tl_none ‹σ 23 = Value.string ⟨#[]⟩›
  exfalso
  have := hw.nil e0
  omega
theorem toR_L9_ok {p : Par} (hp : Good p) : toR_L9 p := by
  intro σ; intros
  have g1 := hp.hF; have g2 := hp.hH; have g3 := hp.h0; have g4 := hp.hL; have k2 := hp.k2; have k16 := hp.k16
  obtain ⟨c, hb, hc4, hkc, hM⟩ := hp.hb
  have hN := ‹iv (σ 21) = iv (σ 10) + p.F›
  have en : iv (σ 21) = ((enc p (iv (σ 10)) : Nat) : Int) := by unfold enc; rw [if_pos (by omega)]; omega
  have el := (enc_lt hp (x := iv (σ 10)) (by omega) (by omega)).2
  have hI0 := ‹toI p _›
  obtain ⟨n, y, hn, hy, hlt, hw⟩ := toI_ne (N := iv (σ 21)) (x := iv (σ 22)) (s := tl (σ 23)) hI0 rfl rfl rfl (by omega)
  have qn : n = enc p (iv (σ 10)) := by omega
  have hlen := hw.1
  have e0 : tl (σ 23) ≠ [] := tl_some ‹∀ x ∈ ([⟨#[]⟩] : List ByteArray), _›
  have dn := hw.done (by omega) e0
  have dl := dg_lenK k2 10 n (by decide) (by rw [qn]; exact el.1)
  have hq := ‹iv (σ 43) = ((tv (σ 23)).size : Nat)›
  rw [← tl_len, dn] at hq
  omega
theorem toR_L10_ok {p : Par} (hp : Good p) : toR_L10 p := by
  intro σ; intros
  have g1 := hp.hF; have g2 := hp.hH; have g3 := hp.h0; have g4 := hp.hL; have k2 := hp.k2; have k16 := hp.k16
  obtain ⟨c, hb, hc4, hkc, hM⟩ := hp.hb
  have hN := ‹iv (σ 21) = iv (σ 10) + p.F›
  have en : iv (σ 21) = ((enc p (iv (σ 10)) : Nat) : Int) := by unfold enc; rw [if_pos (by omega)]; omega
  have el := (enc_lt hp (x := iv (σ 10)) (by omega) (by omega)).2
  have hI0 := ‹toI p _›
  obtain ⟨n, y, hn, hy, hlt, hw⟩ := toI_ne (N := iv (σ 21)) (x := iv (σ 22)) (s := tl (σ 23)) hI0 rfl rfl rfl (by omega)
  have qn : n = enc p (iv (σ 10)) := by omega
  have hlen := hw.1
  have e0 : tl (σ 23) ≠ [] := tl_some ‹∀ x ∈ ([⟨#[]⟩] : List ByteArray), _›
  have dn := hw.done (by omega) e0
  have dl := dg_lenK k2 10 n (by decide) (by rw [qn]; exact el.1)
  show tl (σ 23) = dg p.kn (enc p (iv (σ 10)))
  rw [dn, qn]
theorem toR_L11_ok {p : Par} (hp : Good p) : toR_L11 p := by
  intro σ; intros
  have g1 := hp.hF; have g2 := hp.hH; have g3 := hp.h0; have g4 := hp.hL; have k2 := hp.k2; have k16 := hp.k16
  obtain ⟨c, hb, hc4, hkc, hM⟩ := hp.hb
  have en : enc p (iv (σ 10)) = 0 := by unfold enc; rw [if_neg (by omega)]; omega
  have el := (enc_lt hp (x := iv (σ 10)) (by omega) (by omega)).2
  specialize ‹fitsL _ _ → ¬ toI p _› (by (simp only [fitsL, Sort_.fits]; repeat' (first | exact True.intro | (with_reducible refine And.intro ?_ ?_) | exact ⟨_, ‹_›⟩ | exact ⟨_, rfl⟩ | exact ⟨_, ‹_›, fun a h => by cases h; omega, fun b h => by cases h; omega⟩ | exact ⟨_, rfl, fun a h => by cases h; decide, fun b h => by cases h; decide⟩)))
  have c0 := ‹¬ toI p _›
  exact c0 (toI_mk0 (s := []) rfl rfl ⟨0, 0, rfl, rfl, by decide, Writes.start _ 0⟩)
theorem toR_L12_ok {p : Par} (hp : Good p) : toR_L12 p := by
  intro σ; intros
  have g1 := hp.hF; have g2 := hp.hH; have g3 := hp.h0; have g4 := hp.hL; have k2 := hp.k2; have k16 := hp.k16
  obtain ⟨c, hb, hc4, hkc, hM⟩ := hp.hb
  have en : enc p (iv (σ 10)) = 0 := by unfold enc; rw [if_neg (by omega)]; omega
  have el := (enc_lt hp (x := iv (σ 10)) (by omega) (by omega)).2
  have hI0 := ‹toI p _›
  obtain ⟨n, y, hn, hy, hlt, hw⟩ := toI_eq (s := tl (σ 20)) hI0 rfl rfl
  have n0 : n = 0 := by omega
  have y0 : y = 0 := by omega
  subst n0; subst y0
  have hlen := hw.1
  have e0 := tl_none ‹σ 20 = Value.string ⟨#[]⟩›
  have e1 : tl (σ 39) = tl (vS #[48]) ++ tl (σ 20) := tl_app ‹tv (σ 39) = _›
  have st := to_step hp hlt hw (.inr e0)
  rw [Nat.zero_mod, Nat.zero_div] at st
  have e2 : sgA 0 :: tl (σ 20) = tl (σ 39) := by rw [e1]; rfl
  rw [e2] at st
  specialize ‹fitsL _ _ → toI p _ → ¬ (_ : Nat) < _› (by (simp only [fitsL, Sort_.fits]; repeat' (first | exact True.intro | (with_reducible refine And.intro ?_ ?_) | exact ⟨_, ‹_›⟩ | exact ⟨_, rfl⟩ | exact ⟨_, ‹_›, fun a h => by cases h; omega, fun b h => by cases h; omega⟩ | exact ⟨_, rfl, fun a h => by cases h; decide, fun b h => by cases h; decide⟩)))
  have c0 := ‹toI p _ → ¬ (_ : Nat) < _›
  have c1 := c0 (toI_mk0 (s := tl (σ 39)) rfl rfl st.1)
  rw [toIM_eq (s := tl (σ 39)) rfl rfl, toIM_eq (s := tl (σ 20)) rfl rfl] at c1
  exact c1 st.2
theorem toR_L13_ok {p : Par} (hp : Good p) : toR_L13 p := by
  intro σ; intros
  have g1 := hp.hF; have g2 := hp.hH; have g3 := hp.h0; have g4 := hp.hL; have k2 := hp.k2; have k16 := hp.k16
  obtain ⟨c, hb, hc4, hkc, hM⟩ := hp.hb
  have en : enc p (iv (σ 10)) = 0 := by unfold enc; rw [if_neg (by omega)]; omega
  have el := (enc_lt hp (x := iv (σ 10)) (by omega) (by omega)).2
  have hI0 := ‹toI p _›
  obtain ⟨n, y, hn, hy, hlt, hw⟩ := toI_eq (s := tl (σ 20)) hI0 rfl rfl
  have n0 : n = 0 := by omega
  have y0 : y = 0 := by omega
  subst n0; subst y0
  have hlen := hw.1
  have e0 := tl_none ‹σ 20 = Value.string ⟨#[]⟩›
  exact big_no (a := vS #[48]) (b := σ 20) rfl rfl (by rw [e0]; decide) ‹IntKind.i64.max < _›
theorem toR_L14_ok {p : Par} (hp : Good p) : toR_L14 p := by
  intro σ; intros
  have g1 := hp.hF; have g2 := hp.hH; have g3 := hp.h0; have g4 := hp.hL; have k2 := hp.k2; have k16 := hp.k16
  obtain ⟨c, hb, hc4, hkc, hM⟩ := hp.hb
  have en : enc p (iv (σ 10)) = 0 := by unfold enc; rw [if_neg (by omega)]; omega
  have el := (enc_lt hp (x := iv (σ 10)) (by omega) (by omega)).2
  have hI0 := ‹toI p _›
  obtain ⟨n, y, hn, hy, hlt, hw⟩ := toI_eq (s := tl (σ 20)) hI0 rfl rfl
  have n0 : n = 0 := by omega
  have y0 : y = 0 := by omega
  subst n0; subst y0
  have hlen := hw.1
  have e0 : tl (σ 20) ≠ [] := tl_some ‹∀ x ∈ ([⟨#[]⟩] : List ByteArray), _›
  have hz := ‹iv (σ 39) = ((tv (σ 20)).size : Nat)›
  rw [← tl_len] at hz
  have hg := wrap_neg hz (by omega) ‹iv (σ 40) = IntKind.i64.wrap (0 - iv (σ 39))›
  omega
theorem toR_L15_ok {p : Par} (hp : Good p) : toR_L15 p := by
  intro σ; intros
  have g1 := hp.hF; have g2 := hp.hH; have g3 := hp.h0; have g4 := hp.hL; have k2 := hp.k2; have k16 := hp.k16
  obtain ⟨c, hb, hc4, hkc, hM⟩ := hp.hb
  have en : enc p (iv (σ 10)) = 0 := by unfold enc; rw [if_neg (by omega)]; omega
  have el := (enc_lt hp (x := iv (σ 10)) (by omega) (by omega)).2
  have hI0 := ‹toI p _›
  obtain ⟨n, y, hn, hy, hlt, hw⟩ := toI_eq (s := tl (σ 20)) hI0 rfl rfl
  have n0 : n = 0 := by omega
  have y0 : y = 0 := by omega
  subst n0; subst y0
  have hlen := hw.1
  have e0 : tl (σ 20) ≠ [] := tl_some ‹∀ x ∈ ([⟨#[]⟩] : List ByteArray), _›
  have hz := ‹iv (σ 39) = ((tv (σ 20)).size : Nat)›
  rw [← tl_len] at hz
  have hg := wrap_neg hz (by omega) ‹iv (σ 40) = IntKind.i64.wrap (0 - iv (σ 39))›
  exfalso
  omega
theorem toR_L16_ok {p : Par} (hp : Good p) : toR_L16 p := by
  intro σ; intros
  have g1 := hp.hF; have g2 := hp.hH; have g3 := hp.h0; have g4 := hp.hL; have k2 := hp.k2; have k16 := hp.k16
  obtain ⟨c, hb, hc4, hkc, hM⟩ := hp.hb
  have en : enc p (iv (σ 10)) = 0 := by unfold enc; rw [if_neg (by omega)]; omega
  have el := (enc_lt hp (x := iv (σ 10)) (by omega) (by omega)).2
  have hI0 := ‹toI p _›
  obtain ⟨n, y, hn, hy, hlt, hw⟩ := toI_eq (s := tl (σ 20)) hI0 rfl rfl
  have n0 : n = 0 := by omega
  have y0 : y = 0 := by omega
  subst n0; subst y0
  have hlen := hw.1
  have e0 : tl (σ 20) ≠ [] := tl_some ‹∀ x ∈ ([⟨#[]⟩] : List ByteArray), _›
  have hz := ‹iv (σ 39) = ((tv (σ 20)).size : Nat)›
  rw [← tl_len] at hz
  have hg := wrap_neg hz (by omega) ‹iv (σ 40) = IntKind.i64.wrap (0 - iv (σ 39))›
  omega
theorem toR_L17_ok {p : Par} (hp : Good p) : toR_L17 p := by
  intro σ; intros
  have g1 := hp.hF; have g2 := hp.hH; have g3 := hp.h0; have g4 := hp.hL; have k2 := hp.k2; have k16 := hp.k16
  obtain ⟨c, hb, hc4, hkc, hM⟩ := hp.hb
  have en : enc p (iv (σ 10)) = 0 := by unfold enc; rw [if_neg (by omega)]; omega
  have el := (enc_lt hp (x := iv (σ 10)) (by omega) (by omega)).2
  have hI0 := ‹toI p _›
  obtain ⟨n, y, hn, hy, hlt, hw⟩ := toI_eq (s := tl (σ 20)) hI0 rfl rfl
  have n0 : n = 0 := by omega
  have y0 : y = 0 := by omega
  subst n0; subst y0
  have hlen := hw.1
  have e0 : tl (σ 20) ≠ [] := tl_some ‹∀ x ∈ ([⟨#[]⟩] : List ByteArray), _›
  have hz := ‹iv (σ 39) = ((tv (σ 20)).size : Nat)›
  rw [← tl_len] at hz
  have hg := wrap_neg hz (by omega) ‹iv (σ 40) = IntKind.i64.wrap (0 - iv (σ 39))›
  omega
theorem toR_L18_ok {p : Par} (hp : Good p) : toR_L18 p := by
  intro σ; intros
  have g1 := hp.hF; have g2 := hp.hH; have g3 := hp.h0; have g4 := hp.hL; have k2 := hp.k2; have k16 := hp.k16
  obtain ⟨c, hb, hc4, hkc, hM⟩ := hp.hb
  have en : enc p (iv (σ 10)) = 0 := by unfold enc; rw [if_neg (by omega)]; omega
  have el := (enc_lt hp (x := iv (σ 10)) (by omega) (by omega)).2
  have hI0 := ‹toI p _›
  obtain ⟨n, y, hn, hy, hlt, hw⟩ := toI_eq (s := tl (σ 20)) hI0 rfl rfl
  have n0 : n = 0 := by omega
  have y0 : y = 0 := by omega
  subst n0; subst y0
  have hlen := hw.1
  have e0 : tl (σ 20) ≠ [] := tl_some ‹∀ x ∈ ([⟨#[]⟩] : List ByteArray), _›
  have hz := ‹iv (σ 39) = ((tv (σ 20)).size : Nat)›
  rw [← tl_len] at hz
  have hg := wrap_neg hz (by omega) ‹iv (σ 40) = IntKind.i64.wrap (0 - iv (σ 39))›
  have er : tl (σ 42) = [] := rep_no (c := vZ) (n := 0) ‹rptR _› rfl
  have dn := hw.done (by omega) e0
  have dl := dg_lenK k2 10 0 (by decide) (Nat.pow_pos (by omega))
  have ea : tl (σ 43) = tl (σ 42) ++ tl (σ 20) := tl_app ‹tv (σ 43) = _›
  rw [er, List.nil_append, dn] at ea
  have hq := ‹iv (σ 44) = ((tv (σ 43)).size : Nat)›
  rw [← tl_len, ea] at hq
  omega
theorem toR_L19_ok {p : Par} (hp : Good p) : toR_L19 p := by
  intro σ; intros
  have g1 := hp.hF; have g2 := hp.hH; have g3 := hp.h0; have g4 := hp.hL; have k2 := hp.k2; have k16 := hp.k16
  obtain ⟨c, hb, hc4, hkc, hM⟩ := hp.hb
  have en : enc p (iv (σ 10)) = 0 := by unfold enc; rw [if_neg (by omega)]; omega
  have el := (enc_lt hp (x := iv (σ 10)) (by omega) (by omega)).2
  have hI0 := ‹toI p _›
  obtain ⟨n, y, hn, hy, hlt, hw⟩ := toI_eq (s := tl (σ 20)) hI0 rfl rfl
  have n0 : n = 0 := by omega
  have y0 : y = 0 := by omega
  subst n0; subst y0
  have hlen := hw.1
  have e0 : tl (σ 20) ≠ [] := tl_some ‹∀ x ∈ ([⟨#[]⟩] : List ByteArray), _›
  have hz := ‹iv (σ 39) = ((tv (σ 20)).size : Nat)›
  rw [← tl_len] at hz
  have hg := wrap_neg hz (by omega) ‹iv (σ 40) = IntKind.i64.wrap (0 - iv (σ 39))›
  have er : tl (σ 42) = [] := rep_no (c := vZ) (n := 0) ‹rptR _› rfl
  have dn := hw.done (by omega) e0
  have dl := dg_lenK k2 10 0 (by decide) (Nat.pow_pos (by omega))
  have ea : tl (σ 43) = tl (σ 42) ++ tl (σ 20) := tl_app ‹tv (σ 43) = _›
  rw [er, List.nil_append, dn] at ea
  show tl (σ 43) = dg p.kn (enc p (iv (σ 10)))
  rw [ea, en]
theorem toR_L20_ok {p : Par} (hp : Good p) : toR_L20 p := by
  intro σ; intros
  have g1 := hp.hF; have g2 := hp.hH; have g3 := hp.h0; have g4 := hp.hL; have k2 := hp.k2; have k16 := hp.k16
  obtain ⟨c, hb, hc4, hkc, hM⟩ := hp.hb
  have en : enc p (iv (σ 10)) = 0 := by unfold enc; rw [if_neg (by omega)]; omega
  have el := (enc_lt hp (x := iv (σ 10)) (by omega) (by omega)).2
  have hI0 := ‹toI p _›
  obtain ⟨n, y, hn, hy, hlt, hw⟩ := toI_eq (s := tl (σ 20)) hI0 rfl rfl
  have n0 : n = 0 := by omega
  have y0 : y = 0 := by omega
  subst n0; subst y0
  have hlen := hw.1
  have e0 : tl (σ 20) ≠ [] := tl_some ‹∀ x ∈ ([⟨#[]⟩] : List ByteArray), _›
  have hz := ‹iv (σ 39) = ((tv (σ 20)).size : Nat)›
  rw [← tl_len] at hz
  have hg := wrap_neg hz (by omega) ‹iv (σ 40) = IntKind.i64.wrap (0 - iv (σ 39))›
  have er : tl (σ 42) = [] := rep_no (c := vZ) (n := 0) ‹rptR _› rfl
  have dn := hw.done (by omega) e0
  have dl := dg_lenK k2 10 0 (by decide) (Nat.pow_pos (by omega))
  exact big_no (a := σ 42) (b := σ 20) (by rw [er]) rfl (by rw [dn]; simp only [List.length_nil]; omega) ‹IntKind.i64.max < _›
theorem toR_L21_ok {p : Par} (hp : Good p) : toR_L21 p := by
  intro σ; intros
  have g1 := hp.hF; have g2 := hp.hH; have g3 := hp.h0; have g4 := hp.hL; have k2 := hp.k2; have k16 := hp.k16
  obtain ⟨c, hb, hc4, hkc, hM⟩ := hp.hb
  have en : enc p (iv (σ 10)) = 0 := by unfold enc; rw [if_neg (by omega)]; omega
  have el := (enc_lt hp (x := iv (σ 10)) (by omega) (by omega)).2
  have hI0 := ‹toI p _›
  obtain ⟨n, y, hn, hy, hlt, hw⟩ := toI_eq (s := tl (σ 20)) hI0 rfl rfl
  have n0 : n = 0 := by omega
  have y0 : y = 0 := by omega
  subst n0; subst y0
  have hlen := hw.1
  have e0 : tl (σ 20) ≠ [] := tl_some ‹∀ x ∈ ([⟨#[]⟩] : List ByteArray), _›
  have hz := ‹iv (σ 39) = ((tv (σ 20)).size : Nat)›
  rw [← tl_len] at hz
  have hg := wrap_neg hz (by omega) ‹iv (σ 40) = IntKind.i64.wrap (0 - iv (σ 39))›
  have n_ := ‹¬ rptRPre _›
  exact n_ (rep_pre (c := vZ) (by decide) (by decide) (by decide))
theorem toR_L22_ok {p : Par} (hp : Good p) : toR_L22 p := by
  intro σ; intros
  have g1 := hp.hF; have g2 := hp.hH; have g3 := hp.h0; have g4 := hp.hL; have k2 := hp.k2; have k16 := hp.k16
  obtain ⟨c, hb, hc4, hkc, hM⟩ := hp.hb
  have en : iv (σ 10) = ((enc p (iv (σ 10)) : Nat) : Int) := by unfold enc; rw [if_neg (by omega)]; omega
  have el := (enc_lt hp (x := iv (σ 10)) (by omega) (by omega)).2
  specialize ‹fitsL _ _ → ¬ toI p _› (by (simp only [fitsL, Sort_.fits]; repeat' (first | exact True.intro | (with_reducible refine And.intro ?_ ?_) | exact ⟨_, ‹_›⟩ | exact ⟨_, rfl⟩ | exact ⟨_, ‹_›, fun a h => by cases h; omega, fun b h => by cases h; omega⟩ | exact ⟨_, rfl, fun a h => by cases h; decide, fun b h => by cases h; decide⟩)))
  have c0 := ‹¬ toI p _›
  exact c0 (toI_mk (N := iv (σ 10)) (x := iv (σ 10)) (s := []) rfl rfl rfl (by omega) ⟨_, _, en, en, el.2, Writes.start _ _⟩)
theorem toR_L23_ok {p : Par} (hp : Good p) : toR_L23 p := by
  intro σ; intros
  have g1 := hp.hF; have g2 := hp.hH; have g3 := hp.h0; have g4 := hp.hL; have k2 := hp.k2; have k16 := hp.k16
  obtain ⟨c, hb, hc4, hkc, hM⟩ := hp.hb
  have en : iv (σ 10) = ((enc p (iv (σ 10)) : Nat) : Int) := by unfold enc; rw [if_neg (by omega)]; omega
  have el := (enc_lt hp (x := iv (σ 10)) (by omega) (by omega)).2
  have hI0 := ‹toI p _›
  obtain ⟨n, y, hn, hy, hlt, hw⟩ := toI_ne (N := iv (σ 10)) (x := iv (σ 20)) (s := tl (σ 21)) hI0 rfl rfl rfl (by omega)
  have qn : n = enc p (iv (σ 10)) := by omega
  have hlen := hw.1
  have hd0 := ‹ibin .and IntKind.i64 (iv (σ 20)) p.M = _›
  have hd := and_mask hc4 hM hy (by omega) hd0
  rw [← hkc] at hd
  have hm : y % p.kn < p.kn := Nat.mod_lt y (by omega)
  have hs := ‹sgC[(iv (σ 41)).toNat]?.map _ = _›
  have e1 := sig_of (d := y % p.kn) (t := σ 45) (by omega) hd hs ‹tv (σ 45) = _›
  have e2 : tl (σ 46) = tl (σ 45) ++ tl (σ 21) := tl_app ‹tv (σ 46) = _›
  rw [e1] at e2
  have hs0 := ‹iv (σ 47) = (iv (σ 20)).fdiv _›
  have hs1 := shr_nat hc4 hb hy hs0
  rw [← hkc] at hs1
  have st := to_step hp hlt hw (.inl (by omega))
  have e3 : sgA (y % p.kn) :: tl (σ 21) = tl (σ 46) := by rw [e2]; rfl
  rw [e3, ← hs1, ← hy, ← hn] at st
  specialize ‹fitsL _ _ → toI p _ → ¬ (_ : Nat) < _› (by (simp only [fitsL, Sort_.fits]; repeat' (first | exact True.intro | (with_reducible refine And.intro ?_ ?_) | exact ⟨_, ‹_›⟩ | exact ⟨_, rfl⟩ | exact ⟨_, ‹_›, fun a h => by cases h; omega, fun b h => by cases h; omega⟩ | exact ⟨_, rfl, fun a h => by cases h; decide, fun b h => by cases h; decide⟩)))
  have c0 := ‹toI p _ → ¬ (_ : Nat) < _›
  have c1 := c0 (toI_mk (N := iv (σ 10)) (x := iv (σ 47)) (s := tl (σ 46)) rfl rfl rfl (by omega) st.1)
  rw [toIM_ne (N := iv (σ 10)) (x := iv (σ 47)) (s := tl (σ 46)) rfl rfl rfl (by omega), toIM_ne (N := iv (σ 10)) (x := iv (σ 20)) (s := tl (σ 21)) rfl rfl rfl (by omega)] at c1
  exact c1 st.2
theorem toR_L24_ok {p : Par} (hp : Good p) : toR_L24 p := by
  intro σ; intros
  have g1 := hp.hF; have g2 := hp.hH; have g3 := hp.h0; have g4 := hp.hL; have k2 := hp.k2; have k16 := hp.k16
  obtain ⟨c, hb, hc4, hkc, hM⟩ := hp.hb
  have en : iv (σ 10) = ((enc p (iv (σ 10)) : Nat) : Int) := by unfold enc; rw [if_neg (by omega)]; omega
  have el := (enc_lt hp (x := iv (σ 10)) (by omega) (by omega)).2
  have hI0 := ‹toI p _›
  obtain ⟨n, y, hn, hy, hlt, hw⟩ := toI_ne (N := iv (σ 10)) (x := iv (σ 20)) (s := tl (σ 21)) hI0 rfl rfl rfl (by omega)
  have qn : n = enc p (iv (σ 10)) := by omega
  have hlen := hw.1
  have hd0 := ‹ibin .and IntKind.i64 (iv (σ 20)) p.M = _›
  have hd := and_mask hc4 hM hy (by omega) hd0
  rw [← hkc] at hd
  have hm : y % p.kn < p.kn := Nat.mod_lt y (by omega)
  have hs := ‹sgC[(iv (σ 41)).toNat]?.map _ = _›
  have e1 := sig_of (d := y % p.kn) (t := σ 45) (by omega) hd hs ‹tv (σ 45) = _›
  exact big_no (a := σ 45) (b := σ 21) (by rw [e1]) rfl (by simp only [List.length_singleton]; omega) ‹IntKind.i64.max < _›
theorem toR_L25_ok {p : Par} (hp : Good p) : toR_L25 p := by
  intro σ; intros
  have g1 := hp.hF; have g2 := hp.hH; have g3 := hp.h0; have g4 := hp.hL; have k2 := hp.k2; have k16 := hp.k16
  obtain ⟨c, hb, hc4, hkc, hM⟩ := hp.hb
  have en : iv (σ 10) = ((enc p (iv (σ 10)) : Nat) : Int) := by unfold enc; rw [if_neg (by omega)]; omega
  have el := (enc_lt hp (x := iv (σ 10)) (by omega) (by omega)).2
  have hI0 := ‹toI p _›
  obtain ⟨n, y, hn, hy, hlt, hw⟩ := toI_ne (N := iv (σ 10)) (x := iv (σ 20)) (s := tl (σ 21)) hI0 rfl rfl rfl (by omega)
  have qn : n = enc p (iv (σ 10)) := by omega
  have hlen := hw.1
  have hd0 := ‹ibin .and IntKind.i64 (iv (σ 20)) p.M = _›
  have hd := and_mask hc4 hM hy (by omega) hd0
  rw [← hkc] at hd
  have hm : y % p.kn < p.kn := Nat.mod_lt y (by omega)
  omega
theorem toR_L26_ok {p : Par} (hp : Good p) : toR_L26 p := by
  intro σ; intros
  have g1 := hp.hF; have g2 := hp.hH; have g3 := hp.h0; have g4 := hp.hL; have k2 := hp.k2; have k16 := hp.k16
  obtain ⟨c, hb, hc4, hkc, hM⟩ := hp.hb
  have en : iv (σ 10) = ((enc p (iv (σ 10)) : Nat) : Int) := by unfold enc; rw [if_neg (by omega)]; omega
  have el := (enc_lt hp (x := iv (σ 10)) (by omega) (by omega)).2
  have hI0 := ‹toI p _›
  obtain ⟨n, y, hn, hy, hlt, hw⟩ := toI_ne (N := iv (σ 10)) (x := iv (σ 20)) (s := tl (σ 21)) hI0 rfl rfl rfl (by omega)
  have qn : n = enc p (iv (σ 10)) := by omega
  have hlen := hw.1
  have hd0 := ‹ibin .and IntKind.i64 (iv (σ 20)) p.M = _›
  have hd := and_mask hc4 hM hy (by omega) hd0
  rw [← hkc] at hd
  have hm : y % p.kn < p.kn := Nat.mod_lt y (by omega)
  omega
theorem toR_L27_ok {p : Par} (hp : Good p) : toR_L27 p := by
  intro σ; intros
  have g1 := hp.hF; have g2 := hp.hH; have g3 := hp.h0; have g4 := hp.hL; have k2 := hp.k2; have k16 := hp.k16
  obtain ⟨c, hb, hc4, hkc, hM⟩ := hp.hb
  have en : iv (σ 10) = ((enc p (iv (σ 10)) : Nat) : Int) := by unfold enc; rw [if_neg (by omega)]; omega
  have el := (enc_lt hp (x := iv (σ 10)) (by omega) (by omega)).2
  have hI0 := ‹toI p _›
  obtain ⟨n, y, hn, hy, hlt, hw⟩ := toI_ne (N := iv (σ 10)) (x := iv (σ 20)) (s := tl (σ 21)) hI0 rfl rfl rfl (by omega)
  have qn : n = enc p (iv (σ 10)) := by omega
  have hlen := hw.1
  have e0 := tl_none ‹σ 21 = Value.string ⟨#[]⟩›
  exfalso
  have := hw.nil e0
  omega
theorem toR_L28_ok {p : Par} (hp : Good p) : toR_L28 p := by
  intro σ; intros
  have g1 := hp.hF; have g2 := hp.hH; have g3 := hp.h0; have g4 := hp.hL; have k2 := hp.k2; have k16 := hp.k16
  obtain ⟨c, hb, hc4, hkc, hM⟩ := hp.hb
  have en : iv (σ 10) = ((enc p (iv (σ 10)) : Nat) : Int) := by unfold enc; rw [if_neg (by omega)]; omega
  have el := (enc_lt hp (x := iv (σ 10)) (by omega) (by omega)).2
  have hI0 := ‹toI p _›
  obtain ⟨n, y, hn, hy, hlt, hw⟩ := toI_ne (N := iv (σ 10)) (x := iv (σ 20)) (s := tl (σ 21)) hI0 rfl rfl rfl (by omega)
  have qn : n = enc p (iv (σ 10)) := by omega
  have hlen := hw.1
  have e0 := tl_none ‹σ 21 = Value.string ⟨#[]⟩›
  exfalso
  have := hw.nil e0
  omega
theorem toR_L29_ok {p : Par} (hp : Good p) : toR_L29 p := by
  intro σ; intros
  have g1 := hp.hF; have g2 := hp.hH; have g3 := hp.h0; have g4 := hp.hL; have k2 := hp.k2; have k16 := hp.k16
  obtain ⟨c, hb, hc4, hkc, hM⟩ := hp.hb
  have en : iv (σ 10) = ((enc p (iv (σ 10)) : Nat) : Int) := by unfold enc; rw [if_neg (by omega)]; omega
  have el := (enc_lt hp (x := iv (σ 10)) (by omega) (by omega)).2
  have hI0 := ‹toI p _›
  obtain ⟨n, y, hn, hy, hlt, hw⟩ := toI_ne (N := iv (σ 10)) (x := iv (σ 20)) (s := tl (σ 21)) hI0 rfl rfl rfl (by omega)
  have qn : n = enc p (iv (σ 10)) := by omega
  have hlen := hw.1
  have e0 := tl_none ‹σ 21 = Value.string ⟨#[]⟩›
  exfalso
  have := hw.nil e0
  omega
theorem toR_L30_ok {p : Par} (hp : Good p) : toR_L30 p := by
  intro σ; intros
  have g1 := hp.hF; have g2 := hp.hH; have g3 := hp.h0; have g4 := hp.hL; have k2 := hp.k2; have k16 := hp.k16
  obtain ⟨c, hb, hc4, hkc, hM⟩ := hp.hb
  have en : iv (σ 10) = ((enc p (iv (σ 10)) : Nat) : Int) := by unfold enc; rw [if_neg (by omega)]; omega
  have el := (enc_lt hp (x := iv (σ 10)) (by omega) (by omega)).2
  have hI0 := ‹toI p _›
  obtain ⟨n, y, hn, hy, hlt, hw⟩ := toI_ne (N := iv (σ 10)) (x := iv (σ 20)) (s := tl (σ 21)) hI0 rfl rfl rfl (by omega)
  have qn : n = enc p (iv (σ 10)) := by omega
  have hlen := hw.1
  have e0 := tl_none ‹σ 21 = Value.string ⟨#[]⟩›
  exfalso
  have := hw.nil e0
  omega
theorem toR_L31_ok {p : Par} (hp : Good p) : toR_L31 p := by
  intro σ; intros
  have g1 := hp.hF; have g2 := hp.hH; have g3 := hp.h0; have g4 := hp.hL; have k2 := hp.k2; have k16 := hp.k16
  obtain ⟨c, hb, hc4, hkc, hM⟩ := hp.hb
  have en : iv (σ 10) = ((enc p (iv (σ 10)) : Nat) : Int) := by unfold enc; rw [if_neg (by omega)]; omega
  have el := (enc_lt hp (x := iv (σ 10)) (by omega) (by omega)).2
  have hI0 := ‹toI p _›
  obtain ⟨n, y, hn, hy, hlt, hw⟩ := toI_ne (N := iv (σ 10)) (x := iv (σ 20)) (s := tl (σ 21)) hI0 rfl rfl rfl (by omega)
  have qn : n = enc p (iv (σ 10)) := by omega
  have hlen := hw.1
  have e0 : tl (σ 21) ≠ [] := tl_some ‹∀ x ∈ ([⟨#[]⟩] : List ByteArray), _›
  have hz := ‹iv (σ 41) = ((tv (σ 21)).size : Nat)›
  rw [← tl_len] at hz
  have hg := wrap_neg hz (by omega) ‹iv (σ 42) = IntKind.i64.wrap (0 - iv (σ 41))›
  omega
theorem toR_L32_ok {p : Par} (hp : Good p) : toR_L32 p := by
  intro σ; intros
  have g1 := hp.hF; have g2 := hp.hH; have g3 := hp.h0; have g4 := hp.hL; have k2 := hp.k2; have k16 := hp.k16
  obtain ⟨c, hb, hc4, hkc, hM⟩ := hp.hb
  have en : iv (σ 10) = ((enc p (iv (σ 10)) : Nat) : Int) := by unfold enc; rw [if_neg (by omega)]; omega
  have el := (enc_lt hp (x := iv (σ 10)) (by omega) (by omega)).2
  have hI0 := ‹toI p _›
  obtain ⟨n, y, hn, hy, hlt, hw⟩ := toI_ne (N := iv (σ 10)) (x := iv (σ 20)) (s := tl (σ 21)) hI0 rfl rfl rfl (by omega)
  have qn : n = enc p (iv (σ 10)) := by omega
  have hlen := hw.1
  have e0 : tl (σ 21) ≠ [] := tl_some ‹∀ x ∈ ([⟨#[]⟩] : List ByteArray), _›
  have hz := ‹iv (σ 41) = ((tv (σ 21)).size : Nat)›
  rw [← tl_len] at hz
  have hg := wrap_neg hz (by omega) ‹iv (σ 42) = IntKind.i64.wrap (0 - iv (σ 41))›
  exfalso
  omega
theorem toR_L33_ok {p : Par} (hp : Good p) : toR_L33 p := by
  intro σ; intros
  have g1 := hp.hF; have g2 := hp.hH; have g3 := hp.h0; have g4 := hp.hL; have k2 := hp.k2; have k16 := hp.k16
  obtain ⟨c, hb, hc4, hkc, hM⟩ := hp.hb
  have en : iv (σ 10) = ((enc p (iv (σ 10)) : Nat) : Int) := by unfold enc; rw [if_neg (by omega)]; omega
  have el := (enc_lt hp (x := iv (σ 10)) (by omega) (by omega)).2
  have hI0 := ‹toI p _›
  obtain ⟨n, y, hn, hy, hlt, hw⟩ := toI_ne (N := iv (σ 10)) (x := iv (σ 20)) (s := tl (σ 21)) hI0 rfl rfl rfl (by omega)
  have qn : n = enc p (iv (σ 10)) := by omega
  have hlen := hw.1
  have e0 : tl (σ 21) ≠ [] := tl_some ‹∀ x ∈ ([⟨#[]⟩] : List ByteArray), _›
  have hz := ‹iv (σ 41) = ((tv (σ 21)).size : Nat)›
  rw [← tl_len] at hz
  have hg := wrap_neg hz (by omega) ‹iv (σ 42) = IntKind.i64.wrap (0 - iv (σ 41))›
  omega
theorem toR_L34_ok {p : Par} (hp : Good p) : toR_L34 p := by
  intro σ; intros
  have g1 := hp.hF; have g2 := hp.hH; have g3 := hp.h0; have g4 := hp.hL; have k2 := hp.k2; have k16 := hp.k16
  obtain ⟨c, hb, hc4, hkc, hM⟩ := hp.hb
  have en : iv (σ 10) = ((enc p (iv (σ 10)) : Nat) : Int) := by unfold enc; rw [if_neg (by omega)]; omega
  have el := (enc_lt hp (x := iv (σ 10)) (by omega) (by omega)).2
  have hI0 := ‹toI p _›
  obtain ⟨n, y, hn, hy, hlt, hw⟩ := toI_ne (N := iv (σ 10)) (x := iv (σ 20)) (s := tl (σ 21)) hI0 rfl rfl rfl (by omega)
  have qn : n = enc p (iv (σ 10)) := by omega
  have hlen := hw.1
  have e0 : tl (σ 21) ≠ [] := tl_some ‹∀ x ∈ ([⟨#[]⟩] : List ByteArray), _›
  have hz := ‹iv (σ 41) = ((tv (σ 21)).size : Nat)›
  rw [← tl_len] at hz
  have hg := wrap_neg hz (by omega) ‹iv (σ 42) = IntKind.i64.wrap (0 - iv (σ 41))›
  omega
theorem toR_L35_ok {p : Par} (hp : Good p) : toR_L35 p := by
  intro σ; intros
  have g1 := hp.hF; have g2 := hp.hH; have g3 := hp.h0; have g4 := hp.hL; have k2 := hp.k2; have k16 := hp.k16
  obtain ⟨c, hb, hc4, hkc, hM⟩ := hp.hb
  have en : iv (σ 10) = ((enc p (iv (σ 10)) : Nat) : Int) := by unfold enc; rw [if_neg (by omega)]; omega
  have el := (enc_lt hp (x := iv (σ 10)) (by omega) (by omega)).2
  have hI0 := ‹toI p _›
  obtain ⟨n, y, hn, hy, hlt, hw⟩ := toI_ne (N := iv (σ 10)) (x := iv (σ 20)) (s := tl (σ 21)) hI0 rfl rfl rfl (by omega)
  have qn : n = enc p (iv (σ 10)) := by omega
  have hlen := hw.1
  have e0 : tl (σ 21) ≠ [] := tl_some ‹∀ x ∈ ([⟨#[]⟩] : List ByteArray), _›
  have hz := ‹iv (σ 41) = ((tv (σ 21)).size : Nat)›
  rw [← tl_len] at hz
  have hg := wrap_neg hz (by omega) ‹iv (σ 42) = IntKind.i64.wrap (0 - iv (σ 41))›
  have er : tl (σ 44) = [] := rep_no (c := vZ) (n := 0) ‹rptR _› rfl
  have dn := hw.done (by omega) e0
  have dl := dg_lenK k2 10 n (by decide) (by rw [qn]; exact el.1)
  have ea : tl (σ 45) = tl (σ 44) ++ tl (σ 21) := tl_app ‹tv (σ 45) = _›
  rw [er, List.nil_append, dn] at ea
  have hq := ‹iv (σ 46) = ((tv (σ 45)).size : Nat)›
  rw [← tl_len, ea] at hq
  omega
theorem toR_L36_ok {p : Par} (hp : Good p) : toR_L36 p := by
  intro σ; intros
  have g1 := hp.hF; have g2 := hp.hH; have g3 := hp.h0; have g4 := hp.hL; have k2 := hp.k2; have k16 := hp.k16
  obtain ⟨c, hb, hc4, hkc, hM⟩ := hp.hb
  have en : iv (σ 10) = ((enc p (iv (σ 10)) : Nat) : Int) := by unfold enc; rw [if_neg (by omega)]; omega
  have el := (enc_lt hp (x := iv (σ 10)) (by omega) (by omega)).2
  have hI0 := ‹toI p _›
  obtain ⟨n, y, hn, hy, hlt, hw⟩ := toI_ne (N := iv (σ 10)) (x := iv (σ 20)) (s := tl (σ 21)) hI0 rfl rfl rfl (by omega)
  have qn : n = enc p (iv (σ 10)) := by omega
  have hlen := hw.1
  have e0 : tl (σ 21) ≠ [] := tl_some ‹∀ x ∈ ([⟨#[]⟩] : List ByteArray), _›
  have hz := ‹iv (σ 41) = ((tv (σ 21)).size : Nat)›
  rw [← tl_len] at hz
  have hg := wrap_neg hz (by omega) ‹iv (σ 42) = IntKind.i64.wrap (0 - iv (σ 41))›
  have er : tl (σ 44) = [] := rep_no (c := vZ) (n := 0) ‹rptR _› rfl
  have dn := hw.done (by omega) e0
  have dl := dg_lenK k2 10 n (by decide) (by rw [qn]; exact el.1)
  have ea : tl (σ 45) = tl (σ 44) ++ tl (σ 21) := tl_app ‹tv (σ 45) = _›
  rw [er, List.nil_append, dn] at ea
  show tl (σ 45) = dg p.kn (enc p (iv (σ 10)))
  rw [ea, qn]
theorem toR_L37_ok {p : Par} (hp : Good p) : toR_L37 p := by
  intro σ; intros
  have g1 := hp.hF; have g2 := hp.hH; have g3 := hp.h0; have g4 := hp.hL; have k2 := hp.k2; have k16 := hp.k16
  obtain ⟨c, hb, hc4, hkc, hM⟩ := hp.hb
  have en : iv (σ 10) = ((enc p (iv (σ 10)) : Nat) : Int) := by unfold enc; rw [if_neg (by omega)]; omega
  have el := (enc_lt hp (x := iv (σ 10)) (by omega) (by omega)).2
  have hI0 := ‹toI p _›
  obtain ⟨n, y, hn, hy, hlt, hw⟩ := toI_ne (N := iv (σ 10)) (x := iv (σ 20)) (s := tl (σ 21)) hI0 rfl rfl rfl (by omega)
  have qn : n = enc p (iv (σ 10)) := by omega
  have hlen := hw.1
  have e0 : tl (σ 21) ≠ [] := tl_some ‹∀ x ∈ ([⟨#[]⟩] : List ByteArray), _›
  have hz := ‹iv (σ 41) = ((tv (σ 21)).size : Nat)›
  rw [← tl_len] at hz
  have hg := wrap_neg hz (by omega) ‹iv (σ 42) = IntKind.i64.wrap (0 - iv (σ 41))›
  have er : tl (σ 44) = [] := rep_no (c := vZ) (n := 0) ‹rptR _› rfl
  have dn := hw.done (by omega) e0
  have dl := dg_lenK k2 10 n (by decide) (by rw [qn]; exact el.1)
  exact big_no (a := σ 44) (b := σ 21) (by rw [er]) rfl (by rw [dn]; simp only [List.length_nil]; omega) ‹IntKind.i64.max < _›
theorem toR_L38_ok {p : Par} (hp : Good p) : toR_L38 p := by
  intro σ; intros
  have g1 := hp.hF; have g2 := hp.hH; have g3 := hp.h0; have g4 := hp.hL; have k2 := hp.k2; have k16 := hp.k16
  obtain ⟨c, hb, hc4, hkc, hM⟩ := hp.hb
  have en : iv (σ 10) = ((enc p (iv (σ 10)) : Nat) : Int) := by unfold enc; rw [if_neg (by omega)]; omega
  have el := (enc_lt hp (x := iv (σ 10)) (by omega) (by omega)).2
  have hI0 := ‹toI p _›
  obtain ⟨n, y, hn, hy, hlt, hw⟩ := toI_ne (N := iv (σ 10)) (x := iv (σ 20)) (s := tl (σ 21)) hI0 rfl rfl rfl (by omega)
  have qn : n = enc p (iv (σ 10)) := by omega
  have hlen := hw.1
  have e0 : tl (σ 21) ≠ [] := tl_some ‹∀ x ∈ ([⟨#[]⟩] : List ByteArray), _›
  have hz := ‹iv (σ 41) = ((tv (σ 21)).size : Nat)›
  rw [← tl_len] at hz
  have hg := wrap_neg hz (by omega) ‹iv (σ 42) = IntKind.i64.wrap (0 - iv (σ 41))›
  have n_ := ‹¬ rptRPre _›
  exact n_ (rep_pre (c := vZ) (by decide) (by decide) (by decide))
theorem dgt_okB : (dgtC pB).ok Tryz.prog Tabs := dgt_ok goodB (by kernel_rfl) fun t n h1 h2 h3 w => by
  have h3 : n < 1024 := h3
  refine (digits_BIN t n h1 h2 h3 w).mono fun e w' ⟨a, b⟩ => ⟨?_, b⟩
  rw [a]
  show Ending.returned (.int .i64 (if 512 ≤ n ∧ t.size = 10 then (n : Int) - 1024 else n)) = .returned (.int .i64 (if (512 : Int) ≤ (n : Int) ∧ t.size = 10 then (n : Int) - 1024 else n))
  by_cases k : 512 ≤ n ∧ t.size = 10
  · rw [if_pos k, if_pos (show (512 : Int) ≤ (n : Int) ∧ t.size = 10 from ⟨by omega, k.2⟩)]
  · rw [if_neg k, if_neg (show ¬ ((512 : Int) ≤ (n : Int) ∧ t.size = 10) from fun h => k ⟨by omega, h.2⟩)]
theorem cons_okB : ∀ c ∈ cons pB, c.ok Tryz.prog Tabs := all_cons vld_ok (all_cons rpt_ok (all_cons (ixB_ok (by decide)) (all_cons (ixB_ok (by decide)) (all_cons dgt_okB all_nil))))
theorem dgt_okO : (dgtC pO).ok Tryz.prog Tabs := dgt_ok goodO (by kernel_rfl) fun t n h1 h2 h3 w => by
  have h3 : n < 1073741824 := h3
  refine (digits_OCT t n h1 h2 h3 w).mono fun e w' ⟨a, b⟩ => ⟨?_, b⟩
  rw [a]
  show Ending.returned (.int .i64 (if 536870912 ≤ n ∧ t.size = 10 then (n : Int) - 1073741824 else n)) = .returned (.int .i64 (if (536870912 : Int) ≤ (n : Int) ∧ t.size = 10 then (n : Int) - 1073741824 else n))
  by_cases k : 536870912 ≤ n ∧ t.size = 10
  · rw [if_pos k, if_pos (show (536870912 : Int) ≤ (n : Int) ∧ t.size = 10 from ⟨by omega, k.2⟩)]
  · rw [if_neg k, if_neg (show ¬ ((536870912 : Int) ≤ (n : Int) ∧ t.size = 10) from fun h => k ⟨by omega, h.2⟩)]
theorem cons_okO : ∀ c ∈ cons pO, c.ok Tryz.prog Tabs := all_cons vld_ok (all_cons rpt_ok (all_cons (ixB_ok (by decide)) (all_cons (ixB_ok (by decide)) (all_cons dgt_okO all_nil))))
theorem dgt_okX : (dgtC pX).ok Tryz.prog Tabs := dgt_ok goodX (by kernel_rfl) fun t n h1 h2 h3 w => by
  have h3 : n < 1099511627776 := h3
  refine (digits_HEX t n h1 h2 h3 w).mono fun e w' ⟨a, b⟩ => ⟨?_, b⟩
  rw [a]
  show Ending.returned (.int .i64 (if 549755813888 ≤ n ∧ t.size = 10 then (n : Int) - 1099511627776 else n)) = .returned (.int .i64 (if (549755813888 : Int) ≤ (n : Int) ∧ t.size = 10 then (n : Int) - 1099511627776 else n))
  by_cases k : 549755813888 ≤ n ∧ t.size = 10
  · rw [if_pos k, if_pos (show (549755813888 : Int) ≤ (n : Int) ∧ t.size = 10 from ⟨by omega, k.2⟩)]
  · rw [if_neg k, if_neg (show ¬ ((549755813888 : Int) ≤ (n : Int) ∧ t.size = 10) from fun h => k ⟨by omega, h.2⟩)]
theorem cons_okX : ∀ c ∈ cons pX, c.ok Tryz.prog Tabs := all_cons vld_ok (all_cons rpt_ok (all_cons (ixB_ok (by decide)) (all_cons (ixB_ok (by decide)) (all_cons dgt_okX all_nil))))
theorem to_okB : (toC pB).ok Tryz.prog Tabs := by_tie toR_tieB (by kernel_rfl) (cons_okB) ⟨toR_L0_ok goodB, toR_L1_ok goodB, toR_L2_ok goodB, toR_L3_ok goodB, toR_L4_ok goodB, toR_L5_ok goodB, toR_L6_ok goodB, toR_L7_ok goodB, toR_L8_ok goodB, toR_L9_ok goodB, toR_L10_ok goodB, toR_L11_ok goodB, toR_L12_ok goodB, toR_L13_ok goodB, toR_L14_ok goodB, toR_L15_ok goodB, toR_L16_ok goodB, toR_L17_ok goodB, toR_L18_ok goodB, toR_L19_ok goodB, toR_L20_ok goodB, toR_L21_ok goodB, toR_L22_ok goodB, toR_L23_ok goodB, toR_L24_ok goodB, toR_L25_ok goodB, toR_L26_ok goodB, toR_L27_ok goodB, toR_L28_ok goodB, toR_L29_ok goodB, toR_L30_ok goodB, toR_L31_ok goodB, toR_L32_ok goodB, toR_L33_ok goodB, toR_L34_ok goodB, toR_L35_ok goodB, toR_L36_ok goodB, toR_L37_ok goodB, toR_L38_ok goodB, trivial⟩
theorem to_okO : (toC pO).ok Tryz.prog Tabs := by_tie toR_tieO (by kernel_rfl) (cons_okO) ⟨toR_L0_ok goodO, toR_L1_ok goodO, toR_L2_ok goodO, toR_L3_ok goodO, toR_L4_ok goodO, toR_L5_ok goodO, toR_L6_ok goodO, toR_L7_ok goodO, toR_L8_ok goodO, toR_L9_ok goodO, toR_L10_ok goodO, toR_L11_ok goodO, toR_L12_ok goodO, toR_L13_ok goodO, toR_L14_ok goodO, toR_L15_ok goodO, toR_L16_ok goodO, toR_L17_ok goodO, toR_L18_ok goodO, toR_L19_ok goodO, toR_L20_ok goodO, toR_L21_ok goodO, toR_L22_ok goodO, toR_L23_ok goodO, toR_L24_ok goodO, toR_L25_ok goodO, toR_L26_ok goodO, toR_L27_ok goodO, toR_L28_ok goodO, toR_L29_ok goodO, toR_L30_ok goodO, toR_L31_ok goodO, toR_L32_ok goodO, toR_L33_ok goodO, toR_L34_ok goodO, toR_L35_ok goodO, toR_L36_ok goodO, toR_L37_ok goodO, toR_L38_ok goodO, trivial⟩
theorem to_okX : (toC pX).ok Tryz.prog Tabs := by_tie toR_tieX (by kernel_rfl) (cons_okX) ⟨toR_L0_ok goodX, toR_L1_ok goodX, toR_L2_ok goodX, toR_L3_ok goodX, toR_L4_ok goodX, toR_L5_ok goodX, toR_L6_ok goodX, toR_L7_ok goodX, toR_L8_ok goodX, toR_L9_ok goodX, toR_L10_ok goodX, toR_L11_ok goodX, toR_L12_ok goodX, toR_L13_ok goodX, toR_L14_ok goodX, toR_L15_ok goodX, toR_L16_ok goodX, toR_L17_ok goodX, toR_L18_ok goodX, toR_L19_ok goodX, toR_L20_ok goodX, toR_L21_ok goodX, toR_L22_ok goodX, toR_L23_ok goodX, toR_L24_ok goodX, toR_L25_ok goodX, toR_L26_ok goodX, toR_L27_ok goodX, toR_L28_ok goodX, toR_L29_ok goodX, toR_L30_ok goodX, toR_L31_ok goodX, toR_L32_ok goodX, toR_L33_ok goodX, toR_L34_ok goodX, toR_L35_ok goodX, toR_L36_ok goodX, toR_L37_ok goodX, toR_L38_ok goodX, trivial⟩
end Go.Proofs.Bs
