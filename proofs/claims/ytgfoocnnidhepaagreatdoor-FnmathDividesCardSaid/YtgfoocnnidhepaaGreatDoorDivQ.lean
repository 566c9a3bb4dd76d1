/- QUOTIENT of two whole numbers. -/
import Derived.Test.YtgfoocnnidhepaaGreatDoorDivC
namespace Go.Proofs.Dv
open Go.Ev Go.RowKit Ieee Go.Proofs.YtgfoocnnidhepaaGreatDoor
set_option maxRecDepth 1000000
def quoR_L0 : Prop := ∀ σ : Nat → Value,
 σ 0 = (vS #[81,85,79,84,73,69,78,84]) →
 σ 2 = vF →
 σ 3 = vF →
 σ 4 = vO →
 σ 5 = vO →
 σ 7 = vZ →
 σ 8 = vZ →
 σ 9 = vO →
 tI (σ 10) →
 0 ≤ iv (σ 10) →
 iv (σ 10) ≤ 0 →
 tF (σ 11) →
 σ 12 = vE →
 σ 13 = vF →
 σ 14 = vZ →
 σ 15 = vF →
 σ 16 = vF →
 σ 17 = vO →
 σ 18 = vO →
 σ 20 = vZ →
 σ 21 = vZ →
 σ 22 = vO →
 tI (σ 23) →
 1 ≤ iv (σ 23) →
 iv (σ 23) ≤ 4294967295 →
 tF (σ 24) →
 σ 25 = vE →
 σ 26 = vF →
 σ 27 = vZ →
 σ 28 = .int .u64 (iv (σ 28)) →
 σ 29 = .int .u64 (iv (σ 29)) →
 σ 31 = .int .u64 (iv (σ 31)) →
 σ 32 = .int .u64 (iv (σ 32)) →
 σ 33 = vO →
 tI (σ 34) →
 0 ≤ iv (σ 34) →
 iv (σ 34) ≤ 4294967295 →
 tF (σ 35) →
 σ 36 = vE →
 σ 37 = vF →
 σ 38 = vZ →
 σ 39 = vO →
 tI (σ 40) →
 0 ≤ iv (σ 40) →
 iv (σ 40) ≤ 0 →
 tF (σ 41) →
 σ 42 = vE →
 σ 43 = vF →
 σ 44 = vZ →
 fv (σ 24) = FloatKind.f64.nearest (iv (σ 23)) →
 fv (σ 11) = FloatKind.f64.nearest (iv (σ 10)) →
 extRel .fbits [σ 11] (σ 28) →
 ibin .andNot IntKind.u64 (iv (σ 28)) (9223372036854775808) = some (.int IntKind.u64 (iv (σ 29))) →
 extRel .fbits [σ 24] (σ 31) →
 ibin .andNot IntKind.u64 (iv (σ 31)) (9223372036854775808) = some (.int IntKind.u64 (iv (σ 32))) →
 fv (σ 35) = FloatKind.f64.nearest (iv (σ 34)) →
 reckWR [σ 10, σ 11, vO, σ 34, σ 35, vE, vF, vZ] →
 fv (σ 41) = FloatKind.f64.nearest (iv (σ 40)) →
 reckWR [σ 23, σ 24, vO, σ 40, σ 41, vE, vF, vZ] →
 iv (σ 40) = 0 →
 bv (σ 45) = !true →
 iv (σ 10) = 0 →
    False
def quoR_L1 : Prop := ∀ σ : Nat → Value,
 σ 0 = (vS #[81,85,79,84,73,69,78,84]) →
 σ 2 = vF →
 σ 3 = vF →
 σ 4 = vO →
 σ 5 = vO →
 σ 7 = vZ →
 σ 8 = vZ →
 σ 9 = vO →
 tI (σ 10) →
 0 ≤ iv (σ 10) →
 iv (σ 10) ≤ 0 →
 tF (σ 11) →
 σ 12 = vE →
 σ 13 = vF →
 σ 14 = vZ →
 σ 15 = vF →
 σ 16 = vF →
 σ 17 = vO →
 σ 18 = vO →
 σ 20 = vZ →
 σ 21 = vZ →
 σ 22 = vO →
 tI (σ 23) →
 1 ≤ iv (σ 23) →
 iv (σ 23) ≤ 4294967295 →
 tF (σ 24) →
 σ 25 = vE →
 σ 26 = vF →
 σ 27 = vZ →
 σ 28 = .int .u64 (iv (σ 28)) →
 σ 29 = .int .u64 (iv (σ 29)) →
 σ 31 = .int .u64 (iv (σ 31)) →
 σ 32 = .int .u64 (iv (σ 32)) →
 σ 33 = vO →
 tI (σ 34) →
 0 ≤ iv (σ 34) →
 iv (σ 34) ≤ 4294967295 →
 tF (σ 35) →
 σ 36 = vE →
 σ 37 = vF →
 σ 38 = vZ →
 σ 39 = vO →
 tI (σ 40) →
 1 ≤ iv (σ 40) →
 iv (σ 40) ≤ 4294967295 →
 tF (σ 41) →
 σ 42 = vE →
 σ 43 = vF →
 σ 44 = vZ →
 tF (σ 47) →
 tI (σ 48) →
 0 ≤ iv (σ 48) →
 iv (σ 48) ≤ 4294967295 →
 tF (σ 49) →
 σ 50 = vO →
 tI (σ 51) →
 0 ≤ iv (σ 51) →
 iv (σ 51) ≤ 4294967295 →
 tF (σ 52) →
 σ 53 = vE →
 σ 54 = vF →
 σ 55 = vZ →
 fv (σ 24) = FloatKind.f64.nearest (iv (σ 23)) →
 fv (σ 11) = FloatKind.f64.nearest (iv (σ 10)) →
 extRel .fbits [σ 11] (σ 28) →
 ibin .andNot IntKind.u64 (iv (σ 28)) (9223372036854775808) = some (.int IntKind.u64 (iv (σ 29))) →
 extRel .fbits [σ 24] (σ 31) →
 ibin .andNot IntKind.u64 (iv (σ 31)) (9223372036854775808) = some (.int IntKind.u64 (iv (σ 32))) →
 fv (σ 35) = FloatKind.f64.nearest (iv (σ 34)) →
 reckWR [σ 10, σ 11, vO, σ 34, σ 35, vE, vF, vZ] →
 fv (σ 41) = FloatKind.f64.nearest (iv (σ 40)) →
 reckWR [σ 23, σ 24, vO, σ 40, σ 41, vE, vF, vZ] →
 (farV .quo .f64 (fv (σ 35)) (fv (σ 41)) = some (some (fv (σ 47))) ∨ (farV .quo .f64 (fv (σ 35)) (fv (σ 41)) = some none ∧ Nan64 (fv (σ 47)))) →
 iv (σ 48) = (iv (σ 34) : Int).tdiv (iv (σ 40)) →
 fv (σ 49) = FloatKind.f64.nearest (iv (σ 48)) →
 fv (σ 52) = FloatKind.f64.nearest (iv (σ 51)) →
 reckWR [σ 48, σ 49, vO, σ 51, σ 52, vE, vF, vZ] →
 iv (σ 40) ≠ 0 →
 bv (σ 45) = !false →
 iv (σ 10) = 0 →
    quoR [(vS #[81,85,79,84,73,69,78,84]), vU, vF, vF, vO, vO, vU, vZ, vZ, vO, σ 10, σ 11, vE, vF, vZ, vF, vF, vO, vO, vU, vZ, vZ, vO, σ 23, σ 24, vE, vF, vZ, vO, σ 51, σ 52, vE, vF, vZ, vT]
def quoR_L2 : Prop := ∀ σ : Nat → Value,
 σ 0 = (vS #[81,85,79,84,73,69,78,84]) →
 σ 2 = vF →
 σ 3 = vF →
 σ 4 = vO →
 σ 5 = vO →
 σ 7 = vZ →
 σ 8 = vZ →
 σ 9 = vO →
 tI (σ 10) →
 1 ≤ iv (σ 10) →
 iv (σ 10) ≤ 4294967295 →
 tF (σ 11) →
 σ 12 = vE →
 σ 13 = vF →
 σ 14 = vZ →
 σ 15 = vF →
 σ 16 = vF →
 σ 17 = vO →
 σ 18 = vO →
 σ 20 = vZ →
 σ 21 = vZ →
 σ 22 = vO →
 tI (σ 23) →
 1 ≤ iv (σ 23) →
 iv (σ 23) ≤ 4294967295 →
 tF (σ 24) →
 σ 25 = vE →
 σ 26 = vF →
 σ 27 = vZ →
 σ 28 = .int .u64 (iv (σ 28)) →
 σ 29 = .int .u64 (iv (σ 29)) →
 σ 31 = .int .u64 (iv (σ 31)) →
 σ 32 = .int .u64 (iv (σ 32)) →
 σ 33 = vO →
 tI (σ 34) →
 0 ≤ iv (σ 34) →
 iv (σ 34) ≤ 4294967295 →
 tF (σ 35) →
 σ 36 = vE →
 σ 37 = vF →
 σ 38 = vZ →
 σ 39 = vO →
 tI (σ 40) →
 0 ≤ iv (σ 40) →
 iv (σ 40) ≤ 0 →
 tF (σ 41) →
 σ 42 = vE →
 σ 43 = vF →
 σ 44 = vZ →
 fv (σ 24) = FloatKind.f64.nearest (iv (σ 23)) →
 fv (σ 11) = FloatKind.f64.nearest (iv (σ 10)) →
 extRel .fbits [σ 11] (σ 28) →
 ibin .andNot IntKind.u64 (iv (σ 28)) (9223372036854775808) = some (.int IntKind.u64 (iv (σ 29))) →
 extRel .fbits [σ 24] (σ 31) →
 ibin .andNot IntKind.u64 (iv (σ 31)) (9223372036854775808) = some (.int IntKind.u64 (iv (σ 32))) →
 fv (σ 35) = FloatKind.f64.nearest (iv (σ 34)) →
 reckWR [σ 10, σ 11, vO, σ 34, σ 35, vE, vF, vZ] →
 fv (σ 41) = FloatKind.f64.nearest (iv (σ 40)) →
 reckWR [σ 23, σ 24, vO, σ 40, σ 41, vE, vF, vZ] →
 iv (σ 40) = 0 →
 bv (σ 45) = !true →
 iv (σ 10) ≠ 0 →
    False
def quoR_L3 : Prop := ∀ σ : Nat → Value,
 σ 0 = (vS #[81,85,79,84,73,69,78,84]) →
 σ 2 = vF →
 σ 3 = vF →
 σ 4 = vO →
 σ 5 = vO →
 σ 7 = vZ →
 σ 8 = vZ →
 σ 9 = vO →
 tI (σ 10) →
 1 ≤ iv (σ 10) →
 iv (σ 10) ≤ 4294967295 →
 tF (σ 11) →
 σ 12 = vE →
 σ 13 = vF →
 σ 14 = vZ →
 σ 15 = vF →
 σ 16 = vF →
 σ 17 = vO →
 σ 18 = vO →
 σ 20 = vZ →
 σ 21 = vZ →
 σ 22 = vO →
 tI (σ 23) →
 1 ≤ iv (σ 23) →
 iv (σ 23) ≤ 4294967295 →
 tF (σ 24) →
 σ 25 = vE →
 σ 26 = vF →
 σ 27 = vZ →
 σ 28 = .int .u64 (iv (σ 28)) →
 σ 29 = .int .u64 (iv (σ 29)) →
 σ 31 = .int .u64 (iv (σ 31)) →
 σ 32 = .int .u64 (iv (σ 32)) →
 σ 33 = vO →
 tI (σ 34) →
 0 ≤ iv (σ 34) →
 iv (σ 34) ≤ 4294967295 →
 tF (σ 35) →
 σ 36 = vE →
 σ 37 = vF →
 σ 38 = vZ →
 σ 39 = vO →
 tI (σ 40) →
 1 ≤ iv (σ 40) →
 iv (σ 40) ≤ 4294967295 →
 tF (σ 41) →
 σ 42 = vE →
 σ 43 = vF →
 σ 44 = vZ →
 tF (σ 47) →
 tI (σ 48) →
 0 ≤ iv (σ 48) →
 iv (σ 48) ≤ 4294967295 →
 tF (σ 49) →
 σ 50 = vO →
 tI (σ 51) →
 0 ≤ iv (σ 51) →
 iv (σ 51) ≤ 4294967295 →
 tF (σ 52) →
 σ 53 = vE →
 σ 54 = vF →
 σ 55 = vZ →
 fv (σ 24) = FloatKind.f64.nearest (iv (σ 23)) →
 fv (σ 11) = FloatKind.f64.nearest (iv (σ 10)) →
 extRel .fbits [σ 11] (σ 28) →
 ibin .andNot IntKind.u64 (iv (σ 28)) (9223372036854775808) = some (.int IntKind.u64 (iv (σ 29))) →
 extRel .fbits [σ 24] (σ 31) →
 ibin .andNot IntKind.u64 (iv (σ 31)) (9223372036854775808) = some (.int IntKind.u64 (iv (σ 32))) →
 fv (σ 35) = FloatKind.f64.nearest (iv (σ 34)) →
 reckWR [σ 10, σ 11, vO, σ 34, σ 35, vE, vF, vZ] →
 fv (σ 41) = FloatKind.f64.nearest (iv (σ 40)) →
 reckWR [σ 23, σ 24, vO, σ 40, σ 41, vE, vF, vZ] →
 (farV .quo .f64 (fv (σ 35)) (fv (σ 41)) = some (some (fv (σ 47))) ∨ (farV .quo .f64 (fv (σ 35)) (fv (σ 41)) = some none ∧ Nan64 (fv (σ 47)))) →
 iv (σ 48) = (iv (σ 34) : Int).tdiv (iv (σ 40)) →
 fv (σ 49) = FloatKind.f64.nearest (iv (σ 48)) →
 fv (σ 52) = FloatKind.f64.nearest (iv (σ 51)) →
 reckWR [σ 48, σ 49, vO, σ 51, σ 52, vE, vF, vZ] →
 iv (σ 40) ≠ 0 →
 bv (σ 45) = !false →
 iv (σ 10) ≠ 0 →
    quoR [(vS #[81,85,79,84,73,69,78,84]), vU, vF, vF, vO, vO, vU, vZ, vZ, vO, σ 10, σ 11, vE, vF, vZ, vF, vF, vO, vO, vU, vZ, vZ, vO, σ 23, σ 24, vE, vF, vZ, vO, σ 51, σ 52, vE, vF, vZ, vT]
theorem quoR_tie : qC.goals (cfgB qC.base [reckWC]) [] 2000 = (quoR_L0 ∧ quoR_L1 ∧ quoR_L2 ∧ quoR_L3 ∧ True) := by kernel_rfl
theorem quoR_L0_ok : quoR_L0 := by
  intro σ; intros
  have w10_ := ‹reckWR [σ 10, σ 11, vO, σ 34, σ 35, vE, vF, vZ]›
  have w10 : iv (σ 34) = iv (σ 10) := w10_
  have w23_ := ‹reckWR [σ 23, σ 24, vO, σ 40, σ 41, vE, vF, vZ]›
  have w23 : iv (σ 40) = iv (σ 23) := w23_
  omega
theorem quoR_L1_ok : quoR_L1 := by
  intro σ; intros
  have w10_ := ‹reckWR [σ 10, σ 11, vO, σ 34, σ 35, vE, vF, vZ]›
  have w10 : iv (σ 34) = iv (σ 10) := w10_
  have w23_ := ‹reckWR [σ 23, σ 24, vO, σ 40, σ 41, vE, vF, vZ]›
  have w23 : iv (σ 40) = iv (σ 23) := w23_
  have td := ‹iv (σ 48) = (iv (σ 34) : Int).tdiv (iv (σ 40))›
  have e_ := ‹reckWR [σ 48, σ 49, vO, σ 51, σ 52, vE, vF, vZ]›
  have e : iv (σ 51) = iv (σ 48) := e_
  rw [w10, w23] at td
  exact e.trans td
theorem quoR_L2_ok : quoR_L2 := by
  intro σ; intros
  have w10_ := ‹reckWR [σ 10, σ 11, vO, σ 34, σ 35, vE, vF, vZ]›
  have w10 : iv (σ 34) = iv (σ 10) := w10_
  have w23_ := ‹reckWR [σ 23, σ 24, vO, σ 40, σ 41, vE, vF, vZ]›
  have w23 : iv (σ 40) = iv (σ 23) := w23_
  omega
theorem quoR_L3_ok : quoR_L3 := by
  intro σ; intros
  have w10_ := ‹reckWR [σ 10, σ 11, vO, σ 34, σ 35, vE, vF, vZ]›
  have w10 : iv (σ 34) = iv (σ 10) := w10_
  have w23_ := ‹reckWR [σ 23, σ 24, vO, σ 40, σ 41, vE, vF, vZ]›
  have w23 : iv (σ 40) = iv (σ 23) := w23_
  have td := ‹iv (σ 48) = (iv (σ 34) : Int).tdiv (iv (σ 40))›
  have e_ := ‹reckWR [σ 48, σ 49, vO, σ 51, σ 52, vE, vF, vZ]›
  have e : iv (σ 51) = iv (σ 48) := e_
  rw [w10, w23] at td
  exact e.trans td
theorem q_ok : qC.ok Tryz.prog All :=
  by_tie quoR_tie (by kernel_rfl) (all_cons reckW_ok all_nil) ⟨quoR_L0_ok, quoR_L1_ok, quoR_L2_ok, quoR_L3_ok, trivial⟩
end Go.Proofs.Dv
