/- MOD by 0. -/
import Derived.Test.YtgfoocnnidhepaaGreatDoorDivC
namespace Go.Proofs.Dv
open Go.Ev Go.RowKit Ieee Go.Proofs.YtgfoocnnidhepaaGreatDoor
set_option maxRecDepth 1000000
def md0R_L0 : Prop := ∀ σ : Nat → Value,
 σ 0 = (vS #[77,79,68]) →
 σ 2 = vF →
 σ 3 = vF →
 σ 4 = vO →
 σ 5 = vO →
 σ 7 = vZ →
 σ 8 = vZ →
 σ 9 = vO →
 tI (σ 10) →
 0 ≤ iv (σ 10) →
 iv (σ 10) ≤ 0 →
 tF (σ 11) →
 σ 12 = vE →
 σ 13 = vF →
 σ 14 = vZ →
 σ 15 = vF →
 σ 16 = vF →
 σ 17 = vO →
 σ 18 = vO →
 σ 20 = vZ →
 σ 21 = vZ →
 σ 22 = vO →
 σ 23 = (vG 0) →
 σ 24 = vE →
 σ 25 = vF →
 σ 26 = vZ →
 σ 27 = .int .u64 (iv (σ 27)) →
 σ 28 = .int .u64 (iv (σ 28)) →
 fv (σ 11) = FloatKind.f64.nearest (iv (σ 10)) →
 extRel .fbits [σ 11] (σ 27) →
 ibin .andNot IntKind.u64 (iv (σ 27)) (9223372036854775808) = some (.int IntKind.u64 (iv (σ 28))) →
 iv (σ 10) = 0 →
    md0R [(vS #[77,79,68]), vU, vF, vF, vO, vO, vU, vZ, vZ, vO, σ 10, σ 11, vE, vF, vZ, vF, vF, vO, vO, vU, vZ, vZ, vO, (vG 0), vE, vF, vZ, (vI 4), (vG 0), vE, vF, (vI 2), vT]
def md0R_L1 : Prop := ∀ σ : Nat → Value,
 σ 0 = (vS #[77,79,68]) →
 σ 2 = vF →
 σ 3 = vF →
 σ 4 = vO →
 σ 5 = vO →
 σ 7 = vZ →
 σ 8 = vZ →
 σ 9 = vO →
 tI (σ 10) →
 1 ≤ iv (σ 10) →
 iv (σ 10) ≤ 4294967295 →
 tF (σ 11) →
 σ 12 = vE →
 σ 13 = vF →
 σ 14 = vZ →
 σ 15 = vF →
 σ 16 = vF →
 σ 17 = vO →
 σ 18 = vO →
 σ 20 = vZ →
 σ 21 = vZ →
 σ 22 = vO →
 σ 23 = (vG 0) →
 σ 24 = vE →
 σ 25 = vF →
 σ 26 = vZ →
 σ 27 = .int .u64 (iv (σ 27)) →
 σ 28 = .int .u64 (iv (σ 28)) →
 fv (σ 11) = FloatKind.f64.nearest (iv (σ 10)) →
 extRel .fbits [σ 11] (σ 27) →
 ibin .andNot IntKind.u64 (iv (σ 27)) (9223372036854775808) = some (.int IntKind.u64 (iv (σ 28))) →
 iv (σ 10) ≠ 0 →
    md0R [(vS #[77,79,68]), vU, vF, vF, vO, vO, vU, vZ, vZ, vO, σ 10, σ 11, vE, vF, vZ, vF, vF, vO, vO, vU, vZ, vZ, vO, (vG 0), vE, vF, vZ, (vI 4), (vG 0), vE, vF, (vI 2), vT]
theorem md0R_tie : md0C.goals (cfgB md0C.base []) [] 2000 = (md0R_L0 ∧ md0R_L1 ∧ True) := by kernel_rfl
theorem md0R_L0_ok : md0R_L0 := by
  intro σ; intros; exact trivial
theorem md0R_L1_ok : md0R_L1 := by
  intro σ; intros; exact trivial
theorem md0_ok : md0C.ok Tryz.prog All :=
  by_tie md0R_tie (by kernel_rfl) all_nil ⟨md0R_L0_ok, md0R_L1_ok, trivial⟩
end Go.Proofs.Dv
