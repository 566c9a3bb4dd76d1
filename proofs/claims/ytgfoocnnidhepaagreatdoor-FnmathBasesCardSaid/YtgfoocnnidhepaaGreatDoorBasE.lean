/- The law of bases. -/
import Derived.Test.YtgfoocnnidhepaaGreatDoorBasB
import Derived.Test.YtgfoocnnidhepaaGreatDoorBasC
import Derived.Test.YtgfoocnnidhepaaGreatDoorBasD
namespace Go.Proofs.Bs
open Go.Ev Go.RowKit Ieee
set_option maxRecDepth 1000000
def isTrue_L0 : Prop := ∀ _ : Nat → Value,
    isTrue [vT]
theorem isTrue_tie : liveC.goals (cfgB liveC.base []) [] 2000 = (isTrue_L0 ∧ True) := by kernel_rfl
theorem live_ok : liveC.ok Tryz.prog Tabs := by_tie isTrue_tie (by kernel_rfl) all_nil ⟨fun _ => by intros; rfl, trivial⟩
def lawR_L0 : Prop := ∀ σ : Nat → Value,
 tU (σ 0) →
 0 ≤ iv (σ 0) →
 iv (σ 0) ≤ 18446744073709551615 →
 σ 1 = .int .u8 (iv (σ 1)) →
 0 ≤ iv (σ 1) →
 iv (σ 1) ≤ 255 →
 σ 2 = .int .u16 (iv (σ 2)) →
 0 ≤ iv (σ 2) →
 iv (σ 2) ≤ 65535 →
 tU (σ 3) →
 0 ≤ iv (σ 3) →
 iv (σ 3) ≤ 9007199254740991 →
 tI (σ 4) →
 0 ≤ iv (σ 4) →
 iv (σ 4) ≤ 9007199254740991 →
 tF (σ 5) →
 σ 6 = .int .u8 (iv (σ 6)) →
 0 ≤ iv (σ 6) →
 iv (σ 6) ≤ 34 →
 σ 7 = .int .u8 (iv (σ 7)) →
 2 ≤ iv (σ 7) →
 iv (σ 7) ≤ 36 →
 tI (σ 8) →
 2 ≤ iv (σ 8) →
 iv (σ 8) ≤ 36 →
 tF (σ 9) →
 σ 10 = (vI 2) →
 σ 11 = (vG 0) →
 tS (σ 12) →
 σ 13 = vF →
 σ 14 = vZ →
 σ 15 = vT →
 σ 16 = vO →
 tF (σ 17) →
 σ 18 = vE →
 σ 19 = vF →
 σ 20 = vZ →
 σ 21 = vT →
 σ 22 = .int .u16 (iv (σ 22)) →
 0 ≤ iv (σ 22) →
 iv (σ 22) ≤ 3999 →
 tI (σ 23) →
 0 ≤ iv (σ 23) →
 iv (σ 23) ≤ 3999 →
 tF (σ 24) →
 σ 25 = (vI 2) →
 σ 26 = (vG 0) →
 tS (σ 27) →
 σ 28 = vF →
 σ 29 = vZ →
 σ 30 = vT →
 σ 31 = vO →
 tF (σ 32) →
 σ 33 = vE →
 σ 34 = vF →
 σ 35 = vZ →
 σ 36 = vT →
 tB (σ 39) →
 iv (σ 3) = (iv (σ 0) : Int).tmod (9007199254740992) →
 iv (σ 4) = iv (σ 3) →
 fv (σ 5) = nE (iv (σ 4)) →
 iv (σ 6) = (iv (σ 1) : Int).tmod (35) →
 iv (σ 7) = iv (σ 6) + 2 →
 iv (σ 8) = iv (σ 7) →
 fv (σ 9) = nE (iv (σ 8)) →
 baseR [(vS #[66,65,83,69]),vU, vF, vF, vO, vO,vU,vZ,vZ, vO,σ 4,σ 5, vE, vF,vZ, vF, vF, vO, vO,vU,vZ,vZ, vO,σ 8,σ 9, vE, vF,vZ, (vI 2), (vG 0),σ 12, vF,vZ, vT] →
 deciR [(vS #[68,69,67,73,77,65,76]),vU, vF, vF, vO, vO,vU,vZ,vZ, (vI 2), (vG 0),σ 12, vF,vZ, vF, vF, vO, vO,vU,vZ,vZ, vO,σ 8,σ 9, vE, vF,vZ, vO,σ 17, vE, vF,vZ, vT] →
 iv (σ 22) = (iv (σ 2) : Int).tmod (4000) →
 iv (σ 23) = iv (σ 22) →
 fv (σ 24) = nE (iv (σ 23)) →
 romR [(vS #[82,79,77,65,78]),vU, vF, vF, vO, vO,vU,vZ,vZ, vO,σ 23,σ 24, vE, vF,vZ, (vI 2), (vG 0),σ 27, vF,vZ, vT] →
 araR [(vS #[65,82,65,66,73,67]),vU, vF, vF, vO, vO,vU,vZ,vZ, (vI 2), (vG 0),σ 27, vF,vZ, vO,σ 32, vE, vF,vZ, vT] →
 isTrue [σ 37] →
 fcmpV .eql .f64 (fv (σ 32)) (fv (σ 24)) = some (.bool (bv (σ 39))) →
 ford (fv (σ 17)) (fv (σ 5)) = some .eq →
 bv (σ 37) = true →
    lawR [σ 0,σ 1,σ 2,σ 39]
def lawR_L1 : Prop := ∀ σ : Nat → Value,
 tU (σ 0) →
 0 ≤ iv (σ 0) →
 iv (σ 0) ≤ 18446744073709551615 →
 σ 1 = .int .u8 (iv (σ 1)) →
 0 ≤ iv (σ 1) →
 iv (σ 1) ≤ 255 →
 σ 2 = .int .u16 (iv (σ 2)) →
 0 ≤ iv (σ 2) →
 iv (σ 2) ≤ 65535 →
 tU (σ 3) →
 0 ≤ iv (σ 3) →
 iv (σ 3) ≤ 9007199254740991 →
 tI (σ 4) →
 0 ≤ iv (σ 4) →
 iv (σ 4) ≤ 9007199254740991 →
 tF (σ 5) →
 σ 6 = .int .u8 (iv (σ 6)) →
 0 ≤ iv (σ 6) →
 iv (σ 6) ≤ 34 →
 σ 7 = .int .u8 (iv (σ 7)) →
 2 ≤ iv (σ 7) →
 iv (σ 7) ≤ 36 →
 tI (σ 8) →
 2 ≤ iv (σ 8) →
 iv (σ 8) ≤ 36 →
 tF (σ 9) →
 σ 10 = (vI 2) →
 σ 11 = (vG 0) →
 tS (σ 12) →
 σ 13 = vF →
 σ 14 = vZ →
 σ 15 = vT →
 σ 16 = vO →
 tF (σ 17) →
 σ 18 = vE →
 σ 19 = vF →
 σ 20 = vZ →
 σ 21 = vT →
 σ 22 = .int .u16 (iv (σ 22)) →
 0 ≤ iv (σ 22) →
 iv (σ 22) ≤ 3999 →
 tI (σ 23) →
 0 ≤ iv (σ 23) →
 iv (σ 23) ≤ 3999 →
 tF (σ 24) →
 σ 25 = (vI 2) →
 σ 26 = (vG 0) →
 tS (σ 27) →
 σ 28 = vF →
 σ 29 = vZ →
 σ 30 = vT →
 σ 31 = vO →
 tF (σ 32) →
 σ 33 = vE →
 σ 34 = vF →
 σ 35 = vZ →
 σ 36 = vT →
 iv (σ 3) = (iv (σ 0) : Int).tmod (9007199254740992) →
 iv (σ 4) = iv (σ 3) →
 fv (σ 5) = nE (iv (σ 4)) →
 iv (σ 6) = (iv (σ 1) : Int).tmod (35) →
 iv (σ 7) = iv (σ 6) + 2 →
 iv (σ 8) = iv (σ 7) →
 fv (σ 9) = nE (iv (σ 8)) →
 baseR [(vS #[66,65,83,69]),vU, vF, vF, vO, vO,vU,vZ,vZ, vO,σ 4,σ 5, vE, vF,vZ, vF, vF, vO, vO,vU,vZ,vZ, vO,σ 8,σ 9, vE, vF,vZ, (vI 2), (vG 0),σ 12, vF,vZ, vT] →
 deciR [(vS #[68,69,67,73,77,65,76]),vU, vF, vF, vO, vO,vU,vZ,vZ, (vI 2), (vG 0),σ 12, vF,vZ, vF, vF, vO, vO,vU,vZ,vZ, vO,σ 8,σ 9, vE, vF,vZ, vO,σ 17, vE, vF,vZ, vT] →
 iv (σ 22) = (iv (σ 2) : Int).tmod (4000) →
 iv (σ 23) = iv (σ 22) →
 fv (σ 24) = nE (iv (σ 23)) →
 romR [(vS #[82,79,77,65,78]),vU, vF, vF, vO, vO,vU,vZ,vZ, vO,σ 23,σ 24, vE, vF,vZ, (vI 2), (vG 0),σ 27, vF,vZ, vT] →
 araR [(vS #[65,82,65,66,73,67]),vU, vF, vF, vO, vO,vU,vZ,vZ, (vI 2), (vG 0),σ 27, vF,vZ, vO,σ 32, vE, vF,vZ, vT] →
 isTrue [σ 37] →
 ford (fv (σ 17)) (fv (σ 5)) ≠ some .eq →
 bv (σ 37) = true →
    lawR [σ 0,σ 1,σ 2, vF]
def lawR_L2 : Prop := ∀ σ : Nat → Value,
 tU (σ 0) →
 0 ≤ iv (σ 0) →
 iv (σ 0) ≤ 18446744073709551615 →
 σ 1 = .int .u8 (iv (σ 1)) →
 0 ≤ iv (σ 1) →
 iv (σ 1) ≤ 255 →
 σ 2 = .int .u16 (iv (σ 2)) →
 0 ≤ iv (σ 2) →
 iv (σ 2) ≤ 65535 →
 tU (σ 3) →
 0 ≤ iv (σ 3) →
 iv (σ 3) ≤ 9007199254740991 →
 tI (σ 4) →
 0 ≤ iv (σ 4) →
 iv (σ 4) ≤ 9007199254740991 →
 tF (σ 5) →
 σ 6 = .int .u8 (iv (σ 6)) →
 0 ≤ iv (σ 6) →
 iv (σ 6) ≤ 34 →
 σ 7 = .int .u8 (iv (σ 7)) →
 2 ≤ iv (σ 7) →
 iv (σ 7) ≤ 36 →
 tI (σ 8) →
 2 ≤ iv (σ 8) →
 iv (σ 8) ≤ 36 →
 tF (σ 9) →
 σ 10 = (vI 2) →
 σ 11 = (vG 0) →
 tS (σ 12) →
 σ 13 = vF →
 σ 14 = vZ →
 σ 15 = vT →
 σ 16 = vO →
 tF (σ 17) →
 σ 18 = vE →
 σ 19 = vF →
 σ 20 = vZ →
 σ 21 = vT →
 σ 22 = .int .u16 (iv (σ 22)) →
 0 ≤ iv (σ 22) →
 iv (σ 22) ≤ 3999 →
 tI (σ 23) →
 0 ≤ iv (σ 23) →
 iv (σ 23) ≤ 3999 →
 tF (σ 24) →
 σ 25 = (vI 2) →
 σ 26 = (vG 0) →
 tS (σ 27) →
 σ 28 = vF →
 σ 29 = vZ →
 σ 30 = vT →
 σ 31 = vO →
 tF (σ 32) →
 σ 33 = vE →
 σ 34 = vF →
 σ 35 = vZ →
 σ 36 = vT →
 iv (σ 3) = (iv (σ 0) : Int).tmod (9007199254740992) →
 iv (σ 4) = iv (σ 3) →
 fv (σ 5) = nE (iv (σ 4)) →
 iv (σ 6) = (iv (σ 1) : Int).tmod (35) →
 iv (σ 7) = iv (σ 6) + 2 →
 iv (σ 8) = iv (σ 7) →
 fv (σ 9) = nE (iv (σ 8)) →
 baseR [(vS #[66,65,83,69]),vU, vF, vF, vO, vO,vU,vZ,vZ, vO,σ 4,σ 5, vE, vF,vZ, vF, vF, vO, vO,vU,vZ,vZ, vO,σ 8,σ 9, vE, vF,vZ, (vI 2), (vG 0),σ 12, vF,vZ, vT] →
 deciR [(vS #[68,69,67,73,77,65,76]),vU, vF, vF, vO, vO,vU,vZ,vZ, (vI 2), (vG 0),σ 12, vF,vZ, vF, vF, vO, vO,vU,vZ,vZ, vO,σ 8,σ 9, vE, vF,vZ, vO,σ 17, vE, vF,vZ, vT] →
 iv (σ 22) = (iv (σ 2) : Int).tmod (4000) →
 iv (σ 23) = iv (σ 22) →
 fv (σ 24) = nE (iv (σ 23)) →
 romR [(vS #[82,79,77,65,78]),vU, vF, vF, vO, vO,vU,vZ,vZ, vO,σ 23,σ 24, vE, vF,vZ, (vI 2), (vG 0),σ 27, vF,vZ, vT] →
 araR [(vS #[65,82,65,66,73,67]),vU, vF, vF, vO, vO,vU,vZ,vZ, (vI 2), (vG 0),σ 27, vF,vZ, vO,σ 32, vE, vF,vZ, vT] →
 isTrue [σ 37] →
 bv (σ 37) = false →
    lawR [σ 0,σ 1,σ 2, vF]
def lawR_L3 : Prop := ∀ σ : Nat → Value,
 tU (σ 0) →
 0 ≤ iv (σ 0) →
 iv (σ 0) ≤ 18446744073709551615 →
 σ 1 = .int .u8 (iv (σ 1)) →
 0 ≤ iv (σ 1) →
 iv (σ 1) ≤ 255 →
 σ 2 = .int .u16 (iv (σ 2)) →
 0 ≤ iv (σ 2) →
 iv (σ 2) ≤ 65535 →
 tU (σ 3) →
 0 ≤ iv (σ 3) →
 iv (σ 3) ≤ 9007199254740991 →
 tI (σ 4) →
 0 ≤ iv (σ 4) →
 iv (σ 4) ≤ 9007199254740991 →
 tF (σ 5) →
 σ 6 = .int .u8 (iv (σ 6)) →
 0 ≤ iv (σ 6) →
 iv (σ 6) ≤ 34 →
 σ 7 = .int .u8 (iv (σ 7)) →
 2 ≤ iv (σ 7) →
 iv (σ 7) ≤ 36 →
 tI (σ 8) →
 2 ≤ iv (σ 8) →
 iv (σ 8) ≤ 36 →
 tF (σ 9) →
 σ 10 = (vI 2) →
 σ 11 = (vG 0) →
 tS (σ 12) →
 σ 13 = vF →
 σ 14 = vZ →
 σ 15 = vT →
 σ 16 = vO →
 tF (σ 17) →
 σ 18 = vE →
 σ 19 = vF →
 σ 20 = vZ →
 σ 21 = vT →
 σ 22 = .int .u16 (iv (σ 22)) →
 0 ≤ iv (σ 22) →
 iv (σ 22) ≤ 3999 →
 tI (σ 23) →
 0 ≤ iv (σ 23) →
 iv (σ 23) ≤ 3999 →
 tF (σ 24) →
 σ 25 = (vI 2) →
 σ 26 = (vG 0) →
 tS (σ 27) →
 σ 28 = vF →
 σ 29 = vZ →
 σ 30 = vT →
 iv (σ 3) = (iv (σ 0) : Int).tmod (9007199254740992) →
 iv (σ 4) = iv (σ 3) →
 fv (σ 5) = nE (iv (σ 4)) →
 iv (σ 6) = (iv (σ 1) : Int).tmod (35) →
 iv (σ 7) = iv (σ 6) + 2 →
 iv (σ 8) = iv (σ 7) →
 fv (σ 9) = nE (iv (σ 8)) →
 baseR [(vS #[66,65,83,69]),vU, vF, vF, vO, vO,vU,vZ,vZ, vO,σ 4,σ 5, vE, vF,vZ, vF, vF, vO, vO,vU,vZ,vZ, vO,σ 8,σ 9, vE, vF,vZ, (vI 2), (vG 0),σ 12, vF,vZ, vT] →
 deciR [(vS #[68,69,67,73,77,65,76]),vU, vF, vF, vO, vO,vU,vZ,vZ, (vI 2), (vG 0),σ 12, vF,vZ, vF, vF, vO, vO,vU,vZ,vZ, vO,σ 8,σ 9, vE, vF,vZ, vO,σ 17, vE, vF,vZ, vT] →
 iv (σ 22) = (iv (σ 2) : Int).tmod (4000) →
 iv (σ 23) = iv (σ 22) →
 fv (σ 24) = nE (iv (σ 23)) →
 romR [(vS #[82,79,77,65,78]),vU, vF, vF, vO, vO,vU,vZ,vZ, vO,σ 23,σ 24, vE, vF,vZ, (vI 2), (vG 0),σ 27, vF,vZ, vT] →
 ¬ araRPre [(vS #[65,82,65,66,73,67]),vU, vF, vF, vO, vO,vU,vZ,vZ, (vI 2), (vG 0),σ 27, vF,vZ] →
    False
def lawR_L4 : Prop := ∀ σ : Nat → Value,
 tU (σ 0) →
 0 ≤ iv (σ 0) →
 iv (σ 0) ≤ 18446744073709551615 →
 σ 1 = .int .u8 (iv (σ 1)) →
 0 ≤ iv (σ 1) →
 iv (σ 1) ≤ 255 →
 σ 2 = .int .u16 (iv (σ 2)) →
 0 ≤ iv (σ 2) →
 iv (σ 2) ≤ 65535 →
 tU (σ 3) →
 0 ≤ iv (σ 3) →
 iv (σ 3) ≤ 9007199254740991 →
 tI (σ 4) →
 0 ≤ iv (σ 4) →
 iv (σ 4) ≤ 9007199254740991 →
 tF (σ 5) →
 σ 6 = .int .u8 (iv (σ 6)) →
 0 ≤ iv (σ 6) →
 iv (σ 6) ≤ 34 →
 σ 7 = .int .u8 (iv (σ 7)) →
 2 ≤ iv (σ 7) →
 iv (σ 7) ≤ 36 →
 tI (σ 8) →
 2 ≤ iv (σ 8) →
 iv (σ 8) ≤ 36 →
 tF (σ 9) →
 σ 10 = (vI 2) →
 σ 11 = (vG 0) →
 tS (σ 12) →
 σ 13 = vF →
 σ 14 = vZ →
 σ 15 = vT →
 iv (σ 3) = (iv (σ 0) : Int).tmod (9007199254740992) →
 iv (σ 4) = iv (σ 3) →
 fv (σ 5) = nE (iv (σ 4)) →
 iv (σ 6) = (iv (σ 1) : Int).tmod (35) →
 iv (σ 7) = iv (σ 6) + 2 →
 iv (σ 8) = iv (σ 7) →
 fv (σ 9) = nE (iv (σ 8)) →
 baseR [(vS #[66,65,83,69]),vU, vF, vF, vO, vO,vU,vZ,vZ, vO,σ 4,σ 5, vE, vF,vZ, vF, vF, vO, vO,vU,vZ,vZ, vO,σ 8,σ 9, vE, vF,vZ, (vI 2), (vG 0),σ 12, vF,vZ, vT] →
 ¬ deciRPre [(vS #[68,69,67,73,77,65,76]),vU, vF, vF, vO, vO,vU,vZ,vZ, (vI 2), (vG 0),σ 12, vF,vZ, vF, vF, vO, vO,vU,vZ,vZ, vO,σ 8,σ 9, vE, vF,vZ] →
    False
theorem lawR_tie : lawC.goals (cfgB lawC.base [baseC, deciC, romC, araC, liveC]) [] 2000 = (lawR_L0 ∧ lawR_L1 ∧ lawR_L2 ∧ lawR_L3 ∧ lawR_L4 ∧ True) := by kernel_rfl
theorem lawR_L0_ok : lawR_L0 := by
  intro σ; intros
  obtain ⟨N, hN⟩ : ∃ N : Nat, iv (σ 4) = N := ⟨(iv (σ 4)).toNat, by omega⟩
  obtain ⟨K, hK⟩ : ∃ K : Nat, iv (σ 8) = K := ⟨(iv (σ 8)).toNat, by omega⟩
  have hb0 := ‹baseR _›
  have hb : tl (σ 12) = dg (iv (σ 8)).toNat (iv (σ 4)).toNat := hb0
  rw [hN, Int.toNat_natCast] at hb
  have fn := ‹fv (σ 5) = nE (iv (σ 4))›
  rw [hN] at fn
  have fn : fv (σ 5) = nr N := fn
  have n53 : N < 9007199254740992 := by omega
  have hd0 := ‹deciR _›
  have hd : fv (σ 17) = nr N := hd0 N n53 hb
  obtain ⟨m, hm⟩ : ∃ m : Nat, iv (σ 23) = m := ⟨(iv (σ 23)).toNat, by omega⟩
  have hr0 := ‹romR _›
  have hr : tl (σ 27) = roman (iv (σ 23)).toNat := hr0
  rw [hm, Int.toNat_natCast] at hr
  have ha0 := ‹araR _›
  have ha : fv (σ 32) = nr m := ha0 m (by omega) hr
  have fm := ‹fv (σ 24) = nE (iv (σ 23))›
  rw [hm] at fm
  have fm : fv (σ 24) = nr m := fm
  have cc := ‹fcmpV .eql .f64 (fv (σ 32)) (fv (σ 24)) = _›
  have fz := (nr_sv (n := m) (by omega)).1
  rw [ha, fm, cmp_sv fz fz (k := .i64) rfl] at cc
  simp only [ibin, Option.some.injEq, Value.bool.injEq] at cc
  have tb : bv (σ 39) = true := by rw [← cc]; simp
  show σ 39 = .bool true
  have ty := ‹σ 39 = .bool (bv (σ 39))›
  rw [ty, tb]
theorem lawR_L1_ok : lawR_L1 := by
  intro σ; intros
  obtain ⟨N, hN⟩ : ∃ N : Nat, iv (σ 4) = N := ⟨(iv (σ 4)).toNat, by omega⟩
  obtain ⟨K, hK⟩ : ∃ K : Nat, iv (σ 8) = K := ⟨(iv (σ 8)).toNat, by omega⟩
  have hb0 := ‹baseR _›
  have hb : tl (σ 12) = dg (iv (σ 8)).toNat (iv (σ 4)).toNat := hb0
  rw [hN, Int.toNat_natCast] at hb
  have fn := ‹fv (σ 5) = nE (iv (σ 4))›
  rw [hN] at fn
  have fn : fv (σ 5) = nr N := fn
  have n53 : N < 9007199254740992 := by omega
  have hd0 := ‹deciR _›
  have hd : fv (σ 17) = nr N := hd0 N n53 hb
  obtain ⟨m, hm⟩ : ∃ m : Nat, iv (σ 23) = m := ⟨(iv (σ 23)).toNat, by omega⟩
  have hr0 := ‹romR _›
  have hr : tl (σ 27) = roman (iv (σ 23)).toNat := hr0
  rw [hm, Int.toNat_natCast] at hr
  have ha0 := ‹araR _›
  have ha : fv (σ 32) = nr m := ha0 m (by omega) hr
  have fm := ‹fv (σ 24) = nE (iv (σ 23))›
  rw [hm] at fm
  have fm : fv (σ 24) = nr m := fm
  exfalso
  have c := ‹ford (fv (σ 17)) (fv (σ 5)) ≠ some .eq›
  rw [hd, fn] at c
  exact c (ford_self (nr_sv (by omega)).1)
theorem lawR_L2_ok : lawR_L2 := by
  intro σ; intros
  have t := ‹isTrue [σ 37]›
  have t2 := true_of t
  rw [‹bv (σ 37) = false›] at t2
  cases t2
theorem lawR_L3_ok : lawR_L3 := by
  intro σ; intros
  obtain ⟨N, hN⟩ : ∃ N : Nat, iv (σ 4) = N := ⟨(iv (σ 4)).toNat, by omega⟩
  obtain ⟨K, hK⟩ : ∃ K : Nat, iv (σ 8) = K := ⟨(iv (σ 8)).toNat, by omega⟩
  have hb0 := ‹baseR _›
  have hb : tl (σ 12) = dg (iv (σ 8)).toNat (iv (σ 4)).toNat := hb0
  rw [hN, Int.toNat_natCast] at hb
  have fn := ‹fv (σ 5) = nE (iv (σ 4))›
  rw [hN] at fn
  have fn : fv (σ 5) = nr N := fn
  have n53 : N < 9007199254740992 := by omega
  have hd0 := ‹deciR _›
  have hd : fv (σ 17) = nr N := hd0 N n53 hb
  obtain ⟨m, hm⟩ : ∃ m : Nat, iv (σ 23) = m := ⟨(iv (σ 23)).toNat, by omega⟩
  have hr0 := ‹romR _›
  have hr : tl (σ 27) = roman (iv (σ 23)).toNat := hr0
  rw [hm, Int.toNat_natCast] at hr
  have n_ := ‹¬ araRPre _›
  exact n_ ⟨m, by omega, hr⟩
theorem lawR_L4_ok : lawR_L4 := by
  intro σ; intros
  obtain ⟨N, hN⟩ : ∃ N : Nat, iv (σ 4) = N := ⟨(iv (σ 4)).toNat, by omega⟩
  obtain ⟨K, hK⟩ : ∃ K : Nat, iv (σ 8) = K := ⟨(iv (σ 8)).toNat, by omega⟩
  have hb0 := ‹baseR _›
  have hb : tl (σ 12) = dg (iv (σ 8)).toNat (iv (σ 4)).toNat := hb0
  rw [hN, Int.toNat_natCast] at hb
  have fn := ‹fv (σ 5) = nE (iv (σ 4))›
  rw [hN] at fn
  have fn : fv (σ 5) = nr N := fn
  have n53 : N < 9007199254740992 := by omega
  have n_ := ‹¬ deciRPre _›
  exact n_ ⟨N, n53, hb⟩
theorem law_ok : lawC.ok Tryz.prog Tabs :=
  by_tie lawR_tie (by kernel_rfl) (all_cons base_ok (all_cons deci_ok (all_cons rom_ok (all_cons ara_ok (all_cons live_ok all_nil))))) ⟨lawR_L0_ok, lawR_L1_ok, lawR_L2_ok, lawR_L3_ok, lawR_L4_ok, trivial⟩
end Go.Proofs.Bs
