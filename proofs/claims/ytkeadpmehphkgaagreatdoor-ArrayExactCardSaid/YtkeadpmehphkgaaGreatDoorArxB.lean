/- Operators of two numbers. -/
import Derived.Test.YtkeadpmehphkgaaGreatDoorArxA
namespace Go.Proofs.Arx
open Go.Ev Go.RowKit Ieee Go.Proofs.YtkeadpmehphkgaaGreatDoor
set_option maxRecDepth 1000000
def addR_L0 : Prop := ∀ σ : Nat → Value,
 σ 0 = (vI 15) →
 σ 1 = vO →
 tF (σ 2) →
 σ 3 = vE →
 σ 4 = vF →
 σ 5 = vZ →
 σ 6 = vO →
 tF (σ 7) →
 σ 8 = vE →
 σ 9 = vF →
 σ 10 = vZ →
 σ 11 = vZ →
 σ 12 = vZ →
 addRPre [(vI 15), vO, σ 2, vE, vF, vZ, vO, σ 7, vE, vF, vZ] →
 chkR [vO, σ 2, vE, vF, vZ, vZ] →
 chkR [vO, σ 7, vE, vF, vZ, vZ] →
 ¬ asnRPre [vO, σ 2, vE, vF, vZ] →
    False
def addR_L1 : Prop := ∀ σ : Nat → Value,
 σ 0 = (vI 15) →
 σ 1 = vO →
 tF (σ 2) →
 σ 3 = vE →
 σ 4 = vF →
 σ 5 = vZ →
 σ 6 = vO →
 tF (σ 7) →
 σ 8 = vE →
 σ 9 = vF →
 σ 10 = vZ →
 σ 11 = vZ →
 σ 12 = vZ →
 σ 13 = vO →
 tF (σ 14) →
 σ 15 = vE →
 σ 16 = vF →
 σ 17 = vZ →
 addRPre [(vI 15), vO, σ 2, vE, vF, vZ, vO, σ 7, vE, vF, vZ] →
 chkR [vO, σ 2, vE, vF, vZ, vZ] →
 chkR [vO, σ 7, vE, vF, vZ, vZ] →
 asnR [vO, σ 2, vE, vF, vZ, vO, σ 14, vE, vF, vZ] →
 ¬ asnRPre [vO, σ 7, vE, vF, vZ] →
    False
def addR_L14 : Prop := ∀ σ : Nat → Value,
 σ 0 = (vI 15) →
 σ 1 = vO →
 tF (σ 2) →
 σ 3 = vE →
 σ 4 = vF →
 σ 5 = vZ →
 σ 6 = vO →
 tF (σ 7) →
 σ 8 = vE →
 σ 9 = vF →
 σ 10 = vZ →
 σ 11 = vZ →
 σ 12 = vZ →
 σ 13 = vO →
 tF (σ 14) →
 σ 15 = vE →
 σ 16 = vF →
 σ 17 = vZ →
 σ 18 = vO →
 tF (σ 19) →
 σ 20 = vE →
 σ 21 = vF →
 σ 22 = vZ →
 tF (σ 23) →
 tI (σ 24) →
 tF (σ 25) →
 σ 26 = vE →
 σ 27 = vF →
 tI (σ 28) →
 addRPre [(vI 15), vO, σ 2, vE, vF, vZ, vO, σ 7, vE, vF, vZ] →
 chkR [vO, σ 2, vE, vF, vZ, vZ] →
 chkR [vO, σ 7, vE, vF, vZ, vZ] →
 asnR [vO, σ 2, vE, vF, vZ, vO, σ 14, vE, vF, vZ] →
 asnR [vO, σ 7, vE, vF, vZ, vO, σ 19, vE, vF, vZ] →
 (farV .add .f64 (fv (σ 14)) (fv (σ 19)) = some (some (fv (σ 23))) ∨ (farV .add .f64 (fv (σ 14)) (fv (σ 19)) = some none ∧ Nan64 (fv (σ 23)))) →
 reckR [σ 23, σ 24, σ 25, vE, vF, σ 28] →
    addR [(vI 15), vO, σ 2, vE, vF, vZ, vO, σ 7, vE, vF, vZ, σ 24, σ 25, vE, vF, σ 28]
def addR_L25 : Prop := ∀ σ : Nat → Value,
 σ 0 = (vI 15) →
 σ 1 = vO →
 tF (σ 2) →
 σ 3 = vE →
 σ 4 = vF →
 σ 5 = vZ →
 σ 6 = vO →
 tF (σ 7) →
 σ 8 = vE →
 σ 9 = vF →
 σ 10 = vZ →
 σ 11 = vZ →
 addRPre [(vI 15), vO, σ 2, vE, vF, vZ, vO, σ 7, vE, vF, vZ] →
 chkR [vO, σ 2, vE, vF, vZ, vZ] →
 ¬ chkRPre [vO, σ 7, vE, vF, vZ] →
    False
def addR_L26 : Prop := ∀ σ : Nat → Value,
 σ 0 = (vI 15) →
 σ 1 = vO →
 tF (σ 2) →
 σ 3 = vE →
 σ 4 = vF →
 σ 5 = vZ →
 σ 6 = vO →
 tF (σ 7) →
 σ 8 = vE →
 σ 9 = vF →
 σ 10 = vZ →
 addRPre [(vI 15), vO, σ 2, vE, vF, vZ, vO, σ 7, vE, vF, vZ] →
 ¬ chkRPre [vO, σ 2, vE, vF, vZ] →
    False
theorem addR_tie : addC.goals (cfgB addC.base [chkC, asnC, reckC]) [] 2000 = (addR_L0 ∧ addR_L1 ∧ addR_L0 ∧ addR_L0 ∧ addR_L1 ∧ addR_L1 ∧ addR_L1 ∧ addR_L0 ∧ addR_L1 ∧ addR_L1 ∧ addR_L1 ∧ addR_L1 ∧ addR_L1 ∧ addR_L1 ∧ addR_L14 ∧ addR_L14 ∧ addR_L14 ∧ addR_L14 ∧ addR_L14 ∧ addR_L14 ∧ addR_L14 ∧ addR_L14 ∧ addR_L14 ∧ addR_L14 ∧ addR_L14 ∧ addR_L25 ∧ addR_L26 ∧ True) := by kernel_rfl
theorem addR_L0_ok : addR_L0 := by
  intro σ; intros
  have p_ := ‹addRPre _›
  have p : niceF (fv (σ 2)) ∧ niceF (fv (σ 7)) := p_
  have n_ := ‹¬ asnRPre _›
  exact n_ p.1
theorem addR_L1_ok : addR_L1 := by
  intro σ; intros
  have p_ := ‹addRPre _›
  have p : niceF (fv (σ 2)) ∧ niceF (fv (σ 7)) := p_
  have n_ := ‹¬ asnRPre _›
  exact n_ p.2
theorem addR_L14_ok : addR_L14 := by
  intro σ; intros
  have p_ := ‹addRPre _›
  have p : niceF (fv (σ 2)) ∧ niceF (fv (σ 7)) := p_
  have ex_ := ‹asnR [vO, σ 2, vE, vF, vZ, vO, σ 14, vE, vF, vZ]›
  have ex : fv (σ 14) = fv (σ 2) := ex_
  have ey_ := ‹asnR [vO, σ 7, vE, vF, vZ, vO, σ 19, vE, vF, vZ]›
  have ey : fv (σ 19) = fv (σ 7) := ey_
  have r0_ := ‹reckR _›
  have r0 : RK (fv (σ 23)) (iv (σ 24)) (fv (σ 25)) (iv (σ 28)) := r0_
  have f0_ := ‹farV .add .f64 _ _ = _ ∨ _›
  have f0 : FarR .add (fv (σ 14)) (fv (σ 19)) (fv (σ 23)) := f0_
  rw [ex, ey] at f0
  exact ⟨_, f0, r0⟩
theorem addR_L25_ok : addR_L25 := by
  intro σ; intros
  have p_ := ‹addRPre _›
  have p : niceF (fv (σ 2)) ∧ niceF (fv (σ 7)) := p_
  have n_ := ‹¬ chkRPre _›
  exact n_ p.2
theorem addR_L26_ok : addR_L26 := by
  intro σ; intros
  have p_ := ‹addRPre _›
  have p : niceF (fv (σ 2)) ∧ niceF (fv (σ 7)) := p_
  have n_ := ‹¬ chkRPre _›
  exact n_ p.1
theorem add_ok : addC.ok Tryz.prog All :=
  by_tie addR_tie (by kernel_rfl) (all_cons chk_ok (all_cons asn_ok (all_cons reck_ok all_nil))) ⟨addR_L0_ok, addR_L1_ok, addR_L0_ok, addR_L0_ok, addR_L1_ok, addR_L1_ok, addR_L1_ok, addR_L0_ok, addR_L1_ok, addR_L1_ok, addR_L1_ok, addR_L1_ok, addR_L1_ok, addR_L1_ok, addR_L14_ok, addR_L14_ok, addR_L14_ok, addR_L14_ok, addR_L14_ok, addR_L14_ok, addR_L14_ok, addR_L14_ok, addR_L14_ok, addR_L14_ok, addR_L14_ok, addR_L25_ok, addR_L26_ok, trivial⟩
def subR_L0 : Prop := ∀ σ : Nat → Value,
 σ 0 = (vI 16) →
 σ 1 = vO →
 tF (σ 2) →
 σ 3 = vE →
 σ 4 = vF →
 σ 5 = vZ →
 σ 6 = vO →
 tF (σ 7) →
 σ 8 = vE →
 σ 9 = vF →
 σ 10 = vZ →
 σ 11 = vZ →
 σ 12 = vZ →
 subRPre [(vI 16), vO, σ 2, vE, vF, vZ, vO, σ 7, vE, vF, vZ] →
 chkR [vO, σ 2, vE, vF, vZ, vZ] →
 chkR [vO, σ 7, vE, vF, vZ, vZ] →
 ¬ asnRPre [vO, σ 2, vE, vF, vZ] →
    False
def subR_L1 : Prop := ∀ σ : Nat → Value,
 σ 0 = (vI 16) →
 σ 1 = vO →
 tF (σ 2) →
 σ 3 = vE →
 σ 4 = vF →
 σ 5 = vZ →
 σ 6 = vO →
 tF (σ 7) →
 σ 8 = vE →
 σ 9 = vF →
 σ 10 = vZ →
 σ 11 = vZ →
 σ 12 = vZ →
 σ 13 = vO →
 tF (σ 14) →
 σ 15 = vE →
 σ 16 = vF →
 σ 17 = vZ →
 subRPre [(vI 16), vO, σ 2, vE, vF, vZ, vO, σ 7, vE, vF, vZ] →
 chkR [vO, σ 2, vE, vF, vZ, vZ] →
 chkR [vO, σ 7, vE, vF, vZ, vZ] →
 asnR [vO, σ 2, vE, vF, vZ, vO, σ 14, vE, vF, vZ] →
 ¬ asnRPre [vO, σ 7, vE, vF, vZ] →
    False
def subR_L14 : Prop := ∀ σ : Nat → Value,
 σ 0 = (vI 16) →
 σ 1 = vO →
 tF (σ 2) →
 σ 3 = vE →
 σ 4 = vF →
 σ 5 = vZ →
 σ 6 = vO →
 tF (σ 7) →
 σ 8 = vE →
 σ 9 = vF →
 σ 10 = vZ →
 σ 11 = vZ →
 σ 12 = vZ →
 σ 13 = vO →
 tF (σ 14) →
 σ 15 = vE →
 σ 16 = vF →
 σ 17 = vZ →
 σ 18 = vO →
 tF (σ 19) →
 σ 20 = vE →
 σ 21 = vF →
 σ 22 = vZ →
 tF (σ 23) →
 tI (σ 24) →
 tF (σ 25) →
 σ 26 = vE →
 σ 27 = vF →
 tI (σ 28) →
 subRPre [(vI 16), vO, σ 2, vE, vF, vZ, vO, σ 7, vE, vF, vZ] →
 chkR [vO, σ 2, vE, vF, vZ, vZ] →
 chkR [vO, σ 7, vE, vF, vZ, vZ] →
 asnR [vO, σ 2, vE, vF, vZ, vO, σ 14, vE, vF, vZ] →
 asnR [vO, σ 7, vE, vF, vZ, vO, σ 19, vE, vF, vZ] →
 (farV .sub .f64 (fv (σ 14)) (fv (σ 19)) = some (some (fv (σ 23))) ∨ (farV .sub .f64 (fv (σ 14)) (fv (σ 19)) = some none ∧ Nan64 (fv (σ 23)))) →
 reckR [σ 23, σ 24, σ 25, vE, vF, σ 28] →
    subR [(vI 16), vO, σ 2, vE, vF, vZ, vO, σ 7, vE, vF, vZ, σ 24, σ 25, vE, vF, σ 28]
def subR_L25 : Prop := ∀ σ : Nat → Value,
 σ 0 = (vI 16) →
 σ 1 = vO →
 tF (σ 2) →
 σ 3 = vE →
 σ 4 = vF →
 σ 5 = vZ →
 σ 6 = vO →
 tF (σ 7) →
 σ 8 = vE →
 σ 9 = vF →
 σ 10 = vZ →
 σ 11 = vZ →
 subRPre [(vI 16), vO, σ 2, vE, vF, vZ, vO, σ 7, vE, vF, vZ] →
 chkR [vO, σ 2, vE, vF, vZ, vZ] →
 ¬ chkRPre [vO, σ 7, vE, vF, vZ] →
    False
def subR_L26 : Prop := ∀ σ : Nat → Value,
 σ 0 = (vI 16) →
 σ 1 = vO →
 tF (σ 2) →
 σ 3 = vE →
 σ 4 = vF →
 σ 5 = vZ →
 σ 6 = vO →
 tF (σ 7) →
 σ 8 = vE →
 σ 9 = vF →
 σ 10 = vZ →
 subRPre [(vI 16), vO, σ 2, vE, vF, vZ, vO, σ 7, vE, vF, vZ] →
 ¬ chkRPre [vO, σ 2, vE, vF, vZ] →
    False
theorem subR_tie : subC.goals (cfgB subC.base [chkC, asnC, reckC]) [] 2000 = (subR_L0 ∧ subR_L1 ∧ subR_L0 ∧ subR_L0 ∧ subR_L1 ∧ subR_L1 ∧ subR_L1 ∧ subR_L0 ∧ subR_L1 ∧ subR_L1 ∧ subR_L1 ∧ subR_L1 ∧ subR_L1 ∧ subR_L1 ∧ subR_L14 ∧ subR_L14 ∧ subR_L14 ∧ subR_L14 ∧ subR_L14 ∧ subR_L14 ∧ subR_L14 ∧ subR_L14 ∧ subR_L14 ∧ subR_L14 ∧ subR_L14 ∧ subR_L25 ∧ subR_L26 ∧ True) := by kernel_rfl
theorem subR_L0_ok : subR_L0 := by
  intro σ; intros
  have p_ := ‹subRPre _›
  have p : niceF (fv (σ 2)) ∧ niceF (fv (σ 7)) := p_
  have n_ := ‹¬ asnRPre _›
  exact n_ p.1
theorem subR_L1_ok : subR_L1 := by
  intro σ; intros
  have p_ := ‹subRPre _›
  have p : niceF (fv (σ 2)) ∧ niceF (fv (σ 7)) := p_
  have n_ := ‹¬ asnRPre _›
  exact n_ p.2
theorem subR_L14_ok : subR_L14 := by
  intro σ; intros
  have p_ := ‹subRPre _›
  have p : niceF (fv (σ 2)) ∧ niceF (fv (σ 7)) := p_
  have ex_ := ‹asnR [vO, σ 2, vE, vF, vZ, vO, σ 14, vE, vF, vZ]›
  have ex : fv (σ 14) = fv (σ 2) := ex_
  have ey_ := ‹asnR [vO, σ 7, vE, vF, vZ, vO, σ 19, vE, vF, vZ]›
  have ey : fv (σ 19) = fv (σ 7) := ey_
  have r0_ := ‹reckR _›
  have r0 : RK (fv (σ 23)) (iv (σ 24)) (fv (σ 25)) (iv (σ 28)) := r0_
  have f0_ := ‹farV .sub .f64 _ _ = _ ∨ _›
  have f0 : FarR .sub (fv (σ 14)) (fv (σ 19)) (fv (σ 23)) := f0_
  rw [ex, ey] at f0
  exact ⟨_, f0, r0⟩
theorem subR_L25_ok : subR_L25 := by
  intro σ; intros
  have p_ := ‹subRPre _›
  have p : niceF (fv (σ 2)) ∧ niceF (fv (σ 7)) := p_
  have n_ := ‹¬ chkRPre _›
  exact n_ p.2
theorem subR_L26_ok : subR_L26 := by
  intro σ; intros
  have p_ := ‹subRPre _›
  have p : niceF (fv (σ 2)) ∧ niceF (fv (σ 7)) := p_
  have n_ := ‹¬ chkRPre _›
  exact n_ p.1
theorem sub_ok : subC.ok Tryz.prog All :=
  by_tie subR_tie (by kernel_rfl) (all_cons chk_ok (all_cons asn_ok (all_cons reck_ok all_nil))) ⟨subR_L0_ok, subR_L1_ok, subR_L0_ok, subR_L0_ok, subR_L1_ok, subR_L1_ok, subR_L1_ok, subR_L0_ok, subR_L1_ok, subR_L1_ok, subR_L1_ok, subR_L1_ok, subR_L1_ok, subR_L1_ok, subR_L14_ok, subR_L14_ok, subR_L14_ok, subR_L14_ok, subR_L14_ok, subR_L14_ok, subR_L14_ok, subR_L14_ok, subR_L14_ok, subR_L14_ok, subR_L14_ok, subR_L25_ok, subR_L26_ok, trivial⟩
def mulR_L0 : Prop := ∀ σ : Nat → Value,
 σ 0 = (vI 13) →
 σ 1 = vO →
 tF (σ 2) →
 σ 3 = vE →
 σ 4 = vF →
 σ 5 = vZ →
 σ 6 = vO →
 tF (σ 7) →
 σ 8 = vE →
 σ 9 = vF →
 σ 10 = vZ →
 σ 11 = vZ →
 σ 12 = vZ →
 mulRPre [(vI 13), vO, σ 2, vE, vF, vZ, vO, σ 7, vE, vF, vZ] →
 chkR [vO, σ 2, vE, vF, vZ, vZ] →
 chkR [vO, σ 7, vE, vF, vZ, vZ] →
 ¬ asnRPre [vO, σ 2, vE, vF, vZ] →
    False
def mulR_L1 : Prop := ∀ σ : Nat → Value,
 σ 0 = (vI 13) →
 σ 1 = vO →
 tF (σ 2) →
 σ 3 = vE →
 σ 4 = vF →
 σ 5 = vZ →
 σ 6 = vO →
 tF (σ 7) →
 σ 8 = vE →
 σ 9 = vF →
 σ 10 = vZ →
 σ 11 = vZ →
 σ 12 = vZ →
 σ 13 = vO →
 tF (σ 14) →
 σ 15 = vE →
 σ 16 = vF →
 σ 17 = vZ →
 mulRPre [(vI 13), vO, σ 2, vE, vF, vZ, vO, σ 7, vE, vF, vZ] →
 chkR [vO, σ 2, vE, vF, vZ, vZ] →
 chkR [vO, σ 7, vE, vF, vZ, vZ] →
 asnR [vO, σ 2, vE, vF, vZ, vO, σ 14, vE, vF, vZ] →
 ¬ asnRPre [vO, σ 7, vE, vF, vZ] →
    False
def mulR_L14 : Prop := ∀ σ : Nat → Value,
 σ 0 = (vI 13) →
 σ 1 = vO →
 tF (σ 2) →
 σ 3 = vE →
 σ 4 = vF →
 σ 5 = vZ →
 σ 6 = vO →
 tF (σ 7) →
 σ 8 = vE →
 σ 9 = vF →
 σ 10 = vZ →
 σ 11 = vZ →
 σ 12 = vZ →
 σ 13 = vO →
 tF (σ 14) →
 σ 15 = vE →
 σ 16 = vF →
 σ 17 = vZ →
 σ 18 = vO →
 tF (σ 19) →
 σ 20 = vE →
 σ 21 = vF →
 σ 22 = vZ →
 tF (σ 23) →
 tI (σ 24) →
 tF (σ 25) →
 σ 26 = vE →
 σ 27 = vF →
 tI (σ 28) →
 mulRPre [(vI 13), vO, σ 2, vE, vF, vZ, vO, σ 7, vE, vF, vZ] →
 chkR [vO, σ 2, vE, vF, vZ, vZ] →
 chkR [vO, σ 7, vE, vF, vZ, vZ] →
 asnR [vO, σ 2, vE, vF, vZ, vO, σ 14, vE, vF, vZ] →
 asnR [vO, σ 7, vE, vF, vZ, vO, σ 19, vE, vF, vZ] →
 (farV .mul .f64 (fv (σ 14)) (fv (σ 19)) = some (some (fv (σ 23))) ∨ (farV .mul .f64 (fv (σ 14)) (fv (σ 19)) = some none ∧ Nan64 (fv (σ 23)))) →
 reckR [σ 23, σ 24, σ 25, vE, vF, σ 28] →
    mulR [(vI 13), vO, σ 2, vE, vF, vZ, vO, σ 7, vE, vF, vZ, σ 24, σ 25, vE, vF, σ 28]
def mulR_L25 : Prop := ∀ σ : Nat → Value,
 σ 0 = (vI 13) →
 σ 1 = vO →
 tF (σ 2) →
 σ 3 = vE →
 σ 4 = vF →
 σ 5 = vZ →
 σ 6 = vO →
 tF (σ 7) →
 σ 8 = vE →
 σ 9 = vF →
 σ 10 = vZ →
 σ 11 = vZ →
 mulRPre [(vI 13), vO, σ 2, vE, vF, vZ, vO, σ 7, vE, vF, vZ] →
 chkR [vO, σ 2, vE, vF, vZ, vZ] →
 ¬ chkRPre [vO, σ 7, vE, vF, vZ] →
    False
def mulR_L26 : Prop := ∀ σ : Nat → Value,
 σ 0 = (vI 13) →
 σ 1 = vO →
 tF (σ 2) →
 σ 3 = vE →
 σ 4 = vF →
 σ 5 = vZ →
 σ 6 = vO →
 tF (σ 7) →
 σ 8 = vE →
 σ 9 = vF →
 σ 10 = vZ →
 mulRPre [(vI 13), vO, σ 2, vE, vF, vZ, vO, σ 7, vE, vF, vZ] →
 ¬ chkRPre [vO, σ 2, vE, vF, vZ] →
    False
theorem mulR_tie : mulC.goals (cfgB mulC.base [chkC, asnC, reckC]) [] 2000 = (mulR_L0 ∧ mulR_L1 ∧ mulR_L0 ∧ mulR_L0 ∧ mulR_L1 ∧ mulR_L1 ∧ mulR_L1 ∧ mulR_L0 ∧ mulR_L1 ∧ mulR_L1 ∧ mulR_L1 ∧ mulR_L1 ∧ mulR_L1 ∧ mulR_L1 ∧ mulR_L14 ∧ mulR_L14 ∧ mulR_L14 ∧ mulR_L14 ∧ mulR_L14 ∧ mulR_L14 ∧ mulR_L14 ∧ mulR_L14 ∧ mulR_L14 ∧ mulR_L14 ∧ mulR_L14 ∧ mulR_L25 ∧ mulR_L26 ∧ True) := by kernel_rfl
theorem mulR_L0_ok : mulR_L0 := by
  intro σ; intros
  have p_ := ‹mulRPre _›
  have p : niceF (fv (σ 2)) ∧ niceF (fv (σ 7)) := p_
  have n_ := ‹¬ asnRPre _›
  exact n_ p.1
theorem mulR_L1_ok : mulR_L1 := by
  intro σ; intros
  have p_ := ‹mulRPre _›
  have p : niceF (fv (σ 2)) ∧ niceF (fv (σ 7)) := p_
  have n_ := ‹¬ asnRPre _›
  exact n_ p.2
theorem mulR_L14_ok : mulR_L14 := by
  intro σ; intros
  have p_ := ‹mulRPre _›
  have p : niceF (fv (σ 2)) ∧ niceF (fv (σ 7)) := p_
  have ex_ := ‹asnR [vO, σ 2, vE, vF, vZ, vO, σ 14, vE, vF, vZ]›
  have ex : fv (σ 14) = fv (σ 2) := ex_
  have ey_ := ‹asnR [vO, σ 7, vE, vF, vZ, vO, σ 19, vE, vF, vZ]›
  have ey : fv (σ 19) = fv (σ 7) := ey_
  have r0_ := ‹reckR _›
  have r0 : RK (fv (σ 23)) (iv (σ 24)) (fv (σ 25)) (iv (σ 28)) := r0_
  have f0_ := ‹farV .mul .f64 _ _ = _ ∨ _›
  have f0 : FarR .mul (fv (σ 14)) (fv (σ 19)) (fv (σ 23)) := f0_
  rw [ex, ey] at f0
  exact ⟨_, f0, r0⟩
theorem mulR_L25_ok : mulR_L25 := by
  intro σ; intros
  have p_ := ‹mulRPre _›
  have p : niceF (fv (σ 2)) ∧ niceF (fv (σ 7)) := p_
  have n_ := ‹¬ chkRPre _›
  exact n_ p.2
theorem mulR_L26_ok : mulR_L26 := by
  intro σ; intros
  have p_ := ‹mulRPre _›
  have p : niceF (fv (σ 2)) ∧ niceF (fv (σ 7)) := p_
  have n_ := ‹¬ chkRPre _›
  exact n_ p.1
theorem mul_ok : mulC.ok Tryz.prog All :=
  by_tie mulR_tie (by kernel_rfl) (all_cons chk_ok (all_cons asn_ok (all_cons reck_ok all_nil))) ⟨mulR_L0_ok, mulR_L1_ok, mulR_L0_ok, mulR_L0_ok, mulR_L1_ok, mulR_L1_ok, mulR_L1_ok, mulR_L0_ok, mulR_L1_ok, mulR_L1_ok, mulR_L1_ok, mulR_L1_ok, mulR_L1_ok, mulR_L1_ok, mulR_L14_ok, mulR_L14_ok, mulR_L14_ok, mulR_L14_ok, mulR_L14_ok, mulR_L14_ok, mulR_L14_ok, mulR_L14_ok, mulR_L14_ok, mulR_L14_ok, mulR_L14_ok, mulR_L25_ok, mulR_L26_ok, trivial⟩
def divR_L0 : Prop := ∀ σ : Nat → Value,
 σ 0 = (vI 14) →
 σ 1 = vO →
 tF (σ 2) →
 σ 3 = vE →
 σ 4 = vF →
 σ 5 = vZ →
 σ 6 = vO →
 tF (σ 7) →
 σ 8 = vE →
 σ 9 = vF →
 σ 10 = vZ →
 σ 11 = vZ →
 σ 12 = vZ →
 divRPre [(vI 14), vO, σ 2, vE, vF, vZ, vO, σ 7, vE, vF, vZ] →
 chkR [vO, σ 2, vE, vF, vZ, vZ] →
 chkR [vO, σ 7, vE, vF, vZ, vZ] →
 ¬ asnRPre [vO, σ 2, vE, vF, vZ] →
    False
def divR_L1 : Prop := ∀ σ : Nat → Value,
 σ 0 = (vI 14) →
 σ 1 = vO →
 tF (σ 2) →
 σ 3 = vE →
 σ 4 = vF →
 σ 5 = vZ →
 σ 6 = vO →
 tF (σ 7) →
 σ 8 = vE →
 σ 9 = vF →
 σ 10 = vZ →
 σ 11 = vZ →
 σ 12 = vZ →
 σ 13 = vO →
 tF (σ 14) →
 σ 15 = vE →
 σ 16 = vF →
 σ 17 = vZ →
 divRPre [(vI 14), vO, σ 2, vE, vF, vZ, vO, σ 7, vE, vF, vZ] →
 chkR [vO, σ 2, vE, vF, vZ, vZ] →
 chkR [vO, σ 7, vE, vF, vZ, vZ] →
 asnR [vO, σ 2, vE, vF, vZ, vO, σ 14, vE, vF, vZ] →
 ¬ asnRPre [vO, σ 7, vE, vF, vZ] →
    False
def divR_L14 : Prop := ∀ σ : Nat → Value,
 σ 0 = (vI 14) →
 σ 1 = vO →
 tF (σ 2) →
 σ 3 = vE →
 σ 4 = vF →
 σ 5 = vZ →
 σ 6 = vO →
 tF (σ 7) →
 σ 8 = vE →
 σ 9 = vF →
 σ 10 = vZ →
 σ 11 = vZ →
 σ 12 = vZ →
 σ 13 = vO →
 tF (σ 14) →
 σ 15 = vE →
 σ 16 = vF →
 σ 17 = vZ →
 σ 18 = vO →
 tF (σ 19) →
 σ 20 = vE →
 σ 21 = vF →
 σ 22 = vZ →
 divRPre [(vI 14), vO, σ 2, vE, vF, vZ, vO, σ 7, vE, vF, vZ] →
 chkR [vO, σ 2, vE, vF, vZ, vZ] →
 chkR [vO, σ 7, vE, vF, vZ, vZ] →
 asnR [vO, σ 2, vE, vF, vZ, vO, σ 14, vE, vF, vZ] →
 asnR [vO, σ 7, vE, vF, vZ, vO, σ 19, vE, vF, vZ] →
 ford (fv (σ 19)) (0) = some .eq →
    divR [(vI 14), vO, σ 2, vE, vF, vZ, vO, σ 7, vE, vF, vZ, (vI 4), (vG 0), vE, vF, (vI 2)]
def divR_L15 : Prop := ∀ σ : Nat → Value,
 σ 0 = (vI 14) →
 σ 1 = vO →
 tF (σ 2) →
 σ 3 = vE →
 σ 4 = vF →
 σ 5 = vZ →
 σ 6 = vO →
 tF (σ 7) →
 σ 8 = vE →
 σ 9 = vF →
 σ 10 = vZ →
 σ 11 = vZ →
 σ 12 = vZ →
 σ 13 = vO →
 tF (σ 14) →
 σ 15 = vE →
 σ 16 = vF →
 σ 17 = vZ →
 σ 18 = vO →
 tF (σ 19) →
 σ 20 = vE →
 σ 21 = vF →
 σ 22 = vZ →
 tF (σ 24) →
 tI (σ 25) →
 tF (σ 26) →
 σ 27 = vE →
 σ 28 = vF →
 tI (σ 29) →
 divRPre [(vI 14), vO, σ 2, vE, vF, vZ, vO, σ 7, vE, vF, vZ] →
 chkR [vO, σ 2, vE, vF, vZ, vZ] →
 chkR [vO, σ 7, vE, vF, vZ, vZ] →
 asnR [vO, σ 2, vE, vF, vZ, vO, σ 14, vE, vF, vZ] →
 asnR [vO, σ 7, vE, vF, vZ, vO, σ 19, vE, vF, vZ] →
 (farV .quo .f64 (fv (σ 14)) (fv (σ 19)) = some (some (fv (σ 24))) ∨ (farV .quo .f64 (fv (σ 14)) (fv (σ 19)) = some none ∧ Nan64 (fv (σ 24)))) →
 reckR [σ 24, σ 25, σ 26, vE, vF, σ 29] →
 ford (fv (σ 19)) (0) ≠ some .eq →
    divR [(vI 14), vO, σ 2, vE, vF, vZ, vO, σ 7, vE, vF, vZ, σ 25, σ 26, vE, vF, σ 29]
def divR_L36 : Prop := ∀ σ : Nat → Value,
 σ 0 = (vI 14) →
 σ 1 = vO →
 tF (σ 2) →
 σ 3 = vE →
 σ 4 = vF →
 σ 5 = vZ →
 σ 6 = vO →
 tF (σ 7) →
 σ 8 = vE →
 σ 9 = vF →
 σ 10 = vZ →
 σ 11 = vZ →
 divRPre [(vI 14), vO, σ 2, vE, vF, vZ, vO, σ 7, vE, vF, vZ] →
 chkR [vO, σ 2, vE, vF, vZ, vZ] →
 ¬ chkRPre [vO, σ 7, vE, vF, vZ] →
    False
def divR_L37 : Prop := ∀ σ : Nat → Value,
 σ 0 = (vI 14) →
 σ 1 = vO →
 tF (σ 2) →
 σ 3 = vE →
 σ 4 = vF →
 σ 5 = vZ →
 σ 6 = vO →
 tF (σ 7) →
 σ 8 = vE →
 σ 9 = vF →
 σ 10 = vZ →
 divRPre [(vI 14), vO, σ 2, vE, vF, vZ, vO, σ 7, vE, vF, vZ] →
 ¬ chkRPre [vO, σ 2, vE, vF, vZ] →
    False
theorem divR_tie : divC.goals (cfgB divC.base [chkC, asnC, reckC]) [] 2000 = (divR_L0 ∧ divR_L1 ∧ divR_L0 ∧ divR_L0 ∧ divR_L1 ∧ divR_L1 ∧ divR_L1 ∧ divR_L0 ∧ divR_L1 ∧ divR_L1 ∧ divR_L1 ∧ divR_L1 ∧ divR_L1 ∧ divR_L1 ∧ divR_L14 ∧ divR_L15 ∧ divR_L14 ∧ divR_L15 ∧ divR_L14 ∧ divR_L15 ∧ divR_L14 ∧ divR_L15 ∧ divR_L14 ∧ divR_L15 ∧ divR_L14 ∧ divR_L15 ∧ divR_L14 ∧ divR_L15 ∧ divR_L14 ∧ divR_L15 ∧ divR_L14 ∧ divR_L15 ∧ divR_L14 ∧ divR_L15 ∧ divR_L14 ∧ divR_L15 ∧ divR_L36 ∧ divR_L37 ∧ True) := by kernel_rfl
theorem divR_L0_ok : divR_L0 := by
  intro σ; intros
  have p_ := ‹divRPre _›
  have p : (niceF (fv (σ 2)) ∧ niceF (fv (σ 7))) ∧ sv (fv (σ 7)) ≠ 0 := p_
  have n_ := ‹¬ asnRPre _›
  exact n_ p.1.1
theorem divR_L1_ok : divR_L1 := by
  intro σ; intros
  have p_ := ‹divRPre _›
  have p : (niceF (fv (σ 2)) ∧ niceF (fv (σ 7))) ∧ sv (fv (σ 7)) ≠ 0 := p_
  have n_ := ‹¬ asnRPre _›
  exact n_ p.1.2
theorem divR_L14_ok : divR_L14 := by
  intro σ; intros
  have p_ := ‹divRPre _›
  have p : (niceF (fv (σ 2)) ∧ niceF (fv (σ 7))) ∧ sv (fv (σ 7)) ≠ 0 := p_
  have ex_ := ‹asnR [vO, σ 2, vE, vF, vZ, vO, σ 14, vE, vF, vZ]›
  have ex : fv (σ 14) = fv (σ 2) := ex_
  have ey_ := ‹asnR [vO, σ 7, vE, vF, vZ, vO, σ 19, vE, vF, vZ]›
  have ey : fv (σ 19) = fv (σ 7) := ey_
  have c := ‹ford (fv (σ 19)) 0 = some .eq›
  rw [ey] at c
  exact (p.2 ((ford_zero p.1.2.1).1 c)).elim
theorem divR_L15_ok : divR_L15 := by
  intro σ; intros
  have p_ := ‹divRPre _›
  have p : (niceF (fv (σ 2)) ∧ niceF (fv (σ 7))) ∧ sv (fv (σ 7)) ≠ 0 := p_
  have ex_ := ‹asnR [vO, σ 2, vE, vF, vZ, vO, σ 14, vE, vF, vZ]›
  have ex : fv (σ 14) = fv (σ 2) := ex_
  have ey_ := ‹asnR [vO, σ 7, vE, vF, vZ, vO, σ 19, vE, vF, vZ]›
  have ey : fv (σ 19) = fv (σ 7) := ey_
  have r0_ := ‹reckR _›
  have r0 : RK (fv (σ 24)) (iv (σ 25)) (fv (σ 26)) (iv (σ 29)) := r0_
  have f0_ := ‹farV .quo .f64 _ _ = _ ∨ _›
  have f0 : FarR .quo (fv (σ 14)) (fv (σ 19)) (fv (σ 24)) := f0_
  rw [ex, ey] at f0
  exact ⟨_, f0, r0⟩
theorem divR_L36_ok : divR_L36 := by
  intro σ; intros
  have p_ := ‹divRPre _›
  have p : (niceF (fv (σ 2)) ∧ niceF (fv (σ 7))) ∧ sv (fv (σ 7)) ≠ 0 := p_
  have n_ := ‹¬ chkRPre _›
  exact n_ p.1.2
theorem divR_L37_ok : divR_L37 := by
  intro σ; intros
  have p_ := ‹divRPre _›
  have p : (niceF (fv (σ 2)) ∧ niceF (fv (σ 7))) ∧ sv (fv (σ 7)) ≠ 0 := p_
  have n_ := ‹¬ chkRPre _›
  exact n_ p.1.1
theorem div_ok : divC.ok Tryz.prog All :=
  by_tie divR_tie (by kernel_rfl) (all_cons chk_ok (all_cons asn_ok (all_cons reck_ok all_nil))) ⟨divR_L0_ok, divR_L1_ok, divR_L0_ok, divR_L0_ok, divR_L1_ok, divR_L1_ok, divR_L1_ok, divR_L0_ok, divR_L1_ok, divR_L1_ok, divR_L1_ok, divR_L1_ok, divR_L1_ok, divR_L1_ok, divR_L14_ok, divR_L15_ok, divR_L14_ok, divR_L15_ok, divR_L14_ok, divR_L15_ok, divR_L14_ok, divR_L15_ok, divR_L14_ok, divR_L15_ok, divR_L14_ok, divR_L15_ok, divR_L14_ok, divR_L15_ok, divR_L14_ok, divR_L15_ok, divR_L14_ok, divR_L15_ok, divR_L14_ok, divR_L15_ok, divR_L14_ok, divR_L15_ok, divR_L36_ok, divR_L37_ok, trivial⟩
end Go.Proofs.Arx
