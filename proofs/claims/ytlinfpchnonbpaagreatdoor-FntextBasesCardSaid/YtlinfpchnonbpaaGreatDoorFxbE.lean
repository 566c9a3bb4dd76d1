/- The law of bases of texts. -/
import Derived.Test.YtlinfpchnonbpaaGreatDoorFxbC
namespace Go.Proofs.Bs
open Go.Ev Go.RowKit Ieee
set_option maxRecDepth 1000000
def isTrue_L0 : Prop := ∀ _ : Nat → Value,
    isTrue [vT]
theorem isTrue_tie : liveC.goals (cfgB liveC.base []) [] 2000 = (isTrue_L0 ∧ True) := by kernel_rfl
theorem live_ok : liveC.ok Tryz.prog Tabs := by_tie isTrue_tie (by kernel_rfl) all_nil ⟨fun _ => by intros; rfl, trivial⟩
def lawR_L0 : Prop := ∀ σ : Nat → Value,
 tI (σ 0) →
 (-9223372036854775808) ≤ iv (σ 0) →
 iv (σ 0) ≤ 9223372036854775807 →
 tI (σ 1) →
 (-511) ≤ iv (σ 1) →
 iv (σ 1) ≤ 511 →
 tF (σ 2) →
 σ 3 = (vI 2) →
 σ 4 = (vG 0) →
 tS (σ 5) →
 σ 6 = vF →
 σ 7 = vZ →
 σ 8 = vT →
 σ 9 = vO →
 tF (σ 10) →
 σ 11 = vE →
 σ 12 = vF →
 σ 13 = vZ →
 σ 14 = vT →
 iv (σ 1) = (iv (σ 0) : Int).tmod (512) →
 fv (σ 2) = nE (iv (σ 1)) →
 toR pB [(vS #[68,69,67,50,66,73,78]),vU, vF, vF, vO, vO,vU,vZ,vZ, vO,σ 1,σ 2, vE, vF,vZ, (vI 2), (vG 0),σ 5, vF,vZ, vT] →
 bkR pB [(vS #[66,73,78,50,68,69,67]),vU, vF, vF, vO, vO,vU,vZ,vZ, (vI 2), (vG 0),σ 5, vF,vZ, vO,σ 10, vE, vF,vZ, vT] →
 ford (fv (σ 10)) (fv (σ 2)) ≠ some .eq →
    lawR [σ 0, vF]
def lawR_L1 : Prop := ∀ σ : Nat → Value,
 tI (σ 0) →
 (-9223372036854775808) ≤ iv (σ 0) →
 iv (σ 0) ≤ 9223372036854775807 →
 tI (σ 1) →
 (-511) ≤ iv (σ 1) →
 iv (σ 1) ≤ 511 →
 tF (σ 2) →
 σ 3 = (vI 2) →
 σ 4 = (vG 0) →
 tS (σ 5) →
 σ 6 = vF →
 σ 7 = vZ →
 σ 8 = vT →
 σ 9 = vO →
 tF (σ 10) →
 σ 11 = vE →
 σ 12 = vF →
 σ 13 = vZ →
 σ 14 = vT →
 tI (σ 16) →
 (-536870911) ≤ iv (σ 16) →
 iv (σ 16) ≤ 536870911 →
 tF (σ 17) →
 σ 18 = (vI 2) →
 σ 19 = (vG 0) →
 tS (σ 20) →
 σ 21 = vF →
 σ 22 = vZ →
 σ 23 = vT →
 σ 24 = vO →
 tF (σ 25) →
 σ 26 = vE →
 σ 27 = vF →
 σ 28 = vZ →
 σ 29 = vT →
 iv (σ 1) = (iv (σ 0) : Int).tmod (512) →
 fv (σ 2) = nE (iv (σ 1)) →
 toR pB [(vS #[68,69,67,50,66,73,78]),vU, vF, vF, vO, vO,vU,vZ,vZ, vO,σ 1,σ 2, vE, vF,vZ, (vI 2), (vG 0),σ 5, vF,vZ, vT] →
 bkR pB [(vS #[66,73,78,50,68,69,67]),vU, vF, vF, vO, vO,vU,vZ,vZ, (vI 2), (vG 0),σ 5, vF,vZ, vO,σ 10, vE, vF,vZ, vT] →
 iv (σ 16) = (iv (σ 0) : Int).tmod (536870912) →
 fv (σ 17) = nE (iv (σ 16)) →
 toR pO [(vS #[68,69,67,50,79,67,84]),vU, vF, vF, vO, vO,vU,vZ,vZ, vO,σ 16,σ 17, vE, vF,vZ, (vI 2), (vG 0),σ 20, vF,vZ, vT] →
 bkR pO [(vS #[79,67,84,50,68,69,67]),vU, vF, vF, vO, vO,vU,vZ,vZ, (vI 2), (vG 0),σ 20, vF,vZ, vO,σ 25, vE, vF,vZ, vT] →
 ford (fv (σ 25)) (fv (σ 17)) ≠ some .eq →
 ford (fv (σ 10)) (fv (σ 2)) = some .eq →
    lawR [σ 0, vF]
def lawR_L2 : Prop := ∀ σ : Nat → Value,
 tI (σ 0) →
 (-9223372036854775808) ≤ iv (σ 0) →
 iv (σ 0) ≤ 9223372036854775807 →
 tI (σ 1) →
 (-511) ≤ iv (σ 1) →
 iv (σ 1) ≤ 511 →
 tF (σ 2) →
 σ 3 = (vI 2) →
 σ 4 = (vG 0) →
 tS (σ 5) →
 σ 6 = vF →
 σ 7 = vZ →
 σ 8 = vT →
 σ 9 = vO →
 tF (σ 10) →
 σ 11 = vE →
 σ 12 = vF →
 σ 13 = vZ →
 σ 14 = vT →
 tI (σ 16) →
 (-536870911) ≤ iv (σ 16) →
 iv (σ 16) ≤ 536870911 →
 tF (σ 17) →
 σ 18 = (vI 2) →
 σ 19 = (vG 0) →
 tS (σ 20) →
 σ 21 = vF →
 σ 22 = vZ →
 σ 23 = vT →
 σ 24 = vO →
 tF (σ 25) →
 σ 26 = vE →
 σ 27 = vF →
 σ 28 = vZ →
 σ 29 = vT →
 tI (σ 31) →
 (-549755813887) ≤ iv (σ 31) →
 iv (σ 31) ≤ 549755813887 →
 tF (σ 32) →
 σ 33 = (vI 2) →
 σ 34 = (vG 0) →
 tS (σ 35) →
 σ 36 = vF →
 σ 37 = vZ →
 σ 38 = vT →
 σ 39 = vO →
 tF (σ 40) →
 σ 41 = vE →
 σ 42 = vF →
 σ 43 = vZ →
 σ 44 = vT →
 iv (σ 1) = (iv (σ 0) : Int).tmod (512) →
 fv (σ 2) = nE (iv (σ 1)) →
 toR pB [(vS #[68,69,67,50,66,73,78]),vU, vF, vF, vO, vO,vU,vZ,vZ, vO,σ 1,σ 2, vE, vF,vZ, (vI 2), (vG 0),σ 5, vF,vZ, vT] →
 bkR pB [(vS #[66,73,78,50,68,69,67]),vU, vF, vF, vO, vO,vU,vZ,vZ, (vI 2), (vG 0),σ 5, vF,vZ, vO,σ 10, vE, vF,vZ, vT] →
 iv (σ 16) = (iv (σ 0) : Int).tmod (536870912) →
 fv (σ 17) = nE (iv (σ 16)) →
 toR pO [(vS #[68,69,67,50,79,67,84]),vU, vF, vF, vO, vO,vU,vZ,vZ, vO,σ 16,σ 17, vE, vF,vZ, (vI 2), (vG 0),σ 20, vF,vZ, vT] →
 bkR pO [(vS #[79,67,84,50,68,69,67]),vU, vF, vF, vO, vO,vU,vZ,vZ, (vI 2), (vG 0),σ 20, vF,vZ, vO,σ 25, vE, vF,vZ, vT] →
 iv (σ 31) = (iv (σ 0) : Int).tmod (549755813888) →
 fv (σ 32) = nE (iv (σ 31)) →
 toR pX [(vS #[68,69,67,50,72,69,88]),vU, vF, vF, vO, vO,vU,vZ,vZ, vO,σ 31,σ 32, vE, vF,vZ, (vI 2), (vG 0),σ 35, vF,vZ, vT] →
 bkR pX [(vS #[72,69,88,50,68,69,67]),vU, vF, vF, vO, vO,vU,vZ,vZ, (vI 2), (vG 0),σ 35, vF,vZ, vO,σ 40, vE, vF,vZ, vT] →
 ford (fv (σ 40)) (fv (σ 32)) ≠ some .eq →
 ford (fv (σ 25)) (fv (σ 17)) = some .eq →
 ford (fv (σ 10)) (fv (σ 2)) = some .eq →
    lawR [σ 0, vF]
def lawR_L3 : Prop := ∀ σ : Nat → Value,
 tI (σ 0) →
 (-9223372036854775808) ≤ iv (σ 0) →
 iv (σ 0) ≤ 9223372036854775807 →
 tI (σ 1) →
 (-511) ≤ iv (σ 1) →
 iv (σ 1) ≤ 511 →
 tF (σ 2) →
 σ 3 = (vI 2) →
 σ 4 = (vG 0) →
 tS (σ 5) →
 σ 6 = vF →
 σ 7 = vZ →
 σ 8 = vT →
 σ 9 = vO →
 tF (σ 10) →
 σ 11 = vE →
 σ 12 = vF →
 σ 13 = vZ →
 σ 14 = vT →
 tI (σ 16) →
 (-536870911) ≤ iv (σ 16) →
 iv (σ 16) ≤ 536870911 →
 tF (σ 17) →
 σ 18 = (vI 2) →
 σ 19 = (vG 0) →
 tS (σ 20) →
 σ 21 = vF →
 σ 22 = vZ →
 σ 23 = vT →
 σ 24 = vO →
 tF (σ 25) →
 σ 26 = vE →
 σ 27 = vF →
 σ 28 = vZ →
 σ 29 = vT →
 tI (σ 31) →
 (-549755813887) ≤ iv (σ 31) →
 iv (σ 31) ≤ 549755813887 →
 tF (σ 32) →
 σ 33 = (vI 2) →
 σ 34 = (vG 0) →
 tS (σ 35) →
 σ 36 = vF →
 σ 37 = vZ →
 σ 38 = vT →
 σ 39 = vO →
 tF (σ 40) →
 σ 41 = vE →
 σ 42 = vF →
 σ 43 = vZ →
 σ 44 = vT →
 tB (σ 46) →
 iv (σ 1) = (iv (σ 0) : Int).tmod (512) →
 fv (σ 2) = nE (iv (σ 1)) →
 toR pB [(vS #[68,69,67,50,66,73,78]),vU, vF, vF, vO, vO,vU,vZ,vZ, vO,σ 1,σ 2, vE, vF,vZ, (vI 2), (vG 0),σ 5, vF,vZ, vT] →
 bkR pB [(vS #[66,73,78,50,68,69,67]),vU, vF, vF, vO, vO,vU,vZ,vZ, (vI 2), (vG 0),σ 5, vF,vZ, vO,σ 10, vE, vF,vZ, vT] →
 iv (σ 16) = (iv (σ 0) : Int).tmod (536870912) →
 fv (σ 17) = nE (iv (σ 16)) →
 toR pO [(vS #[68,69,67,50,79,67,84]),vU, vF, vF, vO, vO,vU,vZ,vZ, vO,σ 16,σ 17, vE, vF,vZ, (vI 2), (vG 0),σ 20, vF,vZ, vT] →
 bkR pO [(vS #[79,67,84,50,68,69,67]),vU, vF, vF, vO, vO,vU,vZ,vZ, (vI 2), (vG 0),σ 20, vF,vZ, vO,σ 25, vE, vF,vZ, vT] →
 iv (σ 31) = (iv (σ 0) : Int).tmod (549755813888) →
 fv (σ 32) = nE (iv (σ 31)) →
 toR pX [(vS #[68,69,67,50,72,69,88]),vU, vF, vF, vO, vO,vU,vZ,vZ, vO,σ 31,σ 32, vE, vF,vZ, (vI 2), (vG 0),σ 35, vF,vZ, vT] →
 bkR pX [(vS #[72,69,88,50,68,69,67]),vU, vF, vF, vO, vO,vU,vZ,vZ, (vI 2), (vG 0),σ 35, vF,vZ, vO,σ 40, vE, vF,vZ, vT] →
 isTrue [σ 46] →
 ford (fv (σ 40)) (fv (σ 32)) = some .eq →
 ford (fv (σ 25)) (fv (σ 17)) = some .eq →
 ford (fv (σ 10)) (fv (σ 2)) = some .eq →
    lawR [σ 0,σ 46]
def lawR_L4 : Prop := ∀ σ : Nat → Value,
 tI (σ 0) →
 (-9223372036854775808) ≤ iv (σ 0) →
 iv (σ 0) ≤ 9223372036854775807 →
 tI (σ 1) →
 (-511) ≤ iv (σ 1) →
 iv (σ 1) ≤ 511 →
 tF (σ 2) →
 σ 3 = (vI 2) →
 σ 4 = (vG 0) →
 tS (σ 5) →
 σ 6 = vF →
 σ 7 = vZ →
 σ 8 = vT →
 σ 9 = vO →
 tF (σ 10) →
 σ 11 = vE →
 σ 12 = vF →
 σ 13 = vZ →
 σ 14 = vT →
 tI (σ 16) →
 (-536870911) ≤ iv (σ 16) →
 iv (σ 16) ≤ 536870911 →
 tF (σ 17) →
 σ 18 = (vI 2) →
 σ 19 = (vG 0) →
 tS (σ 20) →
 σ 21 = vF →
 σ 22 = vZ →
 σ 23 = vT →
 σ 24 = vO →
 tF (σ 25) →
 σ 26 = vE →
 σ 27 = vF →
 σ 28 = vZ →
 σ 29 = vT →
 tI (σ 31) →
 (-549755813887) ≤ iv (σ 31) →
 iv (σ 31) ≤ 549755813887 →
 tF (σ 32) →
 σ 33 = (vI 2) →
 σ 34 = (vG 0) →
 tS (σ 35) →
 σ 36 = vF →
 σ 37 = vZ →
 σ 38 = vT →
 iv (σ 1) = (iv (σ 0) : Int).tmod (512) →
 fv (σ 2) = nE (iv (σ 1)) →
 toR pB [(vS #[68,69,67,50,66,73,78]),vU, vF, vF, vO, vO,vU,vZ,vZ, vO,σ 1,σ 2, vE, vF,vZ, (vI 2), (vG 0),σ 5, vF,vZ, vT] →
 bkR pB [(vS #[66,73,78,50,68,69,67]),vU, vF, vF, vO, vO,vU,vZ,vZ, (vI 2), (vG 0),σ 5, vF,vZ, vO,σ 10, vE, vF,vZ, vT] →
 iv (σ 16) = (iv (σ 0) : Int).tmod (536870912) →
 fv (σ 17) = nE (iv (σ 16)) →
 toR pO [(vS #[68,69,67,50,79,67,84]),vU, vF, vF, vO, vO,vU,vZ,vZ, vO,σ 16,σ 17, vE, vF,vZ, (vI 2), (vG 0),σ 20, vF,vZ, vT] →
 bkR pO [(vS #[79,67,84,50,68,69,67]),vU, vF, vF, vO, vO,vU,vZ,vZ, (vI 2), (vG 0),σ 20, vF,vZ, vO,σ 25, vE, vF,vZ, vT] →
 iv (σ 31) = (iv (σ 0) : Int).tmod (549755813888) →
 fv (σ 32) = nE (iv (σ 31)) →
 toR pX [(vS #[68,69,67,50,72,69,88]),vU, vF, vF, vO, vO,vU,vZ,vZ, vO,σ 31,σ 32, vE, vF,vZ, (vI 2), (vG 0),σ 35, vF,vZ, vT] →
 ¬ bkRPre pX [(vS #[72,69,88,50,68,69,67]),vU, vF, vF, vO, vO,vU,vZ,vZ, (vI 2), (vG 0),σ 35, vF,vZ] →
 ford (fv (σ 25)) (fv (σ 17)) = some .eq →
 ford (fv (σ 10)) (fv (σ 2)) = some .eq →
    False
def lawR_L5 : Prop := ∀ σ : Nat → Value,
 tI (σ 0) →
 (-9223372036854775808) ≤ iv (σ 0) →
 iv (σ 0) ≤ 9223372036854775807 →
 tI (σ 1) →
 (-511) ≤ iv (σ 1) →
 iv (σ 1) ≤ 511 →
 tF (σ 2) →
 σ 3 = (vI 2) →
 σ 4 = (vG 0) →
 tS (σ 5) →
 σ 6 = vF →
 σ 7 = vZ →
 σ 8 = vT →
 σ 9 = vO →
 tF (σ 10) →
 σ 11 = vE →
 σ 12 = vF →
 σ 13 = vZ →
 σ 14 = vT →
 tI (σ 16) →
 (-536870911) ≤ iv (σ 16) →
 iv (σ 16) ≤ 536870911 →
 tF (σ 17) →
 σ 18 = (vI 2) →
 σ 19 = (vG 0) →
 tS (σ 20) →
 σ 21 = vF →
 σ 22 = vZ →
 σ 23 = vT →
 iv (σ 1) = (iv (σ 0) : Int).tmod (512) →
 fv (σ 2) = nE (iv (σ 1)) →
 toR pB [(vS #[68,69,67,50,66,73,78]),vU, vF, vF, vO, vO,vU,vZ,vZ, vO,σ 1,σ 2, vE, vF,vZ, (vI 2), (vG 0),σ 5, vF,vZ, vT] →
 bkR pB [(vS #[66,73,78,50,68,69,67]),vU, vF, vF, vO, vO,vU,vZ,vZ, (vI 2), (vG 0),σ 5, vF,vZ, vO,σ 10, vE, vF,vZ, vT] →
 iv (σ 16) = (iv (σ 0) : Int).tmod (536870912) →
 fv (σ 17) = nE (iv (σ 16)) →
 toR pO [(vS #[68,69,67,50,79,67,84]),vU, vF, vF, vO, vO,vU,vZ,vZ, vO,σ 16,σ 17, vE, vF,vZ, (vI 2), (vG 0),σ 20, vF,vZ, vT] →
 ¬ bkRPre pO [(vS #[79,67,84,50,68,69,67]),vU, vF, vF, vO, vO,vU,vZ,vZ, (vI 2), (vG 0),σ 20, vF,vZ] →
 ford (fv (σ 10)) (fv (σ 2)) = some .eq →
    False
def lawR_L6 : Prop := ∀ σ : Nat → Value,
 tI (σ 0) →
 (-9223372036854775808) ≤ iv (σ 0) →
 iv (σ 0) ≤ 9223372036854775807 →
 tI (σ 1) →
 (-511) ≤ iv (σ 1) →
 iv (σ 1) ≤ 511 →
 tF (σ 2) →
 σ 3 = (vI 2) →
 σ 4 = (vG 0) →
 tS (σ 5) →
 σ 6 = vF →
 σ 7 = vZ →
 σ 8 = vT →
 iv (σ 1) = (iv (σ 0) : Int).tmod (512) →
 fv (σ 2) = nE (iv (σ 1)) →
 toR pB [(vS #[68,69,67,50,66,73,78]),vU, vF, vF, vO, vO,vU,vZ,vZ, vO,σ 1,σ 2, vE, vF,vZ, (vI 2), (vG 0),σ 5, vF,vZ, vT] →
 ¬ bkRPre pB [(vS #[66,73,78,50,68,69,67]),vU, vF, vF, vO, vO,vU,vZ,vZ, (vI 2), (vG 0),σ 5, vF,vZ] →
    False
theorem lawR_tie : lawC.goals (cfgB lawC.base [toC pB, bkC pB, toC pO, bkC pO, toC pX, bkC pX, liveC]) [] 2000 = (lawR_L0 ∧ lawR_L1 ∧ lawR_L2 ∧ lawR_L3 ∧ lawR_L4 ∧ lawR_L5 ∧ lawR_L6 ∧ True) := by kernel_rfl
theorem there {p : Par} (_ : Good p) {x : Value} {t f : Value} {l m : List Value} (h1 : -p.H ≤ iv x) (h2 : iv x ≤ p.H) (ht : toR p l) (e1 : gv l 17 = t) (e2 : gv l 10 = x) (e3 : gv m 11 = t) :
    bkRPre p m ∧ (bkR p m → gv m 15 = f → fv f = nE (iv x)) := by
  unfold toR at ht
  rw [e1, e2] at ht
  exact ⟨⟨iv x, h1, h2, by rw [e3]; exact ht⟩, fun hb e4 => by have := hb (iv x) h1 h2 (by rw [e3]; exact ht); rw [e4] at this; exact this⟩
theorem lawR_L0_ok : lawR_L0 := by
  intro σ; intros
  exfalso
  have b1_ := ‹(-511) ≤ iv (σ 1)›
  have b1 : -pB.H ≤ iv (σ 1) := b1_
  have b2_ := ‹iv (σ 1) ≤ 511›
  have b2 : iv (σ 1) ≤ pB.H := b2_
  have ht := ‹toR pB _›
  have hk := ‹bkR pB _›
  have hr := (there goodB (x := σ 1) (t := σ 5) (f := σ 10) b1 b2 ht rfl rfl rfl).2 hk rfl
  have hx := ‹fv (σ 2) = nE (iv (σ 1))›
  have c := ‹ford (fv (σ 10)) (fv (σ 2)) ≠ some .eq›
  rw [hr, hx] at c
  exact c (ford_self (near_fin (by omega) (by omega)))
theorem lawR_L1_ok : lawR_L1 := by
  intro σ; intros
  exfalso
  have b1_ := ‹(-536870911) ≤ iv (σ 16)›
  have b1 : -pO.H ≤ iv (σ 16) := b1_
  have b2_ := ‹iv (σ 16) ≤ 536870911›
  have b2 : iv (σ 16) ≤ pO.H := b2_
  have ht := ‹toR pO _›
  have hk := ‹bkR pO _›
  have hr := (there goodO (x := σ 16) (t := σ 20) (f := σ 25) b1 b2 ht rfl rfl rfl).2 hk rfl
  have hx := ‹fv (σ 17) = nE (iv (σ 16))›
  have c := ‹ford (fv (σ 25)) (fv (σ 17)) ≠ some .eq›
  rw [hr, hx] at c
  exact c (ford_self (near_fin (by omega) (by omega)))
theorem lawR_L2_ok : lawR_L2 := by
  intro σ; intros
  exfalso
  have b1_ := ‹(-549755813887) ≤ iv (σ 31)›
  have b1 : -pX.H ≤ iv (σ 31) := b1_
  have b2_ := ‹iv (σ 31) ≤ 549755813887›
  have b2 : iv (σ 31) ≤ pX.H := b2_
  have ht := ‹toR pX _›
  have hk := ‹bkR pX _›
  have hr := (there goodX (x := σ 31) (t := σ 35) (f := σ 40) b1 b2 ht rfl rfl rfl).2 hk rfl
  have hx := ‹fv (σ 32) = nE (iv (σ 31))›
  have c := ‹ford (fv (σ 40)) (fv (σ 32)) ≠ some .eq›
  rw [hr, hx] at c
  exact c (ford_self (near_fin (by omega) (by omega)))
theorem lawR_L3_ok : lawR_L3 := by
  intro σ; intros
  have t := ‹isTrue [σ 46]›
  have ty := ‹σ 46 = .bool (bv (σ 46))›
  have t2 := true_of t
  show σ 46 = .bool true
  rw [ty, t2]
theorem lawR_L4_ok : lawR_L4 := by
  intro σ; intros
  have b1_ := ‹(-549755813887) ≤ iv (σ 31)›
  have b1 : -pX.H ≤ iv (σ 31) := b1_
  have b2_ := ‹iv (σ 31) ≤ 549755813887›
  have b2 : iv (σ 31) ≤ pX.H := b2_
  have ht := ‹toR pX _›
  have n_ := ‹¬ bkRPre pX _›
  exact n_ (there goodX (x := σ 31) (t := σ 35) (f := vZ) b1 b2 ht rfl rfl rfl).1
theorem lawR_L5_ok : lawR_L5 := by
  intro σ; intros
  have b1_ := ‹(-536870911) ≤ iv (σ 16)›
  have b1 : -pO.H ≤ iv (σ 16) := b1_
  have b2_ := ‹iv (σ 16) ≤ 536870911›
  have b2 : iv (σ 16) ≤ pO.H := b2_
  have ht := ‹toR pO _›
  have n_ := ‹¬ bkRPre pO _›
  exact n_ (there goodO (x := σ 16) (t := σ 20) (f := vZ) b1 b2 ht rfl rfl rfl).1
theorem lawR_L6_ok : lawR_L6 := by
  intro σ; intros
  have b1_ := ‹(-511) ≤ iv (σ 1)›
  have b1 : -pB.H ≤ iv (σ 1) := b1_
  have b2_ := ‹iv (σ 1) ≤ 511›
  have b2 : iv (σ 1) ≤ pB.H := b2_
  have ht := ‹toR pB _›
  have n_ := ‹¬ bkRPre pB _›
  exact n_ (there goodB (x := σ 1) (t := σ 5) (f := vZ) b1 b2 ht rfl rfl rfl).1
theorem law_ok : lawC.ok Tryz.prog Tabs :=
  by_tie lawR_tie (by kernel_rfl) (all_cons to_okB (all_cons bk_okB (all_cons to_okO (all_cons bk_okO (all_cons to_okX (all_cons bk_okX (all_cons live_ok all_nil))))))) ⟨lawR_L0_ok, lawR_L1_ok, lawR_L2_ok, lawR_L3_ok, lawR_L4_ok, lawR_L5_ok, lawR_L6_ok, trivial⟩
end Go.Proofs.Bs
