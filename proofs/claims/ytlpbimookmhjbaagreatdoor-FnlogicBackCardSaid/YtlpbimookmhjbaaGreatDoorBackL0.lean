/- The law: what is to be shown, part 0. -/
import Derived.Test.YtlpbimookmhjbaaGreatDoorBackK
namespace Go.Proofs.Back
open Go.Ev Go.Dates Go.RowKit Go.Proofs.YtlpbimookmhjbaaGreatDoor
set_option maxRecDepth 1000000
def backR_L0 : Prop := ∀ σ : Nat → Value,
 σ 0 = .int .i64 (iv (σ 0)) →
 iv (σ 0) ≤ (-693594) →
 σ 1 = vT →
 σ 3 = vT →
 begunR [vT] →
 begunR [vT] →
 iv (σ 0) < (-693593) →
    backR [σ 0, vT]
def backR_L1 : Prop := ∀ σ : Nat → Value,
 σ 0 = .int .i64 (iv (σ 0)) →
 2958466 ≤ iv (σ 0) →
 σ 1 = vT →
 σ 4 = vT →
 begunR [vT] →
 begunR [vT] →
 2958465 < iv (σ 0) →
 (-693593) ≤ iv (σ 0) →
    backR [σ 0, vT]
def backR_L2 : Prop := ∀ σ : Nat → Value,
 σ 0 = .int .i64 (iv (σ 0)) →
 (-693593) ≤ iv (σ 0) →
 iv (σ 0) ≤ 2958465 →
 σ 1 = vT →
 σ 4 = .float .f64 (fv (σ 4)) →
 σ 5 = vZ →
 σ 6 = vO →
 σ 7 = .int .i64 (iv (σ 7)) →
 1 ≤ iv (σ 7) →
 iv (σ 7) ≤ 9999 →
 σ 8 = .float .f64 (fv (σ 8)) →
 σ 9 = vE →
 σ 10 = vF →
 σ 11 = vZ →
 σ 12 = vT →
 σ 13 = vO →
 σ 14 = .int .i64 (iv (σ 14)) →
 1 ≤ iv (σ 14) →
 iv (σ 14) ≤ 12 →
 σ 15 = .float .f64 (fv (σ 15)) →
 σ 16 = vE →
 σ 17 = vF →
 σ 18 = vZ →
 σ 19 = vT →
 σ 20 = vO →
 σ 21 = .int .i64 (iv (σ 21)) →
 1 ≤ iv (σ 21) →
 iv (σ 21) ≤ 31 →
 σ 22 = .float .f64 (fv (σ 22)) →
 σ 23 = vE →
 σ 24 = vF →
 σ 25 = vZ →
 σ 26 = vT →
 σ 27 = vZ →
 σ 28 = vZ →
 σ 29 = vZ →
 begunR [vT] →
 fv (σ 4) = FloatKind.f64.nearest (iv (σ 0)) →
 chkR [vO, vO, vU, vO, σ 0, σ 4, vE, vF, vZ, vZ] →
 fv (σ 8) = FloatKind.f64.nearest (iv (σ 7)) →
 callYearR [(vS #[89,69,65,82]), vU, vF, vF, vO, vO, vU, vZ, vZ, vO, σ 0, σ 4, vE, vF, vZ, vO, σ 7, σ 8, vE, vF, vZ, vT] →
 fv (σ 15) = FloatKind.f64.nearest (iv (σ 14)) →
 callMonthR [(vS #[77,79,78,84,72]), vU, vF, vF, vO, vO, vU, vZ, vZ, vO, σ 0, σ 4, vE, vF, vZ, vO, σ 14, σ 15, vE, vF, vZ, vT] →
 fv (σ 22) = FloatKind.f64.nearest (iv (σ 21)) →
 callDayR [(vS #[68,65,89]), vU, vF, vF, vO, vO, vU, vZ, vZ, vO, σ 0, σ 4, vE, vF, vZ, vO, σ 21, σ 22, vE, vF, vZ, vT] →
 chkR [vO, vO, vU, vO, σ 7, σ 8, vE, vF, vZ, vZ] →
 chkR [vO, vO, vU, vO, σ 14, σ 15, vE, vF, vZ, vZ] →
 chkR [vO, vO, vU, vO, σ 21, σ 22, vE, vF, vZ, vZ] →
 ¬ callDateRPre [(vS #[68,65,84,69]), vU, vF, vF, vO, vO, vU, vZ, vZ, vO, σ 7, σ 8, vE, vF, vZ, vF, vF, vO, vO, vU, vZ, vZ, vO, σ 14, σ 15, vE, vF, vZ, vF, vF, vO, vO, vU, vZ, vZ, vO, σ 21, σ 22, vE, vF, vZ] →
 iv (σ 0) ≤ 2958465 →
 (-693593) ≤ iv (σ 0) →
    False
def backR_L3 : Prop := ∀ σ : Nat → Value,
 σ 0 = .int .i64 (iv (σ 0)) →
 (-693593) ≤ iv (σ 0) →
 iv (σ 0) ≤ 2958465 →
 σ 1 = vT →
 σ 4 = .float .f64 (fv (σ 4)) →
 σ 5 = vZ →
 σ 6 = vO →
 σ 7 = .int .i64 (iv (σ 7)) →
 1 ≤ iv (σ 7) →
 iv (σ 7) ≤ 9999 →
 σ 8 = .float .f64 (fv (σ 8)) →
 σ 9 = vE →
 σ 10 = vF →
 σ 11 = vZ →
 σ 12 = vT →
 σ 13 = vO →
 σ 14 = .int .i64 (iv (σ 14)) →
 1 ≤ iv (σ 14) →
 iv (σ 14) ≤ 12 →
 σ 15 = .float .f64 (fv (σ 15)) →
 σ 16 = vE →
 σ 17 = vF →
 σ 18 = vZ →
 σ 19 = vT →
 σ 20 = vO →
 σ 21 = .int .i64 (iv (σ 21)) →
 1 ≤ iv (σ 21) →
 iv (σ 21) ≤ 31 →
 σ 22 = .float .f64 (fv (σ 22)) →
 σ 23 = vE →
 σ 24 = vF →
 σ 25 = vZ →
 σ 26 = vT →
 begunR [vT] →
 fv (σ 4) = FloatKind.f64.nearest (iv (σ 0)) →
 chkR [vO, vO, vU, vO, σ 0, σ 4, vE, vF, vZ, vZ] →
 fv (σ 8) = FloatKind.f64.nearest (iv (σ 7)) →
 callYearR [(vS #[89,69,65,82]), vU, vF, vF, vO, vO, vU, vZ, vZ, vO, σ 0, σ 4, vE, vF, vZ, vO, σ 7, σ 8, vE, vF, vZ, vT] →
 fv (σ 15) = FloatKind.f64.nearest (iv (σ 14)) →
 callMonthR [(vS #[77,79,78,84,72]), vU, vF, vF, vO, vO, vU, vZ, vZ, vO, σ 0, σ 4, vE, vF, vZ, vO, σ 14, σ 15, vE, vF, vZ, vT] →
 fv (σ 22) = FloatKind.f64.nearest (iv (σ 21)) →
 callDayR [(vS #[68,65,89]), vU, vF, vF, vO, vO, vU, vZ, vZ, vO, σ 0, σ 4, vE, vF, vZ, vO, σ 21, σ 22, vE, vF, vZ, vT] →
 ¬ callDateRPre [(vS #[68,65,84,69]), vU, vF, vF, vO, vO, vU, vZ, vZ, vO, σ 7, σ 8, vE, vF, vZ, vF, vF, vO, vO, vU, vZ, vZ, vO, σ 14, σ 15, vE, vF, vZ, vF, vF, vO, vO, vU, vZ, vZ, vO, σ 21, σ 22, vE, vF, vZ] →
 iv (σ 0) ≤ 2958465 →
 (-693593) ≤ iv (σ 0) →
    False
def backR_L4 : Prop := ∀ σ : Nat → Value,
 σ 0 = .int .i64 (iv (σ 0)) →
 (-693593) ≤ iv (σ 0) →
 iv (σ 0) ≤ 2958465 →
 σ 1 = vT →
 σ 4 = .float .f64 (fv (σ 4)) →
 σ 5 = vZ →
 σ 6 = vO →
 σ 7 = .int .i64 (iv (σ 7)) →
 1 ≤ iv (σ 7) →
 iv (σ 7) ≤ 9999 →
 σ 8 = .float .f64 (fv (σ 8)) →
 σ 9 = vE →
 σ 10 = vF →
 σ 11 = vZ →
 σ 12 = vT →
 σ 13 = vO →
 σ 14 = .int .i64 (iv (σ 14)) →
 1 ≤ iv (σ 14) →
 iv (σ 14) ≤ 12 →
 σ 15 = .float .f64 (fv (σ 15)) →
 σ 16 = vE →
 σ 17 = vF →
 σ 18 = vZ →
 σ 19 = vT →
 σ 20 = vO →
 σ 21 = .int .i64 (iv (σ 21)) →
 1 ≤ iv (σ 21) →
 iv (σ 21) ≤ 31 →
 σ 22 = .float .f64 (fv (σ 22)) →
 σ 23 = vE →
 σ 24 = vF →
 σ 25 = vZ →
 σ 26 = vT →
 σ 27 = vZ →
 σ 28 = vZ →
 σ 29 = vZ →
 σ 30 = vO →
 σ 31 = .int .i64 (iv (σ 31)) →
 (-693593) ≤ iv (σ 31) →
 iv (σ 31) ≤ 2958465 →
 σ 32 = .float .f64 (fv (σ 32)) →
 σ 33 = vE →
 σ 34 = vF →
 σ 35 = vZ →
 σ 36 = vT →
 σ 37 = .int .i64 (iv (σ 37)) →
 (-693593) ≤ iv (σ 37) →
 iv (σ 37) ≤ 2958465 →
 σ 38 = .float .f64 (fv (σ 38)) →
 begunR [vT] →
 fv (σ 4) = FloatKind.f64.nearest (iv (σ 0)) →
 chkR [vO, vO, vU, vO, σ 0, σ 4, vE, vF, vZ, vZ] →
 fv (σ 8) = FloatKind.f64.nearest (iv (σ 7)) →
 callYearR [(vS #[89,69,65,82]), vU, vF, vF, vO, vO, vU, vZ, vZ, vO, σ 0, σ 4, vE, vF, vZ, vO, σ 7, σ 8, vE, vF, vZ, vT] →
 fv (σ 15) = FloatKind.f64.nearest (iv (σ 14)) →
 callMonthR [(vS #[77,79,78,84,72]), vU, vF, vF, vO, vO, vU, vZ, vZ, vO, σ 0, σ 4, vE, vF, vZ, vO, σ 14, σ 15, vE, vF, vZ, vT] →
 fv (σ 22) = FloatKind.f64.nearest (iv (σ 21)) →
 callDayR [(vS #[68,65,89]), vU, vF, vF, vO, vO, vU, vZ, vZ, vO, σ 0, σ 4, vE, vF, vZ, vO, σ 21, σ 22, vE, vF, vZ, vT] →
 chkR [vO, vO, vU, vO, σ 7, σ 8, vE, vF, vZ, vZ] →
 chkR [vO, vO, vU, vO, σ 14, σ 15, vE, vF, vZ, vZ] →
 chkR [vO, vO, vU, vO, σ 21, σ 22, vE, vF, vZ, vZ] →
 fv (σ 32) = FloatKind.f64.nearest (iv (σ 31)) →
 callDateR [(vS #[68,65,84,69]), vU, vF, vF, vO, vO, vU, vZ, vZ, vO, σ 7, σ 8, vE, vF, vZ, vF, vF, vO, vO, vU, vZ, vZ, vO, σ 14, σ 15, vE, vF, vZ, vF, vF, vO, vO, vU, vZ, vZ, vO, σ 21, σ 22, vE, vF, vZ, vO, σ 31, σ 32, vE, vF, vZ, vT] →
 iv (σ 37) = iv (σ 0) + 0 →
 fv (σ 38) = FloatKind.f64.nearest (iv (σ 37)) →
 sameR [vO, σ 31, σ 32, vE, vF, vZ, vO, σ 37, σ 38, vE, vF, vZ, σ 39] →
 bv (σ 39) = false →
 bv (σ 39) = !true →
 iv (σ 0) ≤ 2958465 →
 (-693593) ≤ iv (σ 0) →
    backR [σ 0, vF]
theorem law_tie0 : goalsAt lawC (cfgB lawC.base [begunK, yearC, monC, dayC, mkC, edateC, chkC, reckC, sameC]) 2000 0 5 = (backR_L0 ∧ backR_L1 ∧ backR_L2 ∧ backR_L3 ∧ backR_L4 ∧ True) := by kernel_rfl
theorem backR_L0_ok : backR_L0 := by
  intro σ; intros
  rfl
theorem backR_L1_ok : backR_L1 := by
  intro σ; intros
  rfl
theorem backR_L2_ok : backR_L2 := by
  intro σ; intros
  have y0 := ‹callYearR _›
  have m0 := ‹callMonthR _›
  have d0 := ‹callDayR _›
  have H : IsDate (iv (σ 0) + 693593) (iv (σ 7)) (iv (σ 14)) (iv (σ 21)) := by
    obtain ⟨_, _, y1⟩ := y0
    obtain ⟨_, _, m1⟩ := m0
    obtain ⟨_, _, d1⟩ := d0
    exact same3 y1 m1 d1
  have n0 := ‹¬ callDateRPre _›
  exact n0 ⟨H.d1, H.d2⟩
theorem backR_L3_ok : backR_L3 := by
  intro σ; intros
  have y0 := ‹callYearR _›
  have m0 := ‹callMonthR _›
  have d0 := ‹callDayR _›
  have H : IsDate (iv (σ 0) + 693593) (iv (σ 7)) (iv (σ 14)) (iv (σ 21)) := by
    obtain ⟨_, _, y1⟩ := y0
    obtain ⟨_, _, m1⟩ := m0
    obtain ⟨_, _, d1⟩ := d0
    exact same3 y1 m1 d1
  have n0 := ‹¬ callDateRPre _›
  exact n0 ⟨H.d1, H.d2⟩
theorem backR_L4_ok : backR_L4 := by
  intro σ; intros
  have y0 := ‹callYearR _›
  have m0 := ‹callMonthR _›
  have d0 := ‹callDayR _›
  have H : IsDate (iv (σ 0) + 693593) (iv (σ 7)) (iv (σ 14)) (iv (σ 21)) := by
    obtain ⟨_, _, y1⟩ := y0
    obtain ⟨_, _, m1⟩ := m0
    obtain ⟨_, _, d1⟩ := d0
    exact same3 y1 m1 d1
  have x0 := ‹callDateR _›
  have X : iv (σ 31) = iv (σ 0) := date_back H x0
  have s0 := ‹sameR _›
  have s1 : bv (σ 39) = decide (iv (σ 31) = iv (σ 37)) := s0
  have a := ‹iv (σ 37) = iv (σ 0) + 0›
  have e : iv (σ 31) = iv (σ 37) := by omega
  exact (not_both (s1.trans (decide_eq_true e)) ‹bv (σ 39) = false›).elim
theorem law_part0 : goalsAt lawC (cfgB lawC.base [begunK, yearC, monC, dayC, mkC, edateC, chkC, reckC, sameC]) 2000 0 5 := by
  rw [law_tie0]
  exact ⟨backR_L0_ok, backR_L1_ok, backR_L2_ok, backR_L3_ok, backR_L4_ok, trivial⟩
end Go.Proofs.Back
