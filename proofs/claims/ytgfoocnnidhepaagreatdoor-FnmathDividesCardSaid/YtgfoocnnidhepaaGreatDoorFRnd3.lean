/- Rounded to places, step by step. -/
import Derived.Test.YtgfoocnnidhepaaGreatDoorFRnd2
namespace Go.Ev
open Ieee
theorem far_some {a b x y : Nat} {op : BinOp} (h : farV op .f64 a b = some (some x) ∨ farV op .f64 a b = some none ∧ Nan64 x) (e : farV op .f64 a b = some (some y)) : x = y := by
  rcases h with h | ⟨h, _⟩
  · rw [e] at h; simp only [Option.some.injEq] at h; exact h.symm
  · rw [e] at h; cases h
theorem split_at {M a e : Nat} (h : M = a * 2 ^ e) (b c : Nat) (hk : e = b + c) : M = a * 2 ^ b * 2 ^ c := by rw [h, hk, Nat.pow_add, Nat.mul_assoc]
theorem quo64 {n : Int} {x f : Nat} (h1 : -(2 ^ 31) ≤ n) (h2 : n ≤ 2 ^ 31) (hf : f = FloatKind.f64.nearest n) (h : farV .quo .f64 f 4634204016564240384 = some (some x) ∨ farV .quo .f64 f 4634204016564240384 = some none ∧ Nan64 x) : P64 x n := by
  have h64 : FloatKind.f64.nearest ((64 : Nat) : Int) = 4634204016564240384 := by decide +kernel
  have pos : ∀ a : Nat, a ≠ 0 → a ≤ 2 ^ 31 → ∃ r, double.div (FloatKind.f64.nearest a) (FloatKind.f64.nearest ((64 : Nat) : Int)) = some r ∧ Fin64 r ∧ sv r = a * K68 := fun a h0 hle => by
    obtain ⟨mag, place, e, hp, _, hB⟩ := div_both (a := a) (b := 64) h0 (by decide) (by omega) (by decide)
    have hla : a.log2 < 32 := log2_lt h0 (by omega)
    have hl6 : (64 : Nat).log2 = 6 := by decide
    have hb := hB 6 a (by omega)
    have heq := Nat.le_antisymm (hb.1 (by omega)) (hb.2 (by omega))
    have hv : mag * 2 ^ (place + 2148).toNat = ((mag * 2 ^ (place + 2148).toNat : Nat) : Int).natAbs := by rw [Int.natAbs_natCast]
    have hV : ((mag * 2 ^ (place + 2148).toNat : Nat) : Int) = (a : Int) * K68 * KK := by
      rw [split_at heq 1068 1074 rfl, Int.natCast_mul, Int.natCast_mul, K68_nat, KK_nat]
    obtain ⟨r1, r2⟩ := exact64 (neg := false) hp hv (fun _ => (decide_eq_false (by omega)).symm) hV (by omega) (by omega)
    exact ⟨_, e, r1, r2⟩
  rcases Int.lt_trichotomy n 0 with c | c | c
  · obtain ⟨a, rfl⟩ : ∃ a : Nat, n = -(a : Int) := ⟨n.natAbs, by omega⟩
    obtain ⟨r, e, r1, r2⟩ := pos a (by omega) (by omega)
    obtain ⟨r', e', s1, s2, _⟩ := div_neg (a := a) (b := 64) (by omega) (by decide) (by omega) (by decide) e r1
    rw [h64] at e'
    have hx := far_some h (y := r') (by rw [hf]; exact congrArg some e')
    subst hx
    have hs : sv x = -(a : Int) * K68 := by rw [s2, r2, Int.neg_mul]
    refine ⟨s1, to64 hs, h1, h2, fun e0 => ?_⟩
    have := Int.mul_neg_of_neg_of_pos c K68_pos
    omega
  · subst c
    have hx := far_some h (y := 0) (by rw [hf, near_zero]; decide +kernel)
    subst hx
    have h0 := whole_sv (WholeF.near (n := 0) (by decide) (by decide))
    rw [near_zero] at h0
    exact ⟨h0.1, by rw [h0.2.1]; simp, h1, h2, fun _ => rfl⟩
  · obtain ⟨a, rfl⟩ : ∃ a : Nat, n = a := ⟨n.toNat, by omega⟩
    obtain ⟨r, e, r1, r2⟩ := pos a (by omega) (by omega)
    rw [h64] at e
    have hx := far_some h (y := r) (by rw [hf]; exact congrArg some e)
    subst hx
    refine ⟨r1, to64 r2, h1, h2, fun e0 => ?_⟩
    have := Int.mul_pos c K68_pos
    omega
theorem abs64 {x : Nat} {m : Int} (h : P64 x m) : Fin64 (x % 2 ^ 63) ∧ sv (x % 2 ^ 63) * 64 = (m.natAbs : Int) * KK := by
  obtain ⟨f, e⟩ := abs_fin h.1
  exact ⟨f, to64 (e.trans (P64_abs h))⟩
theorem st_mul {x a y P Pw : Nat} {m : Int} (hx : P64 x m) (ha : a = x % 2 ^ 63) (hP : P ≤ 1000) (hw : FloatKind.f64.nearest (P : Int) = Pw) (h : farV .mul .f64 a Pw = some (some y) ∨ farV .mul .f64 a Pw = some none ∧ Nan64 y) :
    Fin64 y ∧ sv y * 64 = ((m.natAbs : Int) * P) * KK := by
  obtain ⟨f, s⟩ := abs64 hx
  have hb : (m.natAbs : Int) * P ≤ 2 ^ 31 * 1000 := Int.mul_le_mul (by have := hx.2.2; omega) (by omega) (by omega) (by decide)
  obtain ⟨r, e, _, r1, r2⟩ := mul64 (y := Pw) (p := P) f s (by omega) (by rw [← hw]; exact WholeF.near (by omega) (by omega)) (by omega) (by omega)
  rw [← ha] at e
  have := far_some h (y := r) (congrArg some e)
  subst this
  exact ⟨r1, r2⟩
theorem half_sv : Fin64 4602678819172646912 ∧ sv 4602678819172646912 * 64 = 32 * KK := ⟨by unfold Fin64; decide +kernel, by decide +kernel⟩
theorem st_half {x y : Nat} {c : Int} (f : Fin64 x) (s : sv x * 64 = c * KK) (h0 : 0 ≤ c) (h1 : c ≤ 2 ^ 50) (h : farV .add .f64 x 4602678819172646912 = some (some y) ∨ farV .add .f64 x 4602678819172646912 = some none ∧ Nan64 y) :
    Fin64 y ∧ sv y * 64 = (c + 32) * KK := by
  obtain ⟨r, e, _, r1, r2⟩ := add64 f s h0 half_sv.1 half_sv.2 (by decide) (by omega)
  have := far_some h (y := r) (congrArg some e)
  subst this
  exact ⟨r1, r2⟩
theorem st_floor {v r : Value} {c : Int} (hv : v = .float .f64 (fv v)) (f : Fin64 (fv v)) (s : sv (fv v) * 64 = c * KK) (h0 : 0 ≤ c) (h1 : c ≤ 2 ^ 51) (h : extRel .floor [v] r) : WholeF (c / 64) (fv r) := by
  rw [hv] at h
  obtain ⟨b, rfl, hb⟩ := intg_of f (toInt_down f) (by rw [floor64 s]; omega) (by rw [floor64 s]; omega) (show intgRel .down (fv v) r from h)
  rw [floor64 s] at hb
  exact hb
theorem st_ceil {v r : Value} {c : Int} (hv : v = .float .f64 (fv v)) (f : Fin64 (fv v)) (s : sv (fv v) * 64 = c * KK) (h0 : 0 ≤ c) (h1 : c ≤ 2 ^ 51) (h : extRel .ceil [v] r) : WholeF ((c + 63) / 64) (fv r) := by
  rw [hv] at h
  obtain ⟨b, rfl, hb⟩ := intg_of f (toInt_up f) (by rw [ceil64 s]; omega) (by rw [ceil64 s]; omega) (show intgRel .up (fv v) r from h)
  rw [ceil64 s] at hb
  exact hb
theorem st_quo {b w P Pw : Nat} {k : Int} (hb : WholeF k b) (h0 : 0 ≤ k) (h1 : k < 2 ^ 46) (hP0 : P ≠ 0) (hP : P ≤ 1000) (hw : FloatKind.f64.nearest (P : Int) = Pw) (z1 : double.div 0 Pw = some 0) (z2 : double.div (2 ^ 63) Pw = some (2 ^ 63))
    (h : farV .quo .f64 b Pw = some (some w) ∨ farV .quo .f64 b Pw = some none ∧ Nan64 w) : ∃ s, qsv k P s ∧ Fin64 w ∧ w < 2 ^ 64 ∧ sv w = s := by
  by_cases hk : k = 0
  · subst hk
    refine ⟨0, .inl ⟨rfl, rfl⟩, ?_⟩
    have hb0 := whole_sv hb
    have m0 := m0_fin
    have z0 := whole_sv (WholeF.near (n := 0) (by decide) (by decide))
    rw [near_zero] at z0
    rcases sv_nought hb0.1 hb0.2.2 (by rw [hb0.2.1]; simp) with e | e
    · subst e
      have := far_some h (y := 0) (congrArg some z1)
      subst this
      exact ⟨z0.1, by decide, by rw [z0.2.1]; simp⟩
    · subst e
      have := far_some h (y := 2 ^ 63) (congrArg some z2)
      subst this
      exact ⟨m0.1, by decide, m0.2⟩
  · obtain ⟨a, rfl⟩ : ∃ a : Nat, k = a := ⟨k.toNat, by omega⟩
    have he := hb.exact hk
    obtain ⟨r, e, r1, r2, _⟩ := rdiv (a := a) (P := P) (c := 1) (by omega) (by omega) hP0 hP (by decide) (by decide)
    rw [← he, hw] at e
    have := far_some h (y := r) (congrArg some e)
    subst this
    exact ⟨_, .inr ⟨hk, w, by rw [← he, hw]; exact e, rfl⟩, r2, r1, rfl⟩
theorem st_end {k : Int → Int} {x r v w : Nat} {q m s : Int} (hx : P64 x m) (hs : qsv (k (m.natAbs * tenN q)) (tenN q) s) (fw : Fin64 w) (lw : w < 2 ^ 64) (ew : sv w = s)
    (hv : (m < 0 ∧ v = Op.negFloat .f64 w) ∨ (0 ≤ m ∧ v = w)) (hr : r = if sv v = 0 then 0 else v) : resR k x q r := by
  refine ⟨m, s, hx, hs, ?_⟩
  have z0 := whole_sv (WholeF.near (n := 0) (by decide) (by decide))
  rw [near_zero] at z0
  have key : Fin64 v ∧ sv v = if m < 0 then -s else s := by
    rcases hv with ⟨c, e⟩ | ⟨c, e⟩
    · subst e
      obtain ⟨n1, n2, _⟩ := neg_fin fw lw
      exact ⟨n1, by rw [if_pos c, n2, ew]⟩
    · subst e
      exact ⟨fw, by rw [if_neg (by omega), ew]⟩
  by_cases e : sv v = 0
  · rw [if_pos e] at hr
    subst hr
    exact ⟨z0.1, by rw [← key.2, e, z0.2.1]; simp⟩
  · rw [if_neg e] at hr
    subst hr
    exact key
theorem lt_m {x : Nat} {m : Int} (hx : P64 x m) (h : ford x 0 = some .lt) : m < 0 := by
  have z0 := whole_sv (WholeF.near (n := 0) (by decide) (by decide))
  rw [near_zero] at z0
  rw [ford_fin hx.1 z0.1, Option.some.injEq, cmp_lt, z0.2.1, of64 hx.2.1] at h
  have := K68_pos
  rcases (show m < 0 ∨ 0 ≤ m by omega) with c | c
  · exact c
  · have := Int.mul_nonneg c (Int.le_of_lt this); omega
theorem ge_m {x : Nat} {m : Int} (hx : P64 x m) (h : ford x 0 ≠ some .lt) : 0 ≤ m := by
  have z0 := whole_sv (WholeF.near (n := 0) (by decide) (by decide))
  rw [near_zero] at z0
  rcases (show m < 0 ∨ 0 ≤ m by omega) with c | c
  · refine (h ?_).elim
    rw [ford_fin hx.1 z0.1, Option.some.injEq, cmp_lt, z0.2.1, of64 hx.2.1]
    have := Int.mul_neg_of_neg_of_pos c K68_pos
    omega
  · exact c
theorem eps_sv : Fin64 4517329193108106637 ∧ 0 < sv 4517329193108106637 ∧ sv 4517329193108106637 ≤ KK := ⟨by unfold Fin64; decide +kernel, by decide +kernel, by decide +kernel⟩
theorem add_eps {y r : Nat} (hy : Fin64 y) (h0 : 0 ≤ sv y) (h1 : sv y ≤ 2 ^ 46 * KK) (h : farV .add .f64 y 4517329193108106637 = some (some r) ∨ farV .add .f64 y 4517329193108106637 = some none ∧ Nan64 r) :
    Fin64 r ∧ ∀ c : Nat, c ≤ 2 ^ 53 → c * K68 ≤ sv y → c * K68 ≤ sv r := by
  obtain ⟨e1, e2, e3⟩ := eps_sv
  obtain ⟨neg, mag, place, e, hpl, hv, hn⟩ := add_data hy e1
  have := far_some h (congrArg some e)
  subst this
  have hKp := KK_pos
  generalize sv 4517329193108106637 = eps at *
  have hpos : 0 < sv y + eps := by omega
  have hneg : neg = false := by rw [hn (by omega)]; exact decide_eq_false (by omega)
  subst hneg
  obtain ⟨A, hA0, hA1⟩ : ∃ A : Nat, 2 ^ 1074 = A ∧ (A : Int) = KK := ⟨_, rfl, KK_nat⟩
  have hS : (sv y + eps).natAbs ≤ 2 ^ 47 * A := by omega
  rw [← hA0] at hS
  obtain ⟨m1, q1, i1, i2, i3, i4⟩ := int_norm (c := 2 ^ 47) (by decide) (by decide)
  rw [i4] at hS
  have hA := to2148 hpl hv
  have hVa : ((sv y + eps) * KK).natAbs = (sv y + eps).natAbs * 2 ^ 1074 := by rw [Int.natAbs_mul, KK_abs]
  have f := (up_of (neg := false) (by omega) hA i1 i2 i3 (by rw [hVa, Nat.pow_add, ← Nat.mul_assoc]; exact Nat.mul_le_mul_right _ hS)).1
  have pos := (pos_read (nearest_le mag place) f).2
  refine ⟨f, fun c hc hle => ?_⟩
  by_cases hc0 : c = 0
  · subst hc0; simpa using pos
  · obtain ⟨m2, q2, j1, j2, j3, j4⟩ := norm64 hc0 hc
    have kc : ((m2 * 2 ^ q2 : Nat) : Int) = c * K68 := by rw [← j4, Int.natCast_mul, K68_nat]
    have g := down_of (q := q2) (neg := false) (by omega) hA (sgn_KK hn) j1 j2 (by
      rw [hVa, Nat.pow_add, ← Nat.mul_assoc]
      refine Nat.mul_le_mul_right _ ?_
      omega)
    have hVp : 0 < (sv y + eps) * KK := Int.mul_pos hpos hKp
    rw [← kc]
    rcases g with ⟨_, g | g⟩ | g
    · exact g.2
    · omega
    · exfalso
      rw [g] at f
      unfold Fin64 at f
      have : ∀ b : Bool, double.word b double.infRung % double.signWeight = double.infRung := by decide
      rw [this] at f
      omega
theorem not_more {a b : Nat} (ha : Fin64 a) (hb : Fin64 b) (h : ford a b ≠ some .lt ∧ ford a b ≠ some .eq) : sv b < sv a := by
  rw [ford_fin ha hb] at h
  rcases Int.lt_trichotomy (sv a) (sv b) with c | c | c
  · exact (h.1 (congrArg some (cmp_lt.2 c))).elim
  · exact (h.2 (by rw [c]; exact congrArg some (Int.compare_eq_eq.2 rfl))).elim
  · exact c
theorem law_near {x d u ax ad au y v : Nat} {p : Int} (hu : resR kUp x p u) (hd : resR kDn x p d) (h1 : ax = x % 2 ^ 63) (h2 : ad = d % 2 ^ 63) (h3 : au = u % 2 ^ 63)
    (hy : farV .add .f64 ax 4517329193108106637 = some (some y) ∨ farV .add .f64 ax 4517329193108106637 = some none ∧ Nan64 y)
    (hv : farV .add .f64 au 4517329193108106637 = some (some v) ∨ farV .add .f64 au 4517329193108106637 = some none ∧ Nan64 v) :
    Fin64 ax ∧ Fin64 ad ∧ Fin64 y ∧ Fin64 v ∧ sv ad ≤ sv y ∧ sv ax ≤ sv v := by
  have ⟨m, _, a1, _⟩ := hu
  obtain ⟨f1, f2, f3, f4⟩ := law_up hu
  obtain ⟨_, g2, g3⟩ := law_dn hd
  obtain ⟨x1, x2⟩ := abs_fin f1
  obtain ⟨u1, u2⟩ := abs_fin f2
  obtain ⟨d1, d2⟩ := abs_fin g2
  rw [← h1] at x1 x2
  rw [← h3] at u1 u2
  rw [← h2] at d1 d2
  rw [← x2, ← u2] at f3
  rw [← u2] at f4
  rw [← x2, ← d2] at g3
  have hax := P64_abs a1
  rw [← x2] at hax
  have hc : m.natAbs ≤ 2 ^ 53 := by have := a1.2.2; omega
  have nn : (0 : Int) ≤ m.natAbs * K68 := Int.mul_nonneg (by omega) (Int.le_of_lt K68_pos)
  obtain ⟨y1, y2⟩ := add_eps x1 (by omega) (by omega) hy
  obtain ⟨v1, v2⟩ := add_eps u1 (by omega) f4 hv
  have hy2 := y2 _ hc (Int.le_of_eq hax.symm)
  have hv2 := v2 _ hc (by omega)
  exact ⟨x1, d1, y1, v1, by omega, by omega⟩
end Go.Ev
