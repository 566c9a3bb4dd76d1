/- Quotients of 2^53, and exact ones. -/
import Derived.Test.YtgfoocnnidhepaaGreatDoorFMod2
import Derived.Test.YtgfoocnnidhepaaGreatDoorFRnd3
namespace Go.Ev
open Ieee
theorem near53 : FloatKind.f64.nearest ((2 ^ 53 : Nat) : Int) = 4845873199050653696 := by decide +kernel
theorem read53 : double.read 4845873199050653696 = .number false (2 ^ 52) 1 := by decide +kernel
theorem shift2 {s a b c : Nat} (h : c = a + 1 + b) : s * 2 ^ c = 2 * (s * 2 ^ a) * 2 ^ b := by
  rw [h, Nat.pow_add, Nat.pow_succ]; ac_rfl
theorem mulpow {x K E : Nat} (h : x ≤ 2 ^ 64) (hE : E = 12 + (K + K)) : x * (2 ^ K * 2 ^ K) ≤ 2 ^ 52 * 2 ^ E := by
  rw [hE, Nat.pow_add 2 12, ← Nat.pow_add, ← Nat.mul_assoc]
  exact Nat.mul_le_mul_right _ h
theorem div53 {b : Nat} (hb : b ≠ 0) (h2 : b < 2 ^ 53) : ∃ r, double.div 4845873199050653696 (nr b) = some r ∧ Fin64 r ∧ r < 2 ^ 64 ∧ 0 ≤ sv r ∧ (∀ X : Nat, X ≤ 2 ^ 53 → 2 ^ 53 ≤ X * b → sv r ≤ X * KK) ∧ ∀ s : Nat, s * b ≤ 2 ^ 53 → s * KK ≤ sv r := by
  obtain ⟨n1, n2, n3⟩ := head_bd hb h2
  generalize hlb : 52 - b.log2 = lb at *
  have e2 := near_norm hb h2
  rw [hlb] at e2
  have hn0 : b * 2 ^ lb ≠ 0 := by omega
  have hnp : 0 < b * 2 ^ lb := Nat.pos_of_ne_zero hn0
  have hlb52 : lb ≤ 52 := by omega
  obtain ⟨B, hB⟩ : ∃ B : Nat, B = lb + 2094 := ⟨_, rfl⟩
  have hpl : ((1 : Int) - -(lb : Int) - ((54 : Nat) : Int) - 1 + 2148).toNat = B := by omega
  have e : double.div 4845873199050653696 (nr b) = some (double.nearest false (2 * (((2 ^ 52) <<< 54) / (b * 2 ^ lb)) + (((2 ^ 52) <<< 54) % (b * 2 ^ lb) != 0).toNat) ((1 : Int) - -(lb : Int) - ((54 : Nat) : Int) - 1)) := by
    unfold Format.div nr
    rw [read53, e2]
    simp only [Datum.quotient, if_neg hn0]
    have hmore : double.fractionBits + 2 + (b * 2 ^ lb).log2 - (2 ^ 52 : Nat).log2 = 54 := by
      rw [log2_of (m := 2 ^ 52) (by decide) (by decide), log2_of n1 n2]; rfl
    rw [hmore]
    rfl
  generalize hmag : 2 * (((2 ^ 52) <<< 54) / (b * 2 ^ lb)) + (((2 ^ 52) <<< 54) % (b * 2 ^ lb) != 0).toNat = mag at e
  generalize hplace : (1 : Int) - -(lb : Int) - ((54 : Nat) : Int) - 1 = place at *
  have hp : (-2148 : Int) ≤ place := by omega
  have hD : (2 ^ 52) <<< 54 = 2 ^ 106 := by decide
  rw [hD] at hmag
  obtain ⟨C, hC⟩ : ∃ C : Nat, C = 2148 := ⟨_, rfl⟩
  have low : ∀ s : Nat, s * b ≤ 2 ^ 53 → s * 2 ^ C ≤ mag * 2 ^ (place + 2148).toNat := fun s hs => by
    rw [hpl]
    have hK : s * 2 ^ (53 - lb) * (b * 2 ^ lb) ≤ 2 ^ 106 := by
      have e1 : s * 2 ^ (53 - lb) * (b * 2 ^ lb) = s * b * 2 ^ 53 := by
        rw [show (2 : Nat) ^ 53 = 2 ^ (53 - lb) * 2 ^ lb by rw [← Nat.pow_add, show 53 - lb + lb = 53 by omega]]; ac_rfl
      rw [e1]
      exact Nat.mul_le_mul_right (2 ^ 53) hs
    have h1 := (quo_digits hnp (K := s * 2 ^ (53 - lb))).1 hK
    rw [hmag] at h1
    have h3 := Nat.mul_le_mul_right (2 ^ B) h1
    have sh := shift2 (s := s) (a := 53 - lb) (b := B) (c := C) (by omega)
    rw [sh]
    exact h3
  have up : ∀ X : Nat, 2 ^ 53 ≤ X * b → mag * 2 ^ (place + 2148).toNat ≤ X * 2 ^ C := fun X hX => by
    rw [hpl]
    have hK : 2 ^ 106 ≤ X * 2 ^ (53 - lb) * (b * 2 ^ lb) := by
      have e1 : X * 2 ^ (53 - lb) * (b * 2 ^ lb) = X * b * 2 ^ 53 := by
        rw [show (2 : Nat) ^ 53 = 2 ^ (53 - lb) * 2 ^ lb by rw [← Nat.pow_add, show 53 - lb + lb = 53 by omega]]; ac_rfl
      rw [e1]
      exact Nat.mul_le_mul_right (2 ^ 53) hX
    have h1 := (quo_digits hnp (K := X * 2 ^ (53 - lb))).2 hK
    rw [hmag] at h1
    have h3 := Nat.mul_le_mul_right (2 ^ B) h1
    have sh := shift2 (s := X) (a := 53 - lb) (b := B) (c := C) (by omega)
    rw [sh]
    exact h3
  generalize hk : (place + 2148).toNat = kk at *
  have hv : mag * 2 ^ (place + 2148).toNat = ((mag * 2 ^ kk : Nat) : Int).natAbs := by rw [Int.natAbs_natCast, hk]
  have upto : ∀ X : Nat, X ≠ 0 → X ≤ 2 ^ 53 → 2 ^ 53 ≤ X * b → Fin64 (double.nearest false mag place) ∧ (sv (double.nearest false mag place)).natAbs ≤ X * 2 ^ 1074 := fun X h0 hX hXb => by
    obtain ⟨m1, q1, i1, i2, i3, i4⟩ := int_norm h0 hX
    have u := up X hXb
    rw [shiftUp (b := C) (k := 1074) (by omega) i4] at u
    rw [i4]
    exact up_of (neg := false) hp hv i1 i2 i3 (by rw [Int.natAbs_natCast]; exact u)
  have f := (upto (2 ^ 53) (by decide) (Nat.le_refl _) (Nat.le_mul_of_pos_right _ (by omega))).1
  have pos := (pos_read (nearest_le mag place) f).2
  refine ⟨_, e, f, nearest_lt _ _ _, pos, fun X hX hXb => ?_, fun s hs => ?_⟩
  · by_cases h0 : X = 0
    · subst h0; rw [Nat.zero_mul] at hXb; omega
    · have u := (upto X h0 hX hXb).2
      have ek : ((X * 2 ^ 1074 : Nat) : Int) = X * KK := by rw [Int.natCast_mul, KK_nat]
      rw [← ek]
      generalize X * 2 ^ 1074 = Y at *
      omega
  · by_cases h0 : s = 0
    · subst h0; simpa using pos
    · have hs53 : s ≤ 2 ^ 53 := Nat.le_trans (Nat.le_mul_of_pos_right s (by omega)) hs
      obtain ⟨m1, q1, i1, i2, i3, i4⟩ := int_norm h0 hs53
      have u := low s hs
      rw [shiftUp (b := C) (k := 1074) (by omega) i4] at u
      have hnn : (0 : Int) ≤ ((mag * 2 ^ kk : Nat) : Int) := Int.natCast_nonneg _
      have g := down_of (q := q1) (neg := false) hp hv (fun _ => (decide_eq_false (by omega)).symm) i1 i2 (by rw [Int.natAbs_natCast]; exact u)
      have ek : ((m1 * 2 ^ q1 : Nat) : Int) = s * KK := by rw [← i4, Int.natCast_mul, KK_nat]
      rw [← ek]
      rcases g with ⟨_, g | g⟩ | g
      · exact g.2
      · omega
      · exfalso
        rw [g] at f
        unfold Fin64 at f
        have : ∀ b : Bool, double.word b double.infRung % double.signWeight = double.infRung := by decide
        rw [this] at f
        omega
theorem floor53 {b : Nat} {v r : Value} (hb : b ≠ 0) (h2 : b < 2 ^ 53) (hv : v = .float .f64 (fv v)) (hq : farV .quo .f64 4845873199050653696 (nr b) = some (some (fv v)) ∨ farV .quo .f64 4845873199050653696 (nr b) = some none ∧ Nan64 (fv v)) (h : extRel .floor [v] r) :
    Fin64 (fv r) ∧ ∀ s : Nat, s * b ≤ 2 ^ 53 → s * KK ≤ sv (fv r) := by
  obtain ⟨q, e, f, l, pos, up, low⟩ := div53 hb h2
  have eq := far_is hq (congrArg some e)
  have hKp := KK_pos
  by_cases h1 : b = 1
  · subst h1
    have hi := up (2 ^ 53) (Nat.le_refl _) (by decide)
    have lo := low (2 ^ 53) (by decide)
    have e53 : ((2 ^ 53 : Nat) : Int) = 2 ^ 53 := rfl
    have w := whole_of (n := 2 ^ 53) f (by rw [e53] at hi lo; omega) l (by decide) (by decide)
    rw [hv, eq] at h
    obtain ⟨c, rfl, wc, _⟩ := intg_whole w (show intgRel .down q r from h)
    obtain ⟨g1, g2, _⟩ := whole_sv wc
    refine ⟨g1, fun s hs => ?_⟩
    show (s : Int) * KK ≤ sv c
    rw [g2]
    exact Int.mul_le_mul_of_nonneg_right (by omega) (by omega)
  · have hi := up (2 ^ 52) (by decide) (by omega)
    have fl2 : flr q < 2 ^ 53 := by
      rw [flr_lt]
      have e52 : ((2 ^ 52 : Nat) : Int) = 2 ^ 52 := rfl
      rw [e52] at hi
      omega
    have fl1 : 0 ≤ flr q := by rw [le_flr]; simpa using pos
    rw [eq] at hv
    obtain ⟨g1, g2⟩ := floor_fv (x := v) (r := r) (by rw [hv]; rfl) h (by rw [hv]; exact f) (by rw [hv]; show _ < flr q; omega) (by rw [hv]; exact fl2)
    refine ⟨g1, fun s hs => ?_⟩
    rw [g2]
    have : (s : Int) ≤ flr (fv v) := by rw [hv]; show (s : Int) ≤ flr q; rw [le_flr]; exact low s hs
    exact Int.mul_le_mul_of_nonneg_right this (by omega)
theorem nr_quo {k b r : Nat} (hb : b ≠ 0) (hk : k ≠ 0) (h1 : k * b < 2 ^ 53) (hr : farV .quo .f64 (nr (k * b)) (nr b) = some (some r) ∨ farV .quo .f64 (nr (k * b)) (nr b) = some none ∧ Nan64 r) : r = nr k := by
  have hb2 : b < 2 ^ 53 := Nat.lt_of_le_of_lt (Nat.le_mul_of_pos_left b (by omega)) h1
  exact far_is hr (congrArg some (div_exact hb h1 hb2))
theorem nr_mul_fin {a b r : Nat} (ha : a ≤ 2 ^ 32) (hb : b ≤ 2 ^ 32) (hr : farV .mul .f64 (nr a) (nr b) = some (some r) ∨ farV .mul .f64 (nr a) (nr b) = some none ∧ Nan64 r) : Fin64 r := by
  obtain ⟨f1, s1, _⟩ := nr_sv (n := a) (by omega)
  obtain ⟨f2, s2, _⟩ := nr_sv (n := b) (by omega)
  obtain ⟨neg, mag, place, e, hp, hv, _⟩ := mul_data f1 f2
  have := far_is hr (congrArg some e)
  subst this
  have hab : a * b ≤ 2 ^ 64 := Nat.le_trans (Nat.mul_le_mul ha hb) (by decide)
  obtain ⟨K, hK⟩ : ∃ K : Nat, K = 1074 := ⟨_, rfl⟩
  have kk : KK.natAbs = 2 ^ K := by rw [hK]; exact KK_abs
  have hV : (sv (nr a) * sv (nr b)).natAbs = a * b * (2 ^ K * 2 ^ K) := by
    rw [s1, s2, Int.natAbs_mul, Int.natAbs_mul, Int.natAbs_mul, kk, Int.natAbs_natCast, Int.natAbs_natCast]
    ac_rfl
  obtain ⟨Q, hQ⟩ : ∃ Q : Nat, Q = 1086 := ⟨_, rfl⟩
  exact (up_of (m := 2 ^ 52) (q := Q) hp hv (by decide) (by decide) (by omega) (Nat.le_trans (Nat.le_of_eq hV) (mulpow hab (by omega)))).1
end Go.Ev
