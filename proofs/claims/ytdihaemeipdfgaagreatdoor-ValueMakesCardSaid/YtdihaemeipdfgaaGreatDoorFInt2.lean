/- Floats made whole. -/
import Derived.Test.YtdihaemeipdfgaaGreatDoorFInt
namespace Go.Ev
open Ieee

theorem pow_min_div (m d : Nat) : m / (1 <<< min d (m.log2 + 2)) = m / 2 ^ d ∧ (m % (1 <<< min d (m.log2 + 2)) = 0 ↔ m % 2 ^ d = 0) := by
  have e : 1 <<< min d (m.log2 + 2) = 2 ^ min d (m.log2 + 2) := by rw [Nat.shiftLeft_eq, Nat.one_mul]
  rw [e]
  rcases Nat.le_total d (m.log2 + 2) with h | h
  · rw [Nat.min_eq_left h]; exact ⟨rfl, Iff.rfl⟩
  · rw [Nat.min_eq_right h]
    have h1 : m < 2 ^ (m.log2 + 1) := Nat.lt_log2_self
    have h2 : 2 ^ (m.log2 + 1) ≤ 2 ^ (m.log2 + 2) := Nat.pow_le_pow_right (by decide) (by omega)
    have h3 : 2 ^ (m.log2 + 2) ≤ 2 ^ d := Nat.pow_le_pow_right (by decide) h
    rw [Nat.div_eq_of_lt (by omega), Nat.div_eq_of_lt (by omega), Nat.mod_eq_of_lt (by omega), Nat.mod_eq_of_lt (by omega)]
    exact ⟨rfl, Iff.rfl⟩

theorem cut_down (neg : Bool) (m d : Nat) : Toward.down.cut neg m d = m / 2 ^ d + (neg && (m % 2 ^ d != 0)).toNat := by
  unfold Toward.cut
  obtain ⟨h1, h2⟩ := pow_min_div m d
  simp only [h1]
  have : (m % (1 <<< min d (m.log2 + 2)) != 0) = (m % 2 ^ d != 0) := by
    rw [Bool.eq_iff_iff]
    simp only [bne_iff_ne, ne_eq, h2]
  rw [this]

theorem cut_zero_way (neg : Bool) (m d : Nat) : Toward.zero.cut neg m d = m / 2 ^ d := by
  unfold Toward.cut
  obtain ⟨h1, h2⟩ := pow_min_div m d
  simp only [h1]
  simp

/-- The whole number below. -/
def flr (x : Nat) : Int := sv x / KK

theorem floor_neg (m p : Nat) (hp : 0 < p) : (-(m : Int)) / (p : Int) = -((m / p + (if m % p = 0 then 0 else 1) : Nat) : Int) := by
  have hp' : (0 : Int) < (p : Int) := by exact_mod_cast hp
  have hdm : (m : Int) = (p : Int) * ((m / p : Nat) : Int) + ((m % p : Nat) : Int) := by exact_mod_cast (Nat.div_add_mod m p).symm
  have hlt : ((m % p : Nat) : Int) < p := by exact_mod_cast Nat.mod_lt m hp
  by_cases h : m % p = 0
  · rw [if_pos h, Nat.add_zero]
    rw [h] at hdm
    rw [hdm, Int.natCast_zero, Int.add_zero, ← Int.mul_neg, Int.mul_ediv_cancel_left _ (by omega)]
  · rw [if_neg h]
    have h1 : (1 : Int) ≤ ((m % p : Nat) : Int) := by
      have : 1 ≤ m % p := by omega
      exact_mod_cast this
    have e : -(m : Int) = ((p : Int) - ((m % p : Nat) : Int)) + (p : Int) * (-((m / p + 1 : Nat) : Int)) := by
      rw [hdm, Int.natCast_add, Int.mul_neg, Int.mul_add]; simp; omega
    rw [e, Int.add_mul_ediv_left _ _ (by omega), Int.ediv_eq_zero_of_lt (by omega) (by omega), Int.zero_add]

theorem KK_split {d : Nat} (h : d ≤ 1074) : KK = (2 : Int) ^ d * 2 ^ (1074 - d) := by
  unfold KK; rw [← Int.pow_add, show d + (1074 - d) = 1074 by omega]

theorem sv_eq {x : Nat} {s : Bool} {m : Nat} {i : Int} (e : double.read x = .number s m i) : sv x = (if s then -1 else 1) * ((m : Int) * 2 ^ (i + 1074).toNat) := by
  unfold sv
  rw [e]
  simp only [signed_eq, leastPlace_eq]
  congr 3
  all_goals omega

/-- Made whole, downwards. -/
theorem toInt_down {x : Nat} (h : Fin64 x) : (FloatKind.f64.decode x).toInt .down = some (flr x) := by
  obtain ⟨s, m, i, e, _, hL, hU, _⟩ := read_fin h
  have hd : FloatKind.f64.decode x = .number s m i := e
  rw [leastPlace_eq] at hL
  unfold Datum.toInt
  rw [hd]
  simp only [Datum.integral]
  congr 1
  unfold flr
  rw [sv_eq e, signed_eq]
  rcases Int.le_total 0 i with hi | hi
  · have e1 : (-i).toNat = 0 := by omega
    rw [e1, cut_zero, Nat.shiftLeft_eq]
    have e2 : (i + 1074).toNat = i.toNat + 1074 := by omega
    rw [e2, Int.pow_add]
    have e3 : (2 : Int) ^ 1074 = KK := rfl
    rw [e3]
    simp only [← Int.mul_assoc]
    rw [Int.mul_ediv_cancel _ (Int.ne_of_gt KK_pos)]
    simp [Int.natCast_mul, Int.natCast_pow, Int.mul_assoc]
  · obtain ⟨d, hdi⟩ : ∃ d : Nat, i = -(d : Int) := ⟨(-i).toNat, by omega⟩
    subst hdi
    have hd2 : d ≤ 1074 := by omega
    have e1 : (-(-(d : Int))).toNat = d := by omega
    have e2 : (-(d : Int)).toNat = 0 := by omega
    have e3 : (-(d : Int) + 1074).toNat = 1074 - d := by omega
    rw [e1, e2, e3, Nat.shiftLeft_zero, cut_down, KK_split hd2]
    have hp : (0 : Int) < 2 ^ (1074 - d) := pow_pos_int _
    have hq : 0 < 2 ^ d := Nat.two_pow_pos d
    have cast : ((2 ^ d : Nat) : Int) = 2 ^ d := by simp
    cases s
    · simp only [Bool.false_eq_true, if_false, Int.one_mul, Bool.false_and, Bool.toNat_false, Nat.add_zero, Int.pow_zero, Int.mul_one]
      rw [Int.mul_ediv_mul_of_pos_left _ _ hp, ← cast]
      exact (Int.natCast_ediv m (2 ^ d))
    · simp only [if_true, Bool.true_and, Int.pow_zero, Int.mul_one]
      have : (-1 : Int) * (↑m * 2 ^ (1074 - d)) = (-(m : Int)) * 2 ^ (1074 - d) := by rw [Int.neg_mul, Int.one_mul, Int.neg_mul]
      rw [this, Int.mul_ediv_mul_of_pos_left _ _ hp, ← cast, floor_neg m (2 ^ d) hq]
      rw [Int.neg_mul, Int.one_mul]
      congr 2
      by_cases hz : m % 2 ^ d = 0
      · simp [hz]
      · simp [hz]

theorem toInt_zero {x : Nat} (h : Fin64 x) : (FloatKind.f64.decode x).toInt .zero = some ((sv x).tdiv KK) := by
  obtain ⟨s, m, i, e, _, hL, hU, _⟩ := read_fin h
  have hd : FloatKind.f64.decode x = .number s m i := e
  rw [leastPlace_eq] at hL
  unfold Datum.toInt
  rw [hd]
  simp only [Datum.integral]
  congr 1
  rw [sv_eq e, signed_eq]
  rcases Int.le_total 0 i with hi | hi
  · have e1 : (-i).toNat = 0 := by omega
    rw [e1, cut_zero, Nat.shiftLeft_eq]
    have e2 : (i + 1074).toNat = i.toNat + 1074 := by omega
    rw [e2, Int.pow_add]
    have e3 : (2 : Int) ^ 1074 = KK := rfl
    rw [e3]
    simp only [← Int.mul_assoc]
    rw [Int.mul_tdiv_cancel _ (Int.ne_of_gt KK_pos)]
    simp [Int.natCast_mul, Int.natCast_pow, Int.mul_assoc]
  · obtain ⟨d, hdi⟩ : ∃ d : Nat, i = -(d : Int) := ⟨(-i).toNat, by omega⟩
    subst hdi
    have hd2 : d ≤ 1074 := by omega
    have e1 : (-(-(d : Int))).toNat = d := by omega
    have e2 : (-(d : Int)).toNat = 0 := by omega
    have e3 : (-(d : Int) + 1074).toNat = 1074 - d := by omega
    rw [e1, e2, e3, Nat.shiftLeft_zero, cut_zero_way, KK_split hd2]
    have hp : (0 : Int) < 2 ^ (1074 - d) := pow_pos_int _
    have cast : ((2 ^ d : Nat) : Int) = 2 ^ d := by simp
    have key : ((m : Int) * 2 ^ (1074 - d)).tdiv (2 ^ d * 2 ^ (1074 - d)) = ((m / 2 ^ d : Nat) : Int) := by
      rw [Int.mul_tdiv_mul_of_pos_left _ _ hp, ← cast]
      rfl
    cases s
    · simp only [Bool.false_eq_true, if_false, Int.one_mul, Int.pow_zero, Int.mul_one, key]
    · simp only [if_true, Int.neg_mul, Int.one_mul, Int.neg_tdiv, Int.pow_zero, Int.mul_one, key]

theorem not_nan {x : Nat} (h : Fin64 x) : ∀ s t, FloatKind.f64.decode x ≠ .nan s t := fun s t e => by
  obtain ⟨a, m, i, e', _⟩ := read_fin h
  have : FloatKind.f64.decode x = .number a m i := e'
  rw [this] at e; cases e

/-- A float made whole is the float of that whole number, but for the sign of a nought. -/
theorem integral_fin {x : Nat} (h : Fin64 x) (way : Toward) {n : Int} (hn : (FloatKind.f64.decode x).toInt way = some n) (h1 : -(2 ^ 53) < n) (h2 : n < 2 ^ 53) :
    Fin64 (FloatKind.f64.encode ((FloatKind.f64.decode x).integral way)) ∧ sv (FloatKind.f64.encode ((FloatKind.f64.decode x).integral way)) = n * KK := by
  obtain ⟨s, m, i, e, _⟩ := read_fin h
  have hd : FloatKind.f64.decode x = .number s m i := e
  rw [hd] at hn ⊢
  simp only [Datum.toInt, Datum.integral, Option.some.injEq] at hn ⊢
  generalize way.cut s (m <<< i.toNat) (-i).toNat = c at hn
  rw [signed_eq, Int.pow_zero, Int.mul_one] at hn
  have hw : FloatKind.f64.encode (.number s c 0) = double.nearest s c 0 := rfl
  rw [hw]
  by_cases h0 : c = 0
  · subst h0
    have hn0 : n = 0 := by rw [← hn]; simp
    subst hn0
    have e0 : ∃ p, double.read (double.nearest s 0 0) = .number s 0 p := by cases s <;> exact ⟨double.leastPlace, by decide +kernel⟩
    obtain ⟨p, e0⟩ := e0
    refine ⟨fin_of_read e0, ?_⟩
    unfold sv
    rw [e0]
    simp [signed_eq]
  · have hc : c < 2 ^ 53 := by
      cases s <;> simp at hn <;> omega
    have hr := nearest_small (neg := s) h0 hc
    refine ⟨fin_of_read hr, ?_⟩
    unfold sv
    rw [hr]
    simp only [signed_eq, leastPlace_eq]
    have hd52 : 52 - c.log2 ≤ 52 := by omega
    generalize 52 - c.log2 = d at hd52
    have e1 : (-(d : Int) - -1074).toNat = 1074 - d := by omega
    rw [e1, Int.natCast_mul, Int.natCast_pow, Int.mul_assoc]
    have e2 : ((2 : Nat) : Int) ^ d * 2 ^ (1074 - d) = KK := by
      show (2 : Int) ^ d * 2 ^ (1074 - d) = 2 ^ 1074
      rw [← Int.pow_add, show d + (1074 - d) = 1074 by omega]
    rw [e2, ← Int.mul_assoc, hn]

/-- The float without its sign. -/
theorem abs_read {x : Nat} {s : Bool} {m : Nat} {i : Int} (e : double.read x = .number s m i) : double.read (x % 2 ^ 63) = .number false m i := by
  have hw : double.signWeight = 2 ^ 63 := rfl
  unfold Format.read at e ⊢
  simp only [hw] at e ⊢
  have e1 : x % 2 ^ 63 % 2 ^ 63 = x % 2 ^ 63 := Nat.mod_mod _ _
  have e2 : (x % 2 ^ 63 / 2 ^ 63 % 2 == 1) = false := by
    have : x % 2 ^ 63 / 2 ^ 63 = 0 := Nat.div_eq_of_lt (Nat.mod_lt _ (by decide))
    simp [this]
  rw [e1, e2]
  split at e
  · rename_i hb
    rw [if_pos hb]
    cases e; rfl
  · rename_i hb
    rw [if_neg hb]
    split at e
    · rename_i hi
      rw [if_pos hi]
      cases e; rfl
    · split at e <;> cases e

theorem abs_fin {x : Nat} (h : Fin64 x) : Fin64 (x % 2 ^ 63) ∧ sv (x % 2 ^ 63) = if sv x < 0 then - sv x else sv x := by
  obtain ⟨s, m, i, e, _⟩ := read_fin h
  have ha := abs_read e
  refine ⟨fin_of_read ha, ?_⟩
  rw [sv_eq e, sv_eq ha]
  have hnn : (0 : Int) ≤ (m : Int) * 2 ^ (i + 1074).toNat := Int.mul_nonneg (by omega) (Int.le_of_lt (pow_pos_int _))
  generalize (m : Int) * 2 ^ (i + 1074).toNat = q at hnn
  cases s <;> simp <;> omega
end Go.Ev
