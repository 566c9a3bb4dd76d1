/- Floats as whole multiples of the least one. -/
import Derived.Test.YtlpbimookmhjbaaGreatDoorEvVal
namespace Go.Ev
open Ieee

/-- How many least floats make 1. -/
def KK : Int := 2 ^ 1074
theorem KK_pos : 0 < KK := Int.pow_pos (by decide)

/-- A float as a multiple of the least one. -/
def sv (x : Nat) : Int := match double.read x with
  | .number s m i => signed s m (i - double.leastPlace).toNat
  | _ => 0

theorem leastPlace_eq : double.leastPlace = -1074 := by decide

theorem read_place {x : Nat} {s : Bool} {m : Nat} {i : Int} (h : double.read x = .number s m i) : double.leastPlace ≤ i := by
  unfold Format.read at h
  simp only at h
  split at h
  · cases h; exact Int.le_refl _
  · split at h
    · cases h; omega
    · split at h <;> cases h

theorem signed_mul (s : Bool) (m a b : Nat) : signed s m (a + b) = signed s m a * 2 ^ b := by
  unfold signed
  have h : (m <<< (a + b) : Nat) = (m <<< a) * 2 ^ b := by rw [Nat.shiftLeft_eq, Nat.shiftLeft_eq, Nat.pow_add, Nat.mul_assoc]
  rw [h]
  cases s <;> simp [Int.natCast_mul, Int.natCast_pow, Int.neg_mul]

theorem pow_pos_int (k : Nat) : (0 : Int) < 2 ^ k := Int.pow_pos (by decide)

theorem compare_mul {a b c : Int} (hc : 0 < c) : compare (a * c) (b * c) = compare a b := by
  rcases Int.lt_trichotomy a b with h | h | h
  · rw [Int.compare_eq_lt.2 h, Int.compare_eq_lt.2 (Int.mul_lt_mul_of_pos_right h hc)]
  · subst h; simp [Std.ReflCmp.compare_self]
  · rw [Int.compare_eq_gt.2 h, Int.compare_eq_gt.2 (Int.mul_lt_mul_of_pos_right h hc)]

/-- How two finite floats stand to each other. -/
theorem ford_fin {x y : Nat} (hx : Fin64 x) (hy : Fin64 y) : ford x y = some (compare (sv x) (sv y)) := by
  obtain ⟨s, m, i, e1, _⟩ := read_fin hx
  obtain ⟨t, n, j, e2, _⟩ := read_fin hy
  have h1 := read_place e1
  have h2 := read_place e2
  unfold ford Format.order sv
  rw [e1, e2]
  simp only [Datum.order]
  congr 1
  generalize double.leastPlace = L at h1 h2
  have hb : L ≤ min i j := by omega
  have a1 : (i - L).toNat = (i - min i j).toNat + (min i j - L).toNat := by omega
  have a2 : (j - L).toNat = (j - min i j).toNat + (min i j - L).toNat := by omega
  rw [a1, a2, signed_mul, signed_mul, compare_mul (pow_pos_int _)]

theorem ford_nan {x : Nat} (h : Nan64 x) (y : Nat) : ford x y = none ∧ ford y x = none := order_nan h y

/-- Finite, infinite, or no number. -/
theorem three (x : Nat) : Fin64 x ∨ x % double.signWeight = double.infRung ∨ Nan64 x := by
  unfold Fin64 Nan64
  omega

/-- A number is finite just if it is less than an infinity either way. -/
theorem sv_shift {s : Bool} {m : Nat} {i : Int} (h : double.leastPlace ≤ i) (hi : i ≤ 0) : signed s m (i - double.leastPlace).toNat * 2 ^ (-i).toNat = signed s m 0 * KK := by
  rw [← signed_mul]
  have : (i - double.leastPlace).toNat + (-i).toNat = 0 + 1074 := by rw [leastPlace_eq] at *; omega
  rw [this, signed_mul]
  rfl

/-! ### Whole numbers -/
theorem log2_lt {n k : Nat} (hn : n ≠ 0) (h : n < 2 ^ k) : n.log2 < k := (Nat.log2_lt hn).2 h

/-- A word read, by sign and rung. -/
theorem read_word {neg : Bool} {r : Nat} (hr : r < double.infRung) : double.read (double.word neg r) =
    if r < double.binade then .number neg r double.leastPlace else .number neg (double.binade + r % double.binade) (double.leastPlace + (r / double.binade - 1 : Nat)) := by
  have hw : double.signWeight = 2 ^ 63 := rfl
  have hi : double.infRung = 2047 * 2 ^ 52 := rfl
  have hb : double.binade = 2 ^ 52 := rfl
  rw [hi] at hr
  have e1 : double.word neg r % double.signWeight = r := by
    unfold Format.word; rw [hw]; cases neg <;> simp <;> omega
  have e2 : (double.word neg r / double.signWeight % 2 == 1) = neg := by
    unfold Format.word; rw [hw]
    cases neg
    · have : r / 2 ^ 63 = 0 := Nat.div_eq_of_lt (by omega)
      simp [this]
    · have : (2 ^ 63 + r) / 2 ^ 63 = 1 := by omega
      simp [this]
  unfold Format.read
  simp only [e1, e2]
  split
  · rfl
  · rw [if_pos (by rw [hi]; exact hr)]

theorem infRung_eq : double.infRung = 2047 * 2 ^ 52 := rfl
theorem binade_eq : double.binade = 2 ^ 52 := rfl

theorem cut_zero (way : Toward) (neg : Bool) (n : Nat) : way.cut neg n 0 = n := by
  unfold Toward.cut
  simp only [Nat.zero_min, Nat.shiftLeft_zero, Nat.div_one, Nat.mod_one, Nat.mul_zero, Nat.not_lt_zero, decide_false, Bool.false_or]
  cases way <;> simp

theorem rung_lt {d q : Nat} (h : q < 2 ^ 53) : (1074 - d) * 2 ^ 52 + q < 2047 * 2 ^ 52 := by omega
theorem rung_le {d q : Nat} (h : q < 2 ^ 53) : (1074 - d) * 2 ^ 52 + q ≤ 2047 * 2 ^ 52 := by omega
theorem rung_parts {d q : Nat} (hd : d ≤ 52) (h1 : 2 ^ 52 ≤ q) (h2 : q < 2 ^ 53) : 2 ^ 52 + ((1074 - d) * 2 ^ 52 + q) % 2 ^ 52 = q ∧ ((1074 - d) * 2 ^ 52 + q) / 2 ^ 52 = 1075 - d := by omega

/-- The word of a number of at most 53 digits, from a place that is not too high or low. -/
theorem nearest_small {neg : Bool} {mag : Nat} (h0 : mag ≠ 0) (h : mag < 2 ^ 53) :
    double.read (double.nearest neg mag 0) = .number neg (mag * 2 ^ (52 - mag.log2)) (-((52 - mag.log2 : Nat) : Int)) := by
  have hl := log2_lt h0 h
  have hself := Nat.log2_self_le h0
  have hlt := Nat.lt_log2_self (n := mag)
  generalize hd : 52 - mag.log2 = d
  have hlog : mag.log2 = 52 - d := by omega
  have hd52 : d ≤ 52 := by omega
  rw [hlog] at hself hlt
  have k1 : 2 ^ 52 ≤ mag * 2 ^ d := by
    have : 2 ^ (52 - d) * 2 ^ d ≤ mag * 2 ^ d := Nat.mul_le_mul_right _ hself
    rwa [← Nat.pow_add, show 52 - d + d = 52 by omega] at this
  have k2 : mag * 2 ^ d < 2 ^ 53 := by
    have : mag * 2 ^ d < 2 ^ (52 - d + 1) * 2 ^ d := Nat.mul_lt_mul_of_pos_right hlt (Nat.two_pow_pos d)
    rwa [← Nat.pow_add, show 52 - d + 1 + d = 53 by omega] at this
  have hlast : max ((0 : Int) + mag.log2 - double.fractionBits) double.leastPlace = -(d : Int) := by
    rw [leastPlace_eq, show double.fractionBits = 52 from rfl, hlog]
    omega
  have hn : double.nearest neg mag 0 = double.word neg ((1074 - d) * 2 ^ 52 + mag * 2 ^ d) := by
    unfold Format.nearest
    rw [if_neg h0]
    simp only [hlast]
    have e1 : ((0 : Int) - -(d : Int)).toNat = d := by omega
    have e2 : (-(d : Int) - 0).toNat = 0 := by omega
    have e3 : (-(d : Int) - double.leastPlace).toNat = 1074 - d := by rw [leastPlace_eq]; omega
    rw [e1, e2, e3, cut_zero, Nat.shiftLeft_eq, infRung_eq, binade_eq]
    exact congrArg _ (Nat.min_eq_left (rung_le k2))
  rw [hn, read_word (by rw [infRung_eq]; exact rung_lt k2)]
  rw [if_neg (by rw [binade_eq]; exact Nat.not_lt.2 (Nat.le_trans k1 (Nat.le_add_left _ _))), binade_eq]
  obtain ⟨e4, e5⟩ := rung_parts hd52 k1 k2
  rw [e4, e5, leastPlace_eq]
  have e6 : (-1074 : Int) + ((1075 - d - 1 : Nat) : Int) = -(d : Int) := by omega
  rw [e6]

theorem signed_eq (neg : Bool) (m up : Nat) : signed neg m up = (if neg then -1 else 1) * ((m : Int) * 2 ^ up) := by
  unfold signed
  rw [Nat.shiftLeft_eq]
  cases neg <;> simp [Int.natCast_mul, Int.natCast_pow]

theorem fin_of_read {x : Nat} {s : Bool} {m : Nat} {i : Int} (h : double.read x = .number s m i) : Fin64 x := by
  unfold Format.read at h
  simp only at h
  unfold Fin64
  split at h
  · rename_i hb
    have : double.binade ≤ double.infRung := by decide
    omega
  · split at h
    · assumption
    · split at h <;> cases h

/-- The float of a whole number that is not too great is that number. -/
theorem nearest_int {n : Int} (h1 : -(2 ^ 53) ≤ n) (h2 : n ≤ 2 ^ 53) : Fin64 (FloatKind.f64.nearest n) ∧ sv (FloatKind.f64.nearest n) = n * KK := by
  have hw : FloatKind.f64.nearest n = double.nearest (decide (n < 0)) n.natAbs 0 := rfl
  by_cases h0 : n = 0
  · subst h0
    have e : double.read (FloatKind.f64.nearest 0) = .number false 0 double.leastPlace := by decide +kernel
    refine ⟨fin_of_read e, ?_⟩
    unfold sv
    rw [e]
    simp [signed_eq]
  · by_cases ha : n.natAbs < 2 ^ 53
    · have hr := nearest_small (neg := decide (n < 0)) (mag := n.natAbs) (by omega) ha
      rw [← hw] at hr
      refine ⟨fin_of_read hr, ?_⟩
      unfold sv
      rw [hr]
      simp only [signed_eq, leastPlace_eq]
      have hd52 : 52 - n.natAbs.log2 ≤ 52 := by omega
      generalize 52 - n.natAbs.log2 = d at hd52
      have e1 : (-(d : Int) - -1074).toNat = 1074 - d := by omega
      rw [e1, Int.natCast_mul, Int.natCast_pow, Int.mul_assoc]
      have e2 : ((2 : Nat) : Int) ^ d * 2 ^ (1074 - d) = KK := by
        show (2 : Int) ^ d * 2 ^ (1074 - d) = 2 ^ 1074
        rw [← Int.pow_add, show d + (1074 - d) = 1074 by omega]
      rw [e2, ← Int.mul_assoc]
      congr 1
      by_cases hneg : n < 0
      · simp [hneg]; omega
      · simp [hneg]; omega
    · have : n = 2 ^ 53 ∨ n = -(2 ^ 53) := by omega
      rcases this with rfl | rfl
      · have e : double.read (FloatKind.f64.nearest (2 ^ 53)) = .number false (2 ^ 52) 1 := by decide +kernel
        refine ⟨fin_of_read e, ?_⟩
        unfold sv
        rw [e]
        simp only [signed_eq, leastPlace_eq]
        decide +kernel
      · have e : double.read (FloatKind.f64.nearest (-(2 ^ 53))) = .number true (2 ^ 52) 1 := by decide +kernel
        refine ⟨fin_of_read e, ?_⟩
        unfold sv
        rw [e]
        simp only [signed_eq, leastPlace_eq]
        decide +kernel
end Go.Ev

namespace Go.Ev
open Ieee

theorem pow_min_div (m d : Nat) : m / (1 <<< min d (m.log2 + 2)) = m / 2 ^ d ∧ (m % (1 <<< min d (m.log2 + 2)) = 0 ↔ m % 2 ^ d = 0) := by
  have e : 1 <<< min d (m.log2 + 2) = 2 ^ min d (m.log2 + 2) := by rw [Nat.shiftLeft_eq, Nat.one_mul]
  rw [e]
  rcases Nat.le_total d (m.log2 + 2) with h | h
  · rw [Nat.min_eq_left h]; exact ⟨rfl, Iff.rfl⟩
  · rw [Nat.min_eq_right h]
    have h1 : m < 2 ^ (m.log2 + 1) := Nat.lt_log2_self
    have h2 : 2 ^ (m.log2 + 1) ≤ 2 ^ (m.log2 + 2) := Nat.pow_le_pow_right (by decide) (by omega)
    have h3 : 2 ^ (m.log2 + 2) ≤ 2 ^ d := Nat.pow_le_pow_right (by decide) h
    rw [Nat.div_eq_of_lt (by omega), Nat.div_eq_of_lt (by omega), Nat.mod_eq_of_lt (by omega), Nat.mod_eq_of_lt (by omega)]
    exact ⟨rfl, Iff.rfl⟩

theorem cut_down (neg : Bool) (m d : Nat) : Toward.down.cut neg m d = m / 2 ^ d + (neg && (m % 2 ^ d != 0)).toNat := by
  unfold Toward.cut
  obtain ⟨h1, h2⟩ := pow_min_div m d
  simp only [h1]
  have : (m % (1 <<< min d (m.log2 + 2)) != 0) = (m % 2 ^ d != 0) := by
    rw [Bool.eq_iff_iff]
    simp only [bne_iff_ne, ne_eq, h2]
  rw [this]

theorem cut_zero_way (neg : Bool) (m d : Nat) : Toward.zero.cut neg m d = m / 2 ^ d := by
  unfold Toward.cut
  obtain ⟨h1, h2⟩ := pow_min_div m d
  simp only [h1]
  simp

/-- The whole number below. -/
def flr (x : Nat) : Int := sv x / KK

theorem floor_neg (m p : Nat) (hp : 0 < p) : (-(m : Int)) / (p : Int) = -((m / p + (if m % p = 0 then 0 else 1) : Nat) : Int) := by
  have hp' : (0 : Int) < (p : Int) := by exact_mod_cast hp
  have hdm : (m : Int) = (p : Int) * ((m / p : Nat) : Int) + ((m % p : Nat) : Int) := by exact_mod_cast (Nat.div_add_mod m p).symm
  have hlt : ((m % p : Nat) : Int) < p := by exact_mod_cast Nat.mod_lt m hp
  by_cases h : m % p = 0
  · rw [if_pos h, Nat.add_zero]
    rw [h] at hdm
    rw [hdm, Int.natCast_zero, Int.add_zero, ← Int.mul_neg, Int.mul_ediv_cancel_left _ (by omega)]
  · rw [if_neg h]
    have h1 : (1 : Int) ≤ ((m % p : Nat) : Int) := by
      have : 1 ≤ m % p := by omega
      exact_mod_cast this
    have e : -(m : Int) = ((p : Int) - ((m % p : Nat) : Int)) + (p : Int) * (-((m / p + 1 : Nat) : Int)) := by
      rw [hdm, Int.natCast_add, Int.mul_neg, Int.mul_add]; simp; omega
    rw [e, Int.add_mul_ediv_left _ _ (by omega), Int.ediv_eq_zero_of_lt (by omega) (by omega), Int.zero_add]

theorem KK_split {d : Nat} (h : d ≤ 1074) : KK = (2 : Int) ^ d * 2 ^ (1074 - d) := by
  unfold KK; rw [← Int.pow_add, show d + (1074 - d) = 1074 by omega]

theorem sv_eq {x : Nat} {s : Bool} {m : Nat} {i : Int} (e : double.read x = .number s m i) : sv x = (if s then -1 else 1) * ((m : Int) * 2 ^ (i + 1074).toNat) := by
  unfold sv
  rw [e]
  simp only [signed_eq, leastPlace_eq]
  congr 3
  all_goals omega

/-- Made whole, downwards. -/
theorem toInt_down {x : Nat} (h : Fin64 x) : (FloatKind.f64.decode x).toInt .down = some (flr x) := by
  obtain ⟨s, m, i, e, _, hL, hU, _⟩ := read_fin h
  have hd : FloatKind.f64.decode x = .number s m i := e
  rw [leastPlace_eq] at hL
  unfold Datum.toInt
  rw [hd]
  simp only [Datum.integral]
  congr 1
  unfold flr
  rw [sv_eq e, signed_eq]
  rcases Int.le_total 0 i with hi | hi
  · have e1 : (-i).toNat = 0 := by omega
    rw [e1, cut_zero, Nat.shiftLeft_eq]
    have e2 : (i + 1074).toNat = i.toNat + 1074 := by omega
    rw [e2, Int.pow_add]
    have e3 : (2 : Int) ^ 1074 = KK := rfl
    rw [e3]
    simp only [← Int.mul_assoc]
    rw [Int.mul_ediv_cancel _ (Int.ne_of_gt KK_pos)]
    simp [Int.natCast_mul, Int.natCast_pow, Int.mul_assoc]
  · obtain ⟨d, hdi⟩ : ∃ d : Nat, i = -(d : Int) := ⟨(-i).toNat, by omega⟩
    subst hdi
    have hd2 : d ≤ 1074 := by omega
    have e1 : (-(-(d : Int))).toNat = d := by omega
    have e2 : (-(d : Int)).toNat = 0 := by omega
    have e3 : (-(d : Int) + 1074).toNat = 1074 - d := by omega
    rw [e1, e2, e3, Nat.shiftLeft_zero, cut_down, KK_split hd2]
    have hp : (0 : Int) < 2 ^ (1074 - d) := pow_pos_int _
    have hq : 0 < 2 ^ d := Nat.two_pow_pos d
    have cast : ((2 ^ d : Nat) : Int) = 2 ^ d := by simp
    cases s
    · simp only [Bool.false_eq_true, if_false, Int.one_mul, Bool.false_and, Bool.toNat_false, Nat.add_zero, Int.pow_zero, Int.mul_one]
      rw [Int.mul_ediv_mul_of_pos_left _ _ hp, ← cast]
      exact (Int.natCast_ediv m (2 ^ d))
    · simp only [if_true, Bool.true_and, Int.pow_zero, Int.mul_one]
      have : (-1 : Int) * (↑m * 2 ^ (1074 - d)) = (-(m : Int)) * 2 ^ (1074 - d) := by rw [Int.neg_mul, Int.one_mul, Int.neg_mul]
      rw [this, Int.mul_ediv_mul_of_pos_left _ _ hp, ← cast, floor_neg m (2 ^ d) hq]
      rw [Int.neg_mul, Int.one_mul]
      congr 2
      by_cases hz : m % 2 ^ d = 0
      · simp [hz]
      · simp [hz]

theorem toInt_zero {x : Nat} (h : Fin64 x) : (FloatKind.f64.decode x).toInt .zero = some ((sv x).tdiv KK) := by
  obtain ⟨s, m, i, e, _, hL, hU, _⟩ := read_fin h
  have hd : FloatKind.f64.decode x = .number s m i := e
  rw [leastPlace_eq] at hL
  unfold Datum.toInt
  rw [hd]
  simp only [Datum.integral]
  congr 1
  rw [sv_eq e, signed_eq]
  rcases Int.le_total 0 i with hi | hi
  · have e1 : (-i).toNat = 0 := by omega
    rw [e1, cut_zero, Nat.shiftLeft_eq]
    have e2 : (i + 1074).toNat = i.toNat + 1074 := by omega
    rw [e2, Int.pow_add]
    have e3 : (2 : Int) ^ 1074 = KK := rfl
    rw [e3]
    simp only [← Int.mul_assoc]
    rw [Int.mul_tdiv_cancel _ (Int.ne_of_gt KK_pos)]
    simp [Int.natCast_mul, Int.natCast_pow, Int.mul_assoc]
  · obtain ⟨d, hdi⟩ : ∃ d : Nat, i = -(d : Int) := ⟨(-i).toNat, by omega⟩
    subst hdi
    have hd2 : d ≤ 1074 := by omega
    have e1 : (-(-(d : Int))).toNat = d := by omega
    have e2 : (-(d : Int)).toNat = 0 := by omega
    have e3 : (-(d : Int) + 1074).toNat = 1074 - d := by omega
    rw [e1, e2, e3, Nat.shiftLeft_zero, cut_zero_way, KK_split hd2]
    have hp : (0 : Int) < 2 ^ (1074 - d) := pow_pos_int _
    have cast : ((2 ^ d : Nat) : Int) = 2 ^ d := by simp
    have key : ((m : Int) * 2 ^ (1074 - d)).tdiv (2 ^ d * 2 ^ (1074 - d)) = ((m / 2 ^ d : Nat) : Int) := by
      rw [Int.mul_tdiv_mul_of_pos_left _ _ hp, ← cast]
      rfl
    cases s
    · simp only [Bool.false_eq_true, if_false, Int.one_mul, Int.pow_zero, Int.mul_one, key]
    · simp only [if_true, Int.neg_mul, Int.one_mul, Int.neg_tdiv, Int.pow_zero, Int.mul_one, key]

theorem not_nan {x : Nat} (h : Fin64 x) : ∀ s t, FloatKind.f64.decode x ≠ .nan s t := fun s t e => by
  obtain ⟨a, m, i, e', _⟩ := read_fin h
  have : FloatKind.f64.decode x = .number a m i := e'
  rw [this] at e; cases e

/-- A float made whole is the float of that whole number, but for the sign of a nought. -/
theorem integral_fin {x : Nat} (h : Fin64 x) (way : Toward) {n : Int} (hn : (FloatKind.f64.decode x).toInt way = some n) (h1 : -(2 ^ 53) < n) (h2 : n < 2 ^ 53) :
    Fin64 (FloatKind.f64.encode ((FloatKind.f64.decode x).integral way)) ∧ sv (FloatKind.f64.encode ((FloatKind.f64.decode x).integral way)) = n * KK := by
  obtain ⟨s, m, i, e, _⟩ := read_fin h
  have hd : FloatKind.f64.decode x = .number s m i := e
  rw [hd] at hn ⊢
  simp only [Datum.toInt, Datum.integral, Option.some.injEq] at hn ⊢
  generalize way.cut s (m <<< i.toNat) (-i).toNat = c at hn
  rw [signed_eq, Int.pow_zero, Int.mul_one] at hn
  have hw : FloatKind.f64.encode (.number s c 0) = double.nearest s c 0 := rfl
  rw [hw]
  by_cases h0 : c = 0
  · subst h0
    have hn0 : n = 0 := by rw [← hn]; simp
    subst hn0
    have e0 : ∃ p, double.read (double.nearest s 0 0) = .number s 0 p := by cases s <;> exact ⟨double.leastPlace, by decide +kernel⟩
    obtain ⟨p, e0⟩ := e0
    refine ⟨fin_of_read e0, ?_⟩
    unfold sv
    rw [e0]
    simp [signed_eq]
  · have hc : c < 2 ^ 53 := by
      cases s <;> simp at hn <;> omega
    have hr := nearest_small (neg := s) h0 hc
    refine ⟨fin_of_read hr, ?_⟩
    unfold sv
    rw [hr]
    simp only [signed_eq, leastPlace_eq]
    have hd52 : 52 - c.log2 ≤ 52 := by omega
    generalize 52 - c.log2 = d at hd52
    have e1 : (-(d : Int) - -1074).toNat = 1074 - d := by omega
    rw [e1, Int.natCast_mul, Int.natCast_pow, Int.mul_assoc]
    have e2 : ((2 : Nat) : Int) ^ d * 2 ^ (1074 - d) = KK := by
      show (2 : Int) ^ d * 2 ^ (1074 - d) = 2 ^ 1074
      rw [← Int.pow_add, show d + (1074 - d) = 1074 by omega]
    rw [e2, ← Int.mul_assoc, hn]

/-- The float without its sign. -/
theorem abs_read {x : Nat} {s : Bool} {m : Nat} {i : Int} (e : double.read x = .number s m i) : double.read (x % 2 ^ 63) = .number false m i := by
  have hw : double.signWeight = 2 ^ 63 := rfl
  unfold Format.read at e ⊢
  simp only [hw] at e ⊢
  have e1 : x % 2 ^ 63 % 2 ^ 63 = x % 2 ^ 63 := Nat.mod_mod _ _
  have e2 : (x % 2 ^ 63 / 2 ^ 63 % 2 == 1) = false := by
    have : x % 2 ^ 63 / 2 ^ 63 = 0 := Nat.div_eq_of_lt (Nat.mod_lt _ (by decide))
    simp [this]
  rw [e1, e2]
  split at e
  · rename_i hb
    rw [if_pos hb]
    cases e; rfl
  · rename_i hb
    rw [if_neg hb]
    split at e
    · rename_i hi
      rw [if_pos hi]
      cases e; rfl
    · split at e <;> cases e

theorem abs_fin {x : Nat} (h : Fin64 x) : Fin64 (x % 2 ^ 63) ∧ sv (x % 2 ^ 63) = if sv x < 0 then - sv x else sv x := by
  obtain ⟨s, m, i, e, _⟩ := read_fin h
  have ha := abs_read e
  refine ⟨fin_of_read ha, ?_⟩
  rw [sv_eq e, sv_eq ha]
  have hnn : (0 : Int) ≤ (m : Int) * 2 ^ (i + 1074).toNat := Int.mul_nonneg (by omega) (Int.le_of_lt (pow_pos_int _))
  generalize (m : Int) * 2 ^ (i + 1074).toNat = q at hnn
  cases s <;> simp <;> omega
end Go.Ev

namespace Go.Ev
open Ieee

theorem signW : double.signWeight = 2 ^ 63 := rfl
theorem rung_num : double.infRung = 9218868437227405312 := rfl

theorem inf_read {x : Nat} (h : x % double.signWeight = double.infRung) : ∃ s, double.read x = .infinity s := by
  unfold Format.read
  simp only [h]
  exact ⟨_, rfl⟩

theorem order_inf_self {x : Nat} (h : x % double.signWeight = double.infRung) : double.order x x = some .eq := by
  obtain ⟨s, e⟩ := inf_read h
  unfold Format.order
  rw [e]
  cases s <;> rfl

theorem cmp_neq_self {x : Nat} {b : Bool} (h : fcmpV .neq .f64 x x = some (.bool b)) : b = true ↔ Nan64 x := by
  have h : (double.order x x != some .eq) = b := by
    simp only [fcmpV, Option.some.injEq, Value.bool.injEq] at h
    exact h
  rcases three x with c | c | c
  · rw [order_self c] at h
    subst h
    constructor
    · intro k; cases k
    · intro k; unfold Nan64 at k; unfold Fin64 at c; omega
  · rw [order_inf_self c] at h
    subst h
    constructor
    · intro k; cases k
    · intro k; unfold Nan64 at k; omega
  · rw [(order_nan c x).1] at h
    subst h
    exact ⟨fun _ => c, fun _ => rfl⟩

theorem abs_inf : double.order 9218868437227405312 9218868437227405311 = some .gt := by decide

theorem cmp_abs_max {x : Nat} {b : Bool} (h : fcmpV .gtr .f64 (x % 2 ^ 63) 9218868437227405311 = some (.bool b)) (hn : ¬ Nan64 x) : b = false ↔ Fin64 x := by
  have h : (double.order (x % 2 ^ 63) 9218868437227405311 == some .gt) = b := by
    simp only [fcmpV, Option.some.injEq, Value.bool.injEq] at h
    exact h
  rcases three x with c | c | c
  · have := (order_max (abs_fin c).1).1
    refine ⟨fun _ => c, fun _ => ?_⟩
    subst h
    simpa using this
  · have e : x % 2 ^ 63 = 9218868437227405312 := c
    rw [e, abs_inf] at h
    subst h
    constructor
    · intro k; cases k
    · intro k; unfold Fin64 at k; omega
  · exact (hn c).elim

theorem and_top (b : Nat) : (BitVec.ofInt 64 (b : Int) &&& ~~~BitVec.ofInt 64 9223372036854775808).toNat = b % 2 ^ 63 := by
  have e1 : ~~~BitVec.ofInt 64 9223372036854775808 = BitVec.ofNat 64 (2 ^ 63 - 1) := by decide
  have k : (BitVec.ofInt 64 (b : Int)) = BitVec.ofNat 64 b := BitVec.ofInt_ofNat 64 b
  rw [e1, k, BitVec.toNat_and, BitVec.toNat_ofNat, BitVec.toNat_ofNat, Nat.mod_eq_of_lt (a := 2 ^ 63 - 1) (by decide), Nat.and_two_pow_sub_one_eq_mod]
  omega
theorem andNot_top {b : Nat} {r : Int} (h : ibin .andNot .u64 (b : Int) 9223372036854775808 = some (.int .u64 r)) : r = ((b % 2 ^ 63 : Nat) : Int) := by
  simp only [ibin, Option.some.injEq, Value.int.injEq, true_and] at h
  subst h
  have e2 : (BitVec.ofInt IntKind.u64.bits (b : Int) &&& ~~~BitVec.ofInt IntKind.u64.bits 9223372036854775808).toNat = b % 2 ^ 63 := and_top b
  rw [e2, IntKind.wrap_u64]
  omega

theorem fbits_iv {a r : Value} (ha : a = .float .f64 (fv a)) (h : extRel .fbits [a] r) : iv r = (fv a : Nat) := by
  rw [ha] at h
  have h : r = .int .u64 (fv a : Nat) := h
  rw [h]; rfl
theorem ffrom_fv {a r : Value} (ha : a = .int .u64 (iv a)) (h : extRel .ffrom [a] r) : fv r = (iv a).toNat := by
  rw [ha] at h
  have h : r = .float .f64 (iv a).toNat := h
  rw [h]; rfl
/-- The absolute value. -/
theorem abs_of {x a b r : Value} (hx : x = .float .f64 (fv x)) (h1 : extRel .fbits [x] a) (h2 : ibin .andNot IntKind.u64 (iv a) 9223372036854775808 = some (.int IntKind.u64 (iv b))) (hb : b = .int .u64 (iv b)) (h3 : extRel .ffrom [b] r) : fv r = fv x % 2 ^ 63 := by
  have e1 := fbits_iv hx h1
  rw [e1] at h2
  have e2 := andNot_top h2
  have e3 := ffrom_fv hb h3
  rw [e3, e2]
  rfl

theorem floor_fv {x r : Value} (hx : x = .float .f64 (fv x)) (h : extRel .floor [x] r) (hf : Fin64 (fv x)) (h1 : -(2 ^ 53) < flr (fv x)) (h2 : flr (fv x) < 2 ^ 53) : Fin64 (fv r) ∧ sv (fv r) = flr (fv x) * KK := by
  rw [hx] at h
  obtain ⟨b, rfl, hb⟩ : ∃ b, r = .float .f64 b ∧ _ := h
  have hb := hb (not_nan hf)
  have k := integral_fin hf .down (toInt_down hf) h1 h2
  rw [← hb] at k
  exact k

theorem f2i_iv {y : Nat} {r n : Int} (h : (∃ n, (FloatKind.f64.decode y).toInt .zero = some n ∧ IntKind.i64.min ≤ n ∧ n ≤ IntKind.i64.max ∧ r = n) ∨ (∀ n, (FloatKind.f64.decode y).toInt .zero = some n → ¬ (IntKind.i64.min ≤ n ∧ n ≤ IntKind.i64.max)))
    (hf : Fin64 y) (e : (sv y).tdiv KK = n) (h1 : -(2 ^ 62) ≤ n) (h2 : n ≤ 2 ^ 62) : r = n := by
  have k := toInt_zero hf
  rw [e] at k
  have m1 : IntKind.i64.min = -(2 ^ 63) := rfl
  have m2 : IntKind.i64.max = 2 ^ 63 - 1 := rfl
  rcases h with ⟨m, a1, _, _, rfl⟩ | h
  · rw [k] at a1; exact (Option.some.inj a1).symm
  · exact absurd ⟨by rw [m1]; omega, by rw [m2]; omega⟩ (h n k)

theorem tdiv_KK (n : Int) : (n * KK).tdiv KK = n := Int.mul_tdiv_cancel n (by have := KK_pos; omega)

/-- The float of a whole number, by its bits. -/
theorem num_bits {n : Int} {b : Nat} (h1 : -(2 ^ 53) ≤ n) (h2 : n ≤ 2 ^ 53) (e : FloatKind.f64.nearest n = b) : Fin64 b ∧ sv b = n * KK := by
  rw [← e]; exact nearest_int h1 h2

theorem le_flr {n : Int} {x : Nat} : n ≤ flr x ↔ n * KK ≤ sv x := Int.le_ediv_iff_mul_le KK_pos
theorem flr_lt {n : Int} {x : Nat} : flr x < n ↔ sv x < n * KK := Int.ediv_lt_iff_lt_mul KK_pos

theorem flr_of {x : Nat} {n : Int} (h : sv x = n * KK) : flr x = n := by
  have a : n ≤ flr x := le_flr.2 (by omega)
  have b : flr x < n + 1 := flr_lt.2 (by rw [Int.add_mul]; have := KK_pos; omega)
  omega

theorem cmp_lt {a b : Int} : compare a b = .lt ↔ a < b := Int.compare_eq_lt
theorem cmp_gt {a b : Int} : compare a b = .gt ↔ b < a := Int.compare_eq_gt
end Go.Ev

namespace Go.Ev
open Ieee

/-- The even cut, between two whole numbers. -/
theorem cut_even (neg : Bool) (n d : Nat) : n / 2 ^ d ≤ Toward.even.cut neg n d ∧ Toward.even.cut neg n d ≤ n / 2 ^ d + 1 ∧ (n % 2 ^ d = 0 → Toward.even.cut neg n d = n / 2 ^ d) := by
  obtain ⟨h1, h2⟩ := pow_min_div n d
  unfold Toward.cut
  simp only [h1]
  refine ⟨Nat.le_add_right _ _, Nat.add_le_add_left (Bool.toNat_le _) _, fun h => ?_⟩
  have hz := h2.2 h
  rw [hz]
  have hg : 0 < 1 <<< min d (n.log2 + 2) := by rw [Nat.one_shiftLeft]; exact Nat.two_pow_pos _
  have e1 : decide (1 <<< min d (n.log2 + 2) < 2 * 0) = false := decide_eq_false (by omega)
  have e2 : (1 <<< min d (n.log2 + 2) == 2 * 0) = false := by rw [beq_eq_false_iff_ne]; omega
  rw [e1, e2]
  simp

theorem cut_le {neg : Bool} {n d X : Nat} (h : n ≤ X * 2 ^ d) : Toward.even.cut neg n d ≤ X := by
  obtain ⟨_, h2, h3⟩ := cut_even neg n d
  have hp := Nat.two_pow_pos d
  by_cases e : n % 2 ^ d = 0
  · rw [h3 e]; exact Nat.div_le_of_le_mul (by rw [Nat.mul_comm]; exact h)
  · have : n / 2 ^ d < X := by
      rw [Nat.div_lt_iff_lt_mul hp]
      rcases Nat.lt_or_ge n (X * 2 ^ d) with c | c
      · exact c
      · have : n = X * 2 ^ d := Nat.le_antisymm h c
        rw [this, Nat.mul_mod_left] at e
        exact (e rfl).elim
    omega
theorem le_cut {neg : Bool} {n d X : Nat} (h : X * 2 ^ d ≤ n) : X ≤ Toward.even.cut neg n d :=
  Nat.le_trans ((Nat.le_div_iff_mul_le (Nat.two_pow_pos d)).2 h) (cut_even neg n d).1

/-- The rung that a number is rounded to; its place counted from -2148. -/
def rungN (neg : Bool) (mag P : Nat) : Nat :=
  (max (P + mag.log2 - 52) 1074 - 1074) * 2 ^ 52 + Toward.even.cut neg (mag <<< (P - max (P + mag.log2 - 52) 1074)) (max (P + mag.log2 - 52) 1074 - P)

theorem nearest_rung {neg : Bool} {mag : Nat} {place : Int} (h0 : mag ≠ 0) (hp : -2148 ≤ place) :
    double.nearest neg mag place = double.word neg (min (rungN neg mag (place + 2148).toNat) double.infRung) := by
  obtain ⟨P, hP⟩ : ∃ P : Nat, place = (P : Int) - 2148 := ⟨(place + 2148).toNat, by omega⟩
  subst hP
  have hl : max ((P : Int) - 2148 + mag.log2 - double.fractionBits) double.leastPlace = ((max (P + mag.log2 - 52) 1074 : Nat) : Int) - 2148 := by
    rw [leastPlace_eq, show double.fractionBits = 52 from rfl]
    omega
  unfold Format.nearest
  rw [if_neg h0]
  simp only [hl]
  have e0 : ((P : Int) - 2148 + 2148).toNat = P := by omega
  have e1 : ((P : Int) - 2148 - (((max (P + mag.log2 - 52) 1074 : Nat) : Int) - 2148)).toNat = P - max (P + mag.log2 - 52) 1074 := by omega
  have e2 : (((max (P + mag.log2 - 52) 1074 : Nat) : Int) - 2148 - ((P : Int) - 2148)).toNat = max (P + mag.log2 - 52) 1074 - P := by omega
  have e3 : (((max (P + mag.log2 - 52) 1074 : Nat) : Int) - 2148 - double.leastPlace).toNat = max (P + mag.log2 - 52) 1074 - 1074 := by rw [leastPlace_eq]; omega
  rw [e0, e1, e2, e3, binade_eq]
  rfl

theorem shift_drop (mag P l : Nat) : (mag <<< (P - l)) * 2 ^ l = mag * 2 ^ P * 2 ^ (l - P) := by
  rw [Nat.shiftLeft_eq]
  rcases Nat.le_total l P with h | h
  · rw [show l - P = 0 by omega, Nat.pow_zero, Nat.mul_one, Nat.mul_assoc, ← Nat.pow_add, show P - l + l = P by omega]
  · rw [show P - l = 0 by omega, Nat.pow_zero, Nat.mul_one, Nat.mul_assoc, ← Nat.pow_add, show P + (l - P) = l by omega]

theorem mul_pow_le {a b k : Nat} (h : a * 2 ^ k ≤ b * 2 ^ k) : a ≤ b := Nat.le_of_mul_le_mul_right h (Nat.two_pow_pos k)
theorem pow_le_pow' {a b : Nat} (h : a ≤ b) : 2 ^ a ≤ 2 ^ b := Nat.pow_le_pow_right (by decide) h

theorem rung_up {neg : Bool} {mag P m Q : Nat} (h0 : mag ≠ 0) (hm1 : 2 ^ 52 ≤ m) (hm2 : m < 2 ^ 53) (hQ : 1074 ≤ Q) (h : mag * 2 ^ P ≤ m * 2 ^ Q) : rungN neg mag P ≤ (Q - 1074) * 2 ^ 52 + m := by
  have hself := Nat.log2_self_le h0
  have hlt := Nat.lt_log2_self (n := mag)
  unfold rungN
  generalize hL : mag.log2 = L at *
  generalize hl : max (P + L - 52) 1074 = l
  have hn := shift_drop mag P l
  generalize mag <<< (P - l) = n at hn
  generalize l - P = d at hn
  rcases Nat.lt_trichotomy l Q with c | c | c
  · have k : Toward.even.cut neg n d ≤ 2 ^ 53 := by
      refine cut_le (mul_pow_le (k := l) ?_)
      rw [hn, Nat.mul_right_comm (2 ^ 53)]
      refine Nat.mul_le_mul_right _ ?_
      have a : mag * 2 ^ P ≤ 2 ^ (L + 1) * 2 ^ P := Nat.mul_le_mul_right _ (Nat.le_of_lt hlt)
      rw [← Nat.pow_add] at a
      rw [← Nat.pow_add]
      exact Nat.le_trans a (pow_le_pow' (by omega))
    omega
  · subst c
    have k : Toward.even.cut neg n d ≤ m := by
      refine cut_le (mul_pow_le (k := l) ?_)
      rw [hn, Nat.mul_right_comm m]
      exact Nat.mul_le_mul_right _ h
    omega
  · exfalso
    have a : 2 ^ L * 2 ^ P ≤ mag * 2 ^ P := Nat.mul_le_mul_right _ hself
    have b : m * 2 ^ Q < 2 ^ 53 * 2 ^ Q := Nat.mul_lt_mul_of_pos_right hm2 (Nat.two_pow_pos Q)
    rw [← Nat.pow_add] at a b
    have e : 2 ^ (53 + Q) ≤ 2 ^ (L + P) := pow_le_pow' (by omega)
    omega

theorem rung_down {neg : Bool} {mag P m Q : Nat} (h0 : mag ≠ 0) (hm1 : 2 ^ 52 ≤ m) (hm2 : m < 2 ^ 53) (hQ : 1074 ≤ Q) (h : m * 2 ^ Q ≤ mag * 2 ^ P) : (Q - 1074) * 2 ^ 52 + m ≤ rungN neg mag P := by
  have hself := Nat.log2_self_le h0
  have hlt := Nat.lt_log2_self (n := mag)
  unfold rungN
  generalize hL : mag.log2 = L at *
  have q : Q ≤ P + L - 52 := by
    have a : mag * 2 ^ P < 2 ^ (L + 1) * 2 ^ P := Nat.mul_lt_mul_of_pos_right hlt (Nat.two_pow_pos P)
    have b : 2 ^ 52 * 2 ^ Q ≤ m * 2 ^ Q := Nat.mul_le_mul_right _ hm1
    rw [← Nat.pow_add] at a b
    have e : 2 ^ (52 + Q) < 2 ^ (L + 1 + P) := by omega
    have := (Nat.pow_lt_pow_iff_right (a := 2) (by decide)).1 e
    omega
  generalize hl : max (P + L - 52) 1074 = l
  have hn := shift_drop mag P l
  generalize mag <<< (P - l) = n at hn
  generalize l - P = d at hn
  rcases Nat.lt_or_eq_of_le (show Q ≤ l by omega) with c | c
  · have k : 2 ^ 52 ≤ Toward.even.cut neg n d := by
      refine le_cut (mul_pow_le (k := l) ?_)
      rw [hn, Nat.mul_right_comm]
      refine Nat.mul_le_mul_right _ ?_
      have a : 2 ^ L * 2 ^ P ≤ mag * 2 ^ P := Nat.mul_le_mul_right _ hself
      rw [← Nat.pow_add] at a
      rw [← Nat.pow_add]
      exact Nat.le_trans (pow_le_pow' (by omega)) a
    omega
  · subst c
    have k : m ≤ Toward.even.cut neg n d := by
      refine le_cut (mul_pow_le (k := Q) ?_)
      rw [hn, Nat.mul_right_comm]
      exact Nat.mul_le_mul_right _ h
    omega

/-! ### What a rung is worth -/
def rv (r : Nat) : Nat := if r < 2 ^ 52 then r else (2 ^ 52 + r % 2 ^ 52) * 2 ^ (r / 2 ^ 52 - 1)

theorem word_sv {neg : Bool} {r : Nat} (hr : r < double.infRung) : Fin64 (double.word neg r) ∧ sv (double.word neg r) = (if neg then -1 else 1) * (rv r : Int) := by
  have k := read_word (neg := neg) hr
  rw [binade_eq] at k
  by_cases c : r < 2 ^ 52
  · rw [if_pos c] at k
    refine ⟨fin_of_read k, ?_⟩
    rw [sv_eq k, leastPlace_eq]
    unfold rv
    rw [if_pos c]
    simp
  · rw [if_neg c] at k
    refine ⟨fin_of_read k, ?_⟩
    rw [sv_eq k, leastPlace_eq]
    unfold rv
    rw [if_neg c]
    have : ((-1074 : Int) + ((r / 2 ^ 52 - 1 : Nat) : Int) + 1074).toNat = r / 2 ^ 52 - 1 := by omega
    rw [this, Int.natCast_mul, Int.natCast_pow]
    rfl

theorem rv_mono {a b : Nat} (h : a ≤ b) : rv a ≤ rv b := by
  unfold rv
  have ha := Nat.mod_lt a (show 0 < 2 ^ 52 by decide)
  split
  · rename_i c
    split
    · exact h
    · have : 2 ^ 52 ≤ (2 ^ 52 + b % 2 ^ 52) * 2 ^ (b / 2 ^ 52 - 1) := Nat.le_trans (Nat.le_add_right _ _) (Nat.le_mul_of_pos_right _ (Nat.two_pow_pos _))
      omega
  · rename_i c
    rw [if_neg (by omega)]
    rcases Nat.lt_or_eq_of_le (Nat.div_le_div_right (c := 2 ^ 52) h) with e | e
    · have k1 : (2 ^ 52 + a % 2 ^ 52) * 2 ^ (a / 2 ^ 52 - 1) ≤ 2 ^ 53 * 2 ^ (a / 2 ^ 52 - 1) := Nat.mul_le_mul_right _ (by omega)
      have k2 : 2 ^ 52 * 2 ^ (b / 2 ^ 52 - 1) ≤ (2 ^ 52 + b % 2 ^ 52) * 2 ^ (b / 2 ^ 52 - 1) := Nat.mul_le_mul_right _ (by omega)
      rw [← Nat.pow_add] at k1 k2
      have : 1 ≤ a / 2 ^ 52 := by omega
      exact Nat.le_trans k1 (Nat.le_trans (pow_le_pow' (by omega)) k2)
    · rw [e]
      exact Nat.mul_le_mul_right _ (by omega)

theorem rv_norm {m q : Nat} (hm1 : 2 ^ 52 ≤ m) (hm2 : m < 2 ^ 53) : rv (q * 2 ^ 52 + m) = m * 2 ^ q := by
  unfold rv
  rw [if_neg (by omega)]
  have e1 : (q * 2 ^ 52 + m) % 2 ^ 52 = m - 2 ^ 52 := by omega
  have e2 : (q * 2 ^ 52 + m) / 2 ^ 52 = q + 1 := by omega
  rw [e1, e2, show 2 ^ 52 + (m - 2 ^ 52) = m by omega, Nat.add_sub_cancel]

/-- A number not above a float: what it is rounded to is not. 'm', 'q': the float is 'm * 2 ^ q', in the least units. -/
theorem round_up {neg : Bool} {mag : Nat} {place : Int} {m q : Nat} (h0 : mag ≠ 0) (hp : -2148 ≤ place) (hm1 : 2 ^ 52 ≤ m) (hm2 : m < 2 ^ 53) (hq : q < 2046) (h : mag * 2 ^ (place + 2148).toNat ≤ m * 2 ^ (q + 1074)) :
    ∃ a : Nat, Fin64 (double.nearest neg mag place) ∧ sv (double.nearest neg mag place) = (if neg then -1 else 1) * (a : Int) ∧ a ≤ m * 2 ^ q := by
  have k := rung_up (neg := neg) h0 hm1 hm2 (Nat.le_add_left 1074 q) h
  rw [Nat.add_sub_cancel] at k
  have hr : rungN neg mag (place + 2148).toNat < double.infRung := by rw [infRung_eq]; omega
  rw [nearest_rung h0 hp, Nat.min_eq_left (Nat.le_of_lt hr)]
  obtain ⟨h1, h2⟩ := word_sv (neg := neg) hr
  refine ⟨_, h1, h2, ?_⟩
  have := rv_mono k
  rwa [rv_norm hm1 hm2] at this

/-- A number not below a float: what it is rounded to is not, or it is infinite. -/
theorem round_down {neg : Bool} {mag : Nat} {place : Int} {m q : Nat} (h0 : mag ≠ 0) (hp : -2148 ≤ place) (hm1 : 2 ^ 52 ≤ m) (hm2 : m < 2 ^ 53) (h : m * 2 ^ (q + 1074) ≤ mag * 2 ^ (place + 2148).toNat) :
    (∃ a : Nat, Fin64 (double.nearest neg mag place) ∧ sv (double.nearest neg mag place) = (if neg then -1 else 1) * (a : Int) ∧ m * 2 ^ q ≤ a) ∨ double.nearest neg mag place = double.word neg double.infRung := by
  have k := rung_down (neg := neg) h0 hm1 hm2 (Nat.le_add_left 1074 q) h
  rw [Nat.add_sub_cancel] at k
  rw [nearest_rung h0 hp]
  rcases Nat.lt_or_ge (rungN neg mag (place + 2148).toNat) double.infRung with hr | hr
  · left
    rw [Nat.min_eq_left (Nat.le_of_lt hr)]
    obtain ⟨h1, h2⟩ := word_sv (neg := neg) hr
    refine ⟨_, h1, h2, ?_⟩
    have := rv_mono k
    rwa [rv_norm hm1 hm2] at this
  · right
    rw [Nat.min_eq_right hr]
end Go.Ev

namespace Go.Ev
open Ieee

theorem word_zero (neg : Bool) : Fin64 (double.word neg 0) ∧ sv (double.word neg 0) = 0 := by
  obtain ⟨h1, h2⟩ := word_sv (neg := neg) (r := 0) (by decide)
  refine ⟨h1, ?_⟩
  rw [h2]
  have : rv 0 = 0 := by decide
  rw [this]
  cases neg <;> rfl

theorem nearest_zero (neg : Bool) (place : Int) : double.nearest neg 0 place = double.word neg 0 := by
  unfold Format.nearest; rw [if_pos rfl]

/-- A float, as its sign, its digits and its place. -/
theorem fin_parts {x : Nat} (h : Fin64 x) : ∃ s m i, double.read x = .number s m i ∧ (-1074 : Int) ≤ i ∧ sv x = signed s m (i + 1074).toNat := by
  obtain ⟨s, m, i, e, _, h2, _⟩ := read_fin h
  rw [leastPlace_eq] at h2
  exact ⟨s, m, i, e, h2, by rw [sv_eq e, signed_eq]⟩

theorem signed_neg (s : Bool) (m k : Nat) : signed (!s) m k = - signed s m k := by
  rw [signed_eq, signed_eq]; cases s <;> simp

theorem sum_round {s t : Bool} {m n : Nat} {i j : Int} (hi : -1074 ≤ i) (hj : -1074 ≤ j) {S : Int} (hS : S = signed s m (i + 1074).toNat + signed t n (j + 1074).toNat) :
    ∃ neg mag place, (Datum.number s m i).sum (.number t n j) = some (.number neg mag place) ∧ (-1074 : Int) ≤ place ∧ mag * 2 ^ (place + 1074).toNat = S.natAbs ∧ (S ≠ 0 → neg = decide (S < 0)) := by
  have e1 : (i + 1074).toNat = (i - min i j).toNat + (min i j + 1074).toNat := by omega
  have e2 : (j + 1074).toNat = (j - min i j).toNat + (min i j + 1074).toNat := by omega
  rw [e1, e2, signed_mul, signed_mul, ← Int.add_mul] at hS
  refine ⟨_, _, _, rfl, by omega, ?_, ?_⟩
  · rw [hS, Int.natAbs_mul, Int.natAbs_pow]; rfl
  · intro h0
    have hp := pow_pos_int (min i j + 1074).toNat
    rw [hS] at h0 ⊢
    generalize signed s m (i - min i j).toNat + signed t n (j - min i j).toNat = T at *
    have hT : T ≠ 0 := fun h => h0 (by rw [h, Int.zero_mul])
    simp only [if_neg hT]
    rcases Int.lt_trichotomy T 0 with c | c | c
    · have : T * 2 ^ (min i j + 1074).toNat < 0 := Int.mul_neg_of_neg_of_pos c hp
      simp [c, this]
    · exact (hT c).elim
    · have : 0 < T * 2 ^ (min i j + 1074).toNat := Int.mul_pos c hp
      rw [decide_eq_false (by omega), decide_eq_false (by omega)]

/-- The sum, before it is rounded. -/
theorem add_data {x y : Nat} (hx : Fin64 x) (hy : Fin64 y) : ∃ neg mag place, double.add x y = some (double.nearest neg mag place) ∧ (-1074 : Int) ≤ place ∧ mag * 2 ^ (place + 1074).toNat = (sv x + sv y).natAbs ∧ (sv x + sv y ≠ 0 → neg = decide (sv x + sv y < 0)) := by
  obtain ⟨s, m, i, e1, h1, k1⟩ := fin_parts hx
  obtain ⟨t, n, j, e2, h2, k2⟩ := fin_parts hy
  obtain ⟨neg, mag, place, h, r⟩ := sum_round (s := s) (t := t) (m := m) (n := n) h1 h2 (S := sv x + sv y) (by rw [k1, k2])
  refine ⟨neg, mag, place, ?_, r⟩
  unfold Format.add
  rw [e1, e2, h]
  rfl
theorem sub_data {x y : Nat} (hx : Fin64 x) (hy : Fin64 y) : ∃ neg mag place, double.sub x y = some (double.nearest neg mag place) ∧ (-1074 : Int) ≤ place ∧ mag * 2 ^ (place + 1074).toNat = (sv x - sv y).natAbs ∧ (sv x - sv y ≠ 0 → neg = decide (sv x - sv y < 0)) := by
  obtain ⟨s, m, i, e1, h1, k1⟩ := fin_parts hx
  obtain ⟨t, n, j, e2, h2, k2⟩ := fin_parts hy
  obtain ⟨neg, mag, place, h, r⟩ := sum_round (s := s) (t := !t) (m := m) (n := n) h1 h2 (S := sv x - sv y) (by rw [k1, k2, signed_neg]; omega)
  refine ⟨neg, mag, place, ?_, r⟩
  unfold Format.sub
  rw [e1, e2]
  show ((Datum.number s m i).sum (.number (!t) n j)).map double.write = _
  rw [h]
  rfl
theorem signed_abs (s : Bool) (m k : Nat) : (signed s m k).natAbs = m * 2 ^ k := by
  rw [signed_eq, Int.natAbs_mul, Int.natAbs_mul, Int.natAbs_pow]
  cases s <;> simp
/-- The product, before it is rounded. -/
theorem mul_data {x y : Nat} (hx : Fin64 x) (hy : Fin64 y) : ∃ neg mag place, double.mul x y = some (double.nearest neg mag place) ∧ (-2148 : Int) ≤ place ∧ mag * 2 ^ (place + 2148).toNat = (sv x * sv y).natAbs ∧ (sv x * sv y ≠ 0 → neg = decide (sv x * sv y < 0)) := by
  obtain ⟨s, m, i, e1, h1, k1⟩ := fin_parts hx
  obtain ⟨t, n, j, e2, h2, k2⟩ := fin_parts hy
  refine ⟨s ^^ t, m * n, i + j, ?_, by omega, ?_, ?_⟩
  · unfold Format.mul
    rw [e1, e2]
    rfl
  · rw [Int.natAbs_mul, k1, k2, signed_abs, signed_abs, show (i + j + 2148).toNat = (i + 1074).toNat + (j + 1074).toNat by omega, Nat.pow_add]
    simp only [Nat.mul_assoc, Nat.mul_left_comm]
  · intro h0
    rw [k1, k2, signed_eq, signed_eq] at h0 ⊢
    generalize ha : (m : Int) * 2 ^ (i + 1074).toNat = a at *
    generalize hb : (n : Int) * 2 ^ (j + 1074).toNat = b at *
    have a0 : 0 ≤ a := by rw [← ha]; exact Int.mul_nonneg (by omega) (Int.le_of_lt (pow_pos_int _))
    have b0 : 0 ≤ b := by rw [← hb]; exact Int.mul_nonneg (by omega) (Int.le_of_lt (pow_pos_int _))
    have p0 : 0 ≤ a * b := Int.mul_nonneg a0 b0
    cases s <;> cases t <;> simp only [Bool.xor_false, Bool.xor_true, Bool.not_true, Bool.not_false, if_true, if_false, Bool.false_eq_true, Int.one_mul, Int.neg_mul, Int.mul_neg, Int.neg_neg] at h0 ⊢
    · exact (decide_eq_false (by omega)).symm
    · exact (decide_eq_true (by omega)).symm
    · exact (decide_eq_true (by omega)).symm
    · exact (decide_eq_false (by omega)).symm

/-! ### Rounded, by its value -/
section
variable {neg : Bool} {mag : Nat} {place : Int} {V : Int}
theorem up_of {m q : Nat} (hp : -2148 ≤ place) (hv : mag * 2 ^ (place + 2148).toNat = V.natAbs) (hm1 : 2 ^ 52 ≤ m) (hm2 : m < 2 ^ 53) (hq : q < 2046) (h : V.natAbs ≤ m * 2 ^ (q + 1074)) :
    Fin64 (double.nearest neg mag place) ∧ (sv (double.nearest neg mag place)).natAbs ≤ m * 2 ^ q := by
  by_cases h0 : mag = 0
  · subst h0
    rw [nearest_zero]
    obtain ⟨k1, k2⟩ := word_zero neg
    rw [k2]
    exact ⟨k1, Nat.zero_le _⟩
  · obtain ⟨a, k1, k2, k3⟩ := round_up (neg := neg) h0 hp hm1 hm2 hq (by rw [hv]; exact h)
    refine ⟨k1, ?_⟩
    rw [k2]
    cases neg <;> simp <;> exact k3
theorem down_of {m q : Nat} (hp : -2148 ≤ place) (hv : mag * 2 ^ (place + 2148).toNat = V.natAbs) (hneg : V ≠ 0 → neg = decide (V < 0)) (hm1 : 2 ^ 52 ≤ m) (hm2 : m < 2 ^ 53) (h : m * 2 ^ (q + 1074) ≤ V.natAbs) :
    (Fin64 (double.nearest neg mag place) ∧ ((0 < V ∧ ((m * 2 ^ q : Nat) : Int) ≤ sv (double.nearest neg mag place)) ∨ (V < 0 ∧ sv (double.nearest neg mag place) ≤ -((m * 2 ^ q : Nat) : Int)))) ∨ double.nearest neg mag place = double.word (decide (V < 0)) double.infRung := by
  have mp : 0 < m * 2 ^ (q + 1074) := Nat.mul_pos (Nat.lt_of_lt_of_le (by decide) hm1) (Nat.two_pow_pos _)
  have v0 : V ≠ 0 := by omega
  have hn := hneg v0
  have h0 : mag ≠ 0 := fun e => by rw [e, Nat.zero_mul] at hv; omega
  rcases round_down (neg := neg) h0 hp hm1 hm2 (by rw [hv]; exact h) with ⟨a, k1, k2, k3⟩ | k
  · left
    refine ⟨k1, ?_⟩
    rw [k2]
    rcases Int.lt_trichotomy V 0 with c | c | c
    · right
      rw [decide_eq_true c] at hn
      subst hn
      exact ⟨c, by simp only [if_true]; omega⟩
    · exact (v0 c).elim
    · left
      rw [decide_eq_false (by omega)] at hn
      subst hn
      exact ⟨c, by simp only [Bool.false_eq_true, if_false]; omega⟩
  · right
    rw [k, hn]
theorem exact_of {m q : Nat} (hp : -2148 ≤ place) (hv : mag * 2 ^ (place + 2148).toNat = V.natAbs) (hneg : V ≠ 0 → neg = decide (V < 0)) (hm1 : 2 ^ 52 ≤ m) (hm2 : m < 2 ^ 53) (hq : q < 2046) (h : V.natAbs = m * 2 ^ (q + 1074)) :
    Fin64 (double.nearest neg mag place) ∧ (0 < V → sv (double.nearest neg mag place) = ((m * 2 ^ q : Nat) : Int)) ∧ (V < 0 → sv (double.nearest neg mag place) = -((m * 2 ^ q : Nat) : Int)) := by
  obtain ⟨k1, k2⟩ := up_of (neg := neg) hp hv hm1 hm2 hq (Nat.le_of_eq h)
  refine ⟨k1, ?_⟩
  rcases down_of hp hv hneg hm1 hm2 (Nat.le_of_eq h.symm) with ⟨_, c⟩ | c
  · constructor
    · intro hV; omega
    · intro hV; omega
  · rw [c] at k1
    exfalso
    unfold Fin64 at k1
    have : ∀ b : Bool, double.word b double.infRung % double.signWeight = double.infRung := by decide
    rw [this] at k1
    omega
end

theorem KK_abs : KK.natAbs = 2 ^ 1074 := by
  have e : Int.natAbs 2 = 2 := rfl
  unfold KK
  rw [Int.natAbs_pow, e]
theorem to2148 {mag : Nat} {place S : Int} (hp : (-1074 : Int) ≤ place) (h : mag * 2 ^ (place + 1074).toNat = S.natAbs) : mag * 2 ^ (place + 2148).toNat = (S * KK).natAbs := by
  have e : (place + 2148).toNat = (place + 1074).toNat + 1074 := by omega
  rw [e, Nat.pow_add, ← Nat.mul_assoc, h, Int.natAbs_mul, KK_abs]
theorem sgn_KK {S : Int} {neg : Bool} (h : S ≠ 0 → neg = decide (S < 0)) : S * KK ≠ 0 → neg = decide (S * KK < 0) := fun h0 => by
  have hp := KK_pos
  have hS : S ≠ 0 := fun e => h0 (by rw [e, Int.zero_mul])
  rw [h hS]
  rcases Int.lt_trichotomy S 0 with c | c | c
  · have := Int.mul_neg_of_neg_of_pos c hp
    rw [decide_eq_true c, decide_eq_true this]
  · exact (hS c).elim
  · have := Int.mul_pos c hp
    rw [decide_eq_false (by omega), decide_eq_false (by omega)]

theorem shift1 (k : Nat) : 2 ^ 53 * 2 ^ k = 2 ^ 52 * 2 ^ (k + 1) := by rw [Nat.pow_succ]; omega
/-- A whole number of at most 53 digits, with its digits at the head. -/
theorem int_norm {c : Nat} (h0 : c ≠ 0) (h : c ≤ 2 ^ 53) : ∃ m q, 2 ^ 52 ≤ m ∧ m < 2 ^ 53 ∧ q < 2046 ∧ c * 2 ^ 1074 = m * 2 ^ q := by
  rcases Nat.lt_or_eq_of_le h with h | h
  · have hl := log2_lt h0 h
    have hself := Nat.log2_self_le h0
    have hlt := Nat.lt_log2_self (n := c)
    generalize c.log2 = L at *
    refine ⟨c * 2 ^ (52 - L), 1074 - (52 - L), ?_, ?_, by omega, ?_⟩
    · have := Nat.mul_le_mul_right (2 ^ (52 - L)) hself
      rwa [← Nat.pow_add, show L + (52 - L) = 52 by omega] at this
    · have := Nat.mul_lt_mul_of_pos_right hlt (Nat.two_pow_pos (52 - L))
      rwa [← Nat.pow_add, show L + 1 + (52 - L) = 53 by omega] at this
    · rw [Nat.mul_assoc, ← Nat.pow_add, show 52 - L + (1074 - (52 - L)) = 1074 by omega]
  · subst h
    refine ⟨2 ^ 52, 1074 + 1, Nat.le_refl _, by decide, by decide, ?_⟩
    exact shift1 1074

theorem int_of_data {neg : Bool} {mag : Nat} {place S c : Int} (hp : (-1074 : Int) ≤ place) (hv : mag * 2 ^ (place + 1074).toNat = S.natAbs) (hneg : S ≠ 0 → neg = decide (S < 0)) (hS : S = c * KK) (h1 : -(2 ^ 53) ≤ c) (h2 : c ≤ 2 ^ 53) :
    Fin64 (double.nearest neg mag place) ∧ sv (double.nearest neg mag place) = c * KK := by
  by_cases h0 : c = 0
  · subst h0
    rw [Int.zero_mul] at hS ⊢
    subst hS
    have : mag = 0 := by
      rcases Nat.mul_eq_zero.1 hv with h | h
      · exact h
      · have := Nat.two_pow_pos (place + 1074).toNat; omega
    subst this
    rw [nearest_zero]
    exact word_zero neg
  · obtain ⟨m, q, k1, k2, k3, k4⟩ := int_norm (c := c.natAbs) (by omega) (by omega)
    have hA : S.natAbs = m * 2 ^ q := by rw [hS, Int.natAbs_mul, KK_abs, k4]
    have hV : (S * KK).natAbs = m * 2 ^ (q + 1074) := by rw [Int.natAbs_mul, hA, KK_abs, Nat.pow_add, Nat.mul_assoc]
    obtain ⟨r1, r2, r3⟩ := exact_of (by omega) (to2148 hp hv) (sgn_KK hneg) k1 k2 k3 hV
    refine ⟨r1, ?_⟩
    have hKp := KK_pos
    rcases Int.lt_trichotomy S 0 with c0 | c0 | c0
    · rw [r3 (Int.mul_neg_of_neg_of_pos c0 hKp), ← hA, ← hS]; omega
    · rw [c0] at hS
      rcases Int.mul_eq_zero.1 hS.symm with h | h
      · exact (h0 h).elim
      · omega
    · rw [r2 (Int.mul_pos c0 hKp), ← hA, ← hS]; omega

theorem sub_int {x y : Nat} {a b : Int} (hx : Fin64 x) (hy : Fin64 y) (ha : sv x = a * KK) (hb : sv y = b * KK) (h1 : -(2 ^ 53) ≤ a - b) (h2 : a - b ≤ 2 ^ 53) : ∃ r, double.sub x y = some r ∧ Fin64 r ∧ sv r = (a - b) * KK := by
  obtain ⟨neg, mag, place, h, hp, hv, hn⟩ := sub_data hx hy
  exact ⟨_, h, int_of_data hp hv hn (by rw [ha, hb, Int.sub_mul]) h1 h2⟩
end Go.Ev
