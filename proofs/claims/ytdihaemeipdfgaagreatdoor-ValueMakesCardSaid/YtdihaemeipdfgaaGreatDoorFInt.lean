/- Floats as whole multiples of the least one. -/
import Derived.Test.YtdihaemeipdfgaaGreatDoorEvLeaf
namespace Go.Ev
open Ieee

/-- How many least floats make 1. -/
def KK : Int := 2 ^ 1074
theorem KK_pos : 0 < KK := Int.pow_pos (by decide)

/-- A float as a multiple of the least one. -/
def sv (x : Nat) : Int := match double.read x with
  | .number s m i => signed s m (i - double.leastPlace).toNat
  | _ => 0

theorem leastPlace_eq : double.leastPlace = -1074 := by decide

theorem read_place {x : Nat} {s : Bool} {m : Nat} {i : Int} (h : double.read x = .number s m i) : double.leastPlace ≤ i := by
  unfold Format.read at h
  simp only at h
  split at h
  · cases h; exact Int.le_refl _
  · split at h
    · cases h; omega
    · split at h <;> cases h

theorem signed_mul (s : Bool) (m a b : Nat) : signed s m (a + b) = signed s m a * 2 ^ b := by
  unfold signed
  have h : (m <<< (a + b) : Nat) = (m <<< a) * 2 ^ b := by rw [Nat.shiftLeft_eq, Nat.shiftLeft_eq, Nat.pow_add, Nat.mul_assoc]
  rw [h]
  cases s <;> simp [Int.natCast_mul, Int.natCast_pow, Int.neg_mul]

theorem pow_pos_int (k : Nat) : (0 : Int) < 2 ^ k := Int.pow_pos (by decide)

theorem compare_mul {a b c : Int} (hc : 0 < c) : compare (a * c) (b * c) = compare a b := by
  rcases Int.lt_trichotomy a b with h | h | h
  · rw [Int.compare_eq_lt.2 h, Int.compare_eq_lt.2 (Int.mul_lt_mul_of_pos_right h hc)]
  · subst h; simp [Std.ReflCmp.compare_self]
  · rw [Int.compare_eq_gt.2 h, Int.compare_eq_gt.2 (Int.mul_lt_mul_of_pos_right h hc)]

/-- How two finite floats stand to each other. -/
theorem ford_fin {x y : Nat} (hx : Fin64 x) (hy : Fin64 y) : ford x y = some (compare (sv x) (sv y)) := by
  obtain ⟨s, m, i, e1, _⟩ := read_fin hx
  obtain ⟨t, n, j, e2, _⟩ := read_fin hy
  have h1 := read_place e1
  have h2 := read_place e2
  unfold ford Format.order sv
  rw [e1, e2]
  simp only [Datum.order]
  congr 1
  generalize double.leastPlace = L at h1 h2
  have hb : L ≤ min i j := by omega
  have a1 : (i - L).toNat = (i - min i j).toNat + (min i j - L).toNat := by omega
  have a2 : (j - L).toNat = (j - min i j).toNat + (min i j - L).toNat := by omega
  rw [a1, a2, signed_mul, signed_mul, compare_mul (pow_pos_int _)]

theorem ford_nan {x : Nat} (h : Nan64 x) (y : Nat) : ford x y = none ∧ ford y x = none := order_nan h y

/-- Finite, infinite, or no number. -/
theorem three (x : Nat) : Fin64 x ∨ x % double.signWeight = double.infRung ∨ Nan64 x := by
  unfold Fin64 Nan64
  omega

/-- A number is finite just if it is less than an infinity either way. -/
theorem sv_shift {s : Bool} {m : Nat} {i : Int} (h : double.leastPlace ≤ i) (hi : i ≤ 0) : signed s m (i - double.leastPlace).toNat * 2 ^ (-i).toNat = signed s m 0 * KK := by
  rw [← signed_mul]
  have : (i - double.leastPlace).toNat + (-i).toNat = 0 + 1074 := by rw [leastPlace_eq] at *; omega
  rw [this, signed_mul]
  rfl

/-! ### Whole numbers -/
theorem log2_lt {n k : Nat} (hn : n ≠ 0) (h : n < 2 ^ k) : n.log2 < k := (Nat.log2_lt hn).2 h

/-- A word read, by sign and rung. -/
theorem read_word {neg : Bool} {r : Nat} (hr : r < double.infRung) : double.read (double.word neg r) =
    if r < double.binade then .number neg r double.leastPlace else .number neg (double.binade + r % double.binade) (double.leastPlace + (r / double.binade - 1 : Nat)) := by
  have hw : double.signWeight = 2 ^ 63 := rfl
  have hi : double.infRung = 2047 * 2 ^ 52 := rfl
  have hb : double.binade = 2 ^ 52 := rfl
  rw [hi] at hr
  have e1 : double.word neg r % double.signWeight = r := by
    unfold Format.word; rw [hw]; cases neg <;> simp <;> omega
  have e2 : (double.word neg r / double.signWeight % 2 == 1) = neg := by
    unfold Format.word; rw [hw]
    cases neg
    · have : r / 2 ^ 63 = 0 := Nat.div_eq_of_lt (by omega)
      simp [this]
    · have : (2 ^ 63 + r) / 2 ^ 63 = 1 := by omega
      simp [this]
  unfold Format.read
  simp only [e1, e2]
  split
  · rfl
  · rw [if_pos (by rw [hi]; exact hr)]

theorem infRung_eq : double.infRung = 2047 * 2 ^ 52 := rfl
theorem binade_eq : double.binade = 2 ^ 52 := rfl

theorem cut_zero (way : Toward) (neg : Bool) (n : Nat) : way.cut neg n 0 = n := by
  unfold Toward.cut
  simp only [Nat.zero_min, Nat.shiftLeft_zero, Nat.div_one, Nat.mod_one, Nat.mul_zero, Nat.not_lt_zero, decide_false, Bool.false_or]
  cases way <;> simp

theorem rung_lt {d q : Nat} (h : q < 2 ^ 53) : (1074 - d) * 2 ^ 52 + q < 2047 * 2 ^ 52 := by omega
theorem rung_le {d q : Nat} (h : q < 2 ^ 53) : (1074 - d) * 2 ^ 52 + q ≤ 2047 * 2 ^ 52 := by omega
theorem rung_parts {d q : Nat} (hd : d ≤ 52) (h1 : 2 ^ 52 ≤ q) (h2 : q < 2 ^ 53) : 2 ^ 52 + ((1074 - d) * 2 ^ 52 + q) % 2 ^ 52 = q ∧ ((1074 - d) * 2 ^ 52 + q) / 2 ^ 52 = 1075 - d := by omega

/-- The word of a number of at most 53 digits, from a place that is not too high or low. -/
theorem nearest_small {neg : Bool} {mag : Nat} (h0 : mag ≠ 0) (h : mag < 2 ^ 53) :
    double.read (double.nearest neg mag 0) = .number neg (mag * 2 ^ (52 - mag.log2)) (-((52 - mag.log2 : Nat) : Int)) := by
  have hl := log2_lt h0 h
  have hself := Nat.log2_self_le h0
  have hlt := Nat.lt_log2_self (n := mag)
  generalize hd : 52 - mag.log2 = d
  have hlog : mag.log2 = 52 - d := by omega
  have hd52 : d ≤ 52 := by omega
  rw [hlog] at hself hlt
  have k1 : 2 ^ 52 ≤ mag * 2 ^ d := by
    have : 2 ^ (52 - d) * 2 ^ d ≤ mag * 2 ^ d := Nat.mul_le_mul_right _ hself
    rwa [← Nat.pow_add, show 52 - d + d = 52 by omega] at this
  have k2 : mag * 2 ^ d < 2 ^ 53 := by
    have : mag * 2 ^ d < 2 ^ (52 - d + 1) * 2 ^ d := Nat.mul_lt_mul_of_pos_right hlt (Nat.two_pow_pos d)
    rwa [← Nat.pow_add, show 52 - d + 1 + d = 53 by omega] at this
  have hlast : max ((0 : Int) + mag.log2 - double.fractionBits) double.leastPlace = -(d : Int) := by
    rw [leastPlace_eq, show double.fractionBits = 52 from rfl, hlog]
    omega
  have hn : double.nearest neg mag 0 = double.word neg ((1074 - d) * 2 ^ 52 + mag * 2 ^ d) := by
    unfold Format.nearest
    rw [if_neg h0]
    simp only [hlast]
    have e1 : ((0 : Int) - -(d : Int)).toNat = d := by omega
    have e2 : (-(d : Int) - 0).toNat = 0 := by omega
    have e3 : (-(d : Int) - double.leastPlace).toNat = 1074 - d := by rw [leastPlace_eq]; omega
    rw [e1, e2, e3, cut_zero, Nat.shiftLeft_eq, infRung_eq, binade_eq]
    exact congrArg _ (Nat.min_eq_left (rung_le k2))
  rw [hn, read_word (by rw [infRung_eq]; exact rung_lt k2)]
  rw [if_neg (by rw [binade_eq]; exact Nat.not_lt.2 (Nat.le_trans k1 (Nat.le_add_left _ _))), binade_eq]
  obtain ⟨e4, e5⟩ := rung_parts hd52 k1 k2
  rw [e4, e5, leastPlace_eq]
  have e6 : (-1074 : Int) + ((1075 - d - 1 : Nat) : Int) = -(d : Int) := by omega
  rw [e6]

theorem signed_eq (neg : Bool) (m up : Nat) : signed neg m up = (if neg then -1 else 1) * ((m : Int) * 2 ^ up) := by
  unfold signed
  rw [Nat.shiftLeft_eq]
  cases neg <;> simp [Int.natCast_mul, Int.natCast_pow]

theorem fin_of_read {x : Nat} {s : Bool} {m : Nat} {i : Int} (h : double.read x = .number s m i) : Fin64 x := by
  unfold Format.read at h
  simp only at h
  unfold Fin64
  split at h
  · rename_i hb
    have : double.binade ≤ double.infRung := by decide
    omega
  · split at h
    · assumption
    · split at h <;> cases h

/-- The float of a whole number that is not too great is that number. -/
theorem nearest_int {n : Int} (h1 : -(2 ^ 53) ≤ n) (h2 : n ≤ 2 ^ 53) : Fin64 (FloatKind.f64.nearest n) ∧ sv (FloatKind.f64.nearest n) = n * KK := by
  have hw : FloatKind.f64.nearest n = double.nearest (decide (n < 0)) n.natAbs 0 := rfl
  by_cases h0 : n = 0
  · subst h0
    have e : double.read (FloatKind.f64.nearest 0) = .number false 0 double.leastPlace := by decide +kernel
    refine ⟨fin_of_read e, ?_⟩
    unfold sv
    rw [e]
    simp [signed_eq]
  · by_cases ha : n.natAbs < 2 ^ 53
    · have hr := nearest_small (neg := decide (n < 0)) (mag := n.natAbs) (by omega) ha
      rw [← hw] at hr
      refine ⟨fin_of_read hr, ?_⟩
      unfold sv
      rw [hr]
      simp only [signed_eq, leastPlace_eq]
      have hd52 : 52 - n.natAbs.log2 ≤ 52 := by omega
      generalize 52 - n.natAbs.log2 = d at hd52
      have e1 : (-(d : Int) - -1074).toNat = 1074 - d := by omega
      rw [e1, Int.natCast_mul, Int.natCast_pow, Int.mul_assoc]
      have e2 : ((2 : Nat) : Int) ^ d * 2 ^ (1074 - d) = KK := by
        show (2 : Int) ^ d * 2 ^ (1074 - d) = 2 ^ 1074
        rw [← Int.pow_add, show d + (1074 - d) = 1074 by omega]
      rw [e2, ← Int.mul_assoc]
      congr 1
      by_cases hneg : n < 0
      · simp [hneg]; omega
      · simp [hneg]; omega
    · have : n = 2 ^ 53 ∨ n = -(2 ^ 53) := by omega
      rcases this with rfl | rfl
      · have e : double.read (FloatKind.f64.nearest (2 ^ 53)) = .number false (2 ^ 52) 1 := by decide +kernel
        refine ⟨fin_of_read e, ?_⟩
        unfold sv
        rw [e]
        simp only [signed_eq, leastPlace_eq]
        decide +kernel
      · have e : double.read (FloatKind.f64.nearest (-(2 ^ 53))) = .number true (2 ^ 52) 1 := by decide +kernel
        refine ⟨fin_of_read e, ?_⟩
        unfold sv
        rw [e]
        simp only [signed_eq, leastPlace_eq]
        decide +kernel
end Go.Ev
