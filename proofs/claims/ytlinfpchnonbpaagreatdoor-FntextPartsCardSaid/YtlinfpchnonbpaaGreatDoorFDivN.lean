/- Floats as whole multiples of the least one. -/
import Derived.Test.YtlinfpchnonbpaaGreatDoorEvVal
namespace Go.Ev
open Ieee
def KK : Int := 2 ^ 1074
theorem KK_pos : 0 < KK := Int.pow_pos (by decide)
def sv (x : Nat) : Int := match double.read x with
  | .number s m i => signed s m (i - double.leastPlace).toNat
  | _ => 0
theorem leastPlace_eq : double.leastPlace = -1074 := by decide
theorem read_place {x : Nat} {s : Bool} {m : Nat} {i : Int} (h : double.read x = .number s m i) : double.leastPlace ≤ i := by
  unfold Format.read at h
  simp only at h
  split at h
  · cases h; exact Int.le_refl _
  · split at h
    · cases h; omega
    · split at h <;> cases h
theorem signed_mul (s : Bool) (m a b : Nat) : signed s m (a + b) = signed s m a * 2 ^ b := by
  unfold signed
  have h : (m <<< (a + b) : Nat) = (m <<< a) * 2 ^ b := by rw [Nat.shiftLeft_eq, Nat.shiftLeft_eq, Nat.pow_add, Nat.mul_assoc]
  rw [h]
  cases s <;> simp [Int.natCast_mul, Int.natCast_pow, Int.neg_mul]
theorem pow_pos_int (k : Nat) : (0 : Int) < 2 ^ k := Int.pow_pos (by decide)
theorem compare_mul {a b c : Int} (hc : 0 < c) : compare (a * c) (b * c) = compare a b := by
  rcases Int.lt_trichotomy a b with h | h | h
  · rw [Int.compare_eq_lt.2 h, Int.compare_eq_lt.2 (Int.mul_lt_mul_of_pos_right h hc)]
  · subst h; simp [Std.ReflCmp.compare_self]
  · rw [Int.compare_eq_gt.2 h, Int.compare_eq_gt.2 (Int.mul_lt_mul_of_pos_right h hc)]
theorem ford_fin {x y : Nat} (hx : Fin64 x) (hy : Fin64 y) : ford x y = some (compare (sv x) (sv y)) := by
  obtain ⟨s, m, i, e1, _⟩ := read_fin hx
  obtain ⟨t, n, j, e2, _⟩ := read_fin hy
  have h1 := read_place e1
  have h2 := read_place e2
  unfold ford Format.order sv
  rw [e1, e2]
  simp only [Datum.order]
  congr 1
  generalize double.leastPlace = L at h1 h2
  have hb : L ≤ min i j := by omega
  have a1 : (i - L).toNat = (i - min i j).toNat + (min i j - L).toNat := by omega
  have a2 : (j - L).toNat = (j - min i j).toNat + (min i j - L).toNat := by omega
  rw [a1, a2, signed_mul, signed_mul, compare_mul (pow_pos_int _)]
theorem ford_nan {x : Nat} (h : Nan64 x) (y : Nat) : ford x y = none ∧ ford y x = none := order_nan h y
theorem three (x : Nat) : Fin64 x ∨ x % double.signWeight = double.infRung ∨ Nan64 x := by
  unfold Fin64 Nan64
  omega
theorem sv_shift {s : Bool} {m : Nat} {i : Int} (h : double.leastPlace ≤ i) (hi : i ≤ 0) : signed s m (i - double.leastPlace).toNat * 2 ^ (-i).toNat = signed s m 0 * KK := by
  rw [← signed_mul]
  have : (i - double.leastPlace).toNat + (-i).toNat = 0 + 1074 := by rw [leastPlace_eq] at *; omega
  rw [this, signed_mul]
  rfl
theorem log2_lt {n k : Nat} (hn : n ≠ 0) (h : n < 2 ^ k) : n.log2 < k := (Nat.log2_lt hn).2 h
theorem read_word {neg : Bool} {r : Nat} (hr : r < double.infRung) : double.read (double.word neg r) =
    if r < double.binade then .number neg r double.leastPlace else .number neg (double.binade + r % double.binade) (double.leastPlace + (r / double.binade - 1 : Nat)) := by
  have hw : double.signWeight = 2 ^ 63 := rfl
  have hi : double.infRung = 2047 * 2 ^ 52 := rfl
  have hb : double.binade = 2 ^ 52 := rfl
  rw [hi] at hr
  have e1 : double.word neg r % double.signWeight = r := by
    unfold Format.word; rw [hw]; cases neg <;> simp <;> omega
  have e2 : (double.word neg r / double.signWeight % 2 == 1) = neg := by
    unfold Format.word; rw [hw]
    cases neg
    · have : r / 2 ^ 63 = 0 := Nat.div_eq_of_lt (by omega)
      simp [this]
    · have : (2 ^ 63 + r) / 2 ^ 63 = 1 := by omega
      simp [this]
  unfold Format.read
  simp only [e1, e2]
  split
  · rfl
  · rw [if_pos (by rw [hi]; exact hr)]
theorem infRung_eq : double.infRung = 2047 * 2 ^ 52 := rfl
theorem binade_eq : double.binade = 2 ^ 52 := rfl
theorem cut_zero (way : Toward) (neg : Bool) (n : Nat) : way.cut neg n 0 = n := by
  unfold Toward.cut
  simp only [Nat.zero_min, Nat.shiftLeft_zero, Nat.div_one, Nat.mod_one, Nat.mul_zero, Nat.not_lt_zero, decide_false, Bool.false_or]
  cases way <;> simp
theorem rung_lt {d q : Nat} (h : q < 2 ^ 53) : (1074 - d) * 2 ^ 52 + q < 2047 * 2 ^ 52 := by omega
theorem rung_le {d q : Nat} (h : q < 2 ^ 53) : (1074 - d) * 2 ^ 52 + q ≤ 2047 * 2 ^ 52 := by omega
theorem rung_parts {d q : Nat} (hd : d ≤ 52) (h1 : 2 ^ 52 ≤ q) (h2 : q < 2 ^ 53) : 2 ^ 52 + ((1074 - d) * 2 ^ 52 + q) % 2 ^ 52 = q ∧ ((1074 - d) * 2 ^ 52 + q) / 2 ^ 52 = 1075 - d := by omega
theorem nearest_small {neg : Bool} {mag : Nat} (h0 : mag ≠ 0) (h : mag < 2 ^ 53) :
    double.read (double.nearest neg mag 0) = .number neg (mag * 2 ^ (52 - mag.log2)) (-((52 - mag.log2 : Nat) : Int)) := by
  have hl := log2_lt h0 h
  have hself := Nat.log2_self_le h0
  have hlt := Nat.lt_log2_self (n := mag)
  generalize hd : 52 - mag.log2 = d
  have hlog : mag.log2 = 52 - d := by omega
  have hd52 : d ≤ 52 := by omega
  rw [hlog] at hself hlt
  have k1 : 2 ^ 52 ≤ mag * 2 ^ d := by
    have : 2 ^ (52 - d) * 2 ^ d ≤ mag * 2 ^ d := Nat.mul_le_mul_right _ hself
    rwa [← Nat.pow_add, show 52 - d + d = 52 by omega] at this
  have k2 : mag * 2 ^ d < 2 ^ 53 := by
    have : mag * 2 ^ d < 2 ^ (52 - d + 1) * 2 ^ d := Nat.mul_lt_mul_of_pos_right hlt (Nat.two_pow_pos d)
    rwa [← Nat.pow_add, show 52 - d + 1 + d = 53 by omega] at this
  have hlast : max ((0 : Int) + mag.log2 - double.fractionBits) double.leastPlace = -(d : Int) := by
    rw [leastPlace_eq, show double.fractionBits = 52 from rfl, hlog]
    omega
  have hn : double.nearest neg mag 0 = double.word neg ((1074 - d) * 2 ^ 52 + mag * 2 ^ d) := by
    unfold Format.nearest
    rw [if_neg h0]
    simp only [hlast]
    have e1 : ((0 : Int) - -(d : Int)).toNat = d := by omega
    have e2 : (-(d : Int) - 0).toNat = 0 := by omega
    have e3 : (-(d : Int) - double.leastPlace).toNat = 1074 - d := by rw [leastPlace_eq]; omega
    rw [e1, e2, e3, cut_zero, Nat.shiftLeft_eq, infRung_eq, binade_eq]
    exact congrArg _ (Nat.min_eq_left (rung_le k2))
  rw [hn, read_word (by rw [infRung_eq]; exact rung_lt k2)]
  rw [if_neg (by rw [binade_eq]; exact Nat.not_lt.2 (Nat.le_trans k1 (Nat.le_add_left _ _))), binade_eq]
  obtain ⟨e4, e5⟩ := rung_parts hd52 k1 k2
  rw [e4, e5, leastPlace_eq]
  have e6 : (-1074 : Int) + ((1075 - d - 1 : Nat) : Int) = -(d : Int) := by omega
  rw [e6]
theorem signed_eq (neg : Bool) (m up : Nat) : signed neg m up = (if neg then -1 else 1) * ((m : Int) * 2 ^ up) := by
  unfold signed
  rw [Nat.shiftLeft_eq]
  cases neg <;> simp [Int.natCast_mul, Int.natCast_pow]
theorem fin_of_read {x : Nat} {s : Bool} {m : Nat} {i : Int} (h : double.read x = .number s m i) : Fin64 x := by
  unfold Format.read at h
  simp only at h
  unfold Fin64
  split at h
  · rename_i hb
    have : double.binade ≤ double.infRung := by decide
    omega
  · split at h
    · assumption
    · split at h <;> cases h
theorem nearest_int {n : Int} (h1 : -(2 ^ 53) ≤ n) (h2 : n ≤ 2 ^ 53) : Fin64 (FloatKind.f64.nearest n) ∧ sv (FloatKind.f64.nearest n) = n * KK := by
  have hw : FloatKind.f64.nearest n = double.nearest (decide (n < 0)) n.natAbs 0 := rfl
  by_cases h0 : n = 0
  · subst h0
    have e : double.read (FloatKind.f64.nearest 0) = .number false 0 double.leastPlace := by decide +kernel
    refine ⟨fin_of_read e, ?_⟩
    unfold sv
    rw [e]
    simp [signed_eq]
  · by_cases ha : n.natAbs < 2 ^ 53
    · have hr := nearest_small (neg := decide (n < 0)) (mag := n.natAbs) (by omega) ha
      rw [← hw] at hr
      refine ⟨fin_of_read hr, ?_⟩
      unfold sv
      rw [hr]
      simp only [signed_eq, leastPlace_eq]
      have hd52 : 52 - n.natAbs.log2 ≤ 52 := by omega
      generalize 52 - n.natAbs.log2 = d at hd52
      have e1 : (-(d : Int) - -1074).toNat = 1074 - d := by omega
      rw [e1, Int.natCast_mul, Int.natCast_pow, Int.mul_assoc]
      have e2 : ((2 : Nat) : Int) ^ d * 2 ^ (1074 - d) = KK := by
        show (2 : Int) ^ d * 2 ^ (1074 - d) = 2 ^ 1074
        rw [← Int.pow_add, show d + (1074 - d) = 1074 by omega]
      rw [e2, ← Int.mul_assoc]
      congr 1
      by_cases hneg : n < 0
      · simp [hneg]; omega
      · simp [hneg]; omega
    · have : n = 2 ^ 53 ∨ n = -(2 ^ 53) := by omega
      rcases this with rfl | rfl
      · have e : double.read (FloatKind.f64.nearest (2 ^ 53)) = .number false (2 ^ 52) 1 := by decide +kernel
        refine ⟨fin_of_read e, ?_⟩
        unfold sv
        rw [e]
        simp only [signed_eq, leastPlace_eq]
        decide +kernel
      · have e : double.read (FloatKind.f64.nearest (-(2 ^ 53))) = .number true (2 ^ 52) 1 := by decide +kernel
        refine ⟨fin_of_read e, ?_⟩
        unfold sv
        rw [e]
        simp only [signed_eq, leastPlace_eq]
        decide +kernel
end Go.Ev
namespace Go.Ev
open Ieee
theorem pow_min_div (m d : Nat) : m / (1 <<< min d (m.log2 + 2)) = m / 2 ^ d ∧ (m % (1 <<< min d (m.log2 + 2)) = 0 ↔ m % 2 ^ d = 0) := by
  have e : 1 <<< min d (m.log2 + 2) = 2 ^ min d (m.log2 + 2) := by rw [Nat.shiftLeft_eq, Nat.one_mul]
  rw [e]
  rcases Nat.le_total d (m.log2 + 2) with h | h
  · rw [Nat.min_eq_left h]; exact ⟨rfl, Iff.rfl⟩
  · rw [Nat.min_eq_right h]
    have h1 : m < 2 ^ (m.log2 + 1) := Nat.lt_log2_self
    have h2 : 2 ^ (m.log2 + 1) ≤ 2 ^ (m.log2 + 2) := Nat.pow_le_pow_right (by decide) (by omega)
    have h3 : 2 ^ (m.log2 + 2) ≤ 2 ^ d := Nat.pow_le_pow_right (by decide) h
    rw [Nat.div_eq_of_lt (by omega), Nat.div_eq_of_lt (by omega), Nat.mod_eq_of_lt (by omega), Nat.mod_eq_of_lt (by omega)]
    exact ⟨rfl, Iff.rfl⟩
theorem cut_down (neg : Bool) (m d : Nat) : Toward.down.cut neg m d = m / 2 ^ d + (neg && (m % 2 ^ d != 0)).toNat := by
  unfold Toward.cut
  obtain ⟨h1, h2⟩ := pow_min_div m d
  simp only [h1]
  have : (m % (1 <<< min d (m.log2 + 2)) != 0) = (m % 2 ^ d != 0) := by
    rw [Bool.eq_iff_iff]
    simp only [bne_iff_ne, ne_eq, h2]
  rw [this]
theorem cut_zero_way (neg : Bool) (m d : Nat) : Toward.zero.cut neg m d = m / 2 ^ d := by
  unfold Toward.cut
  obtain ⟨h1, h2⟩ := pow_min_div m d
  simp only [h1]
  simp
def flr (x : Nat) : Int := sv x / KK
theorem floor_neg (m p : Nat) (hp : 0 < p) : (-(m : Int)) / (p : Int) = -((m / p + (if m % p = 0 then 0 else 1) : Nat) : Int) := by
  have hp' : (0 : Int) < (p : Int) := by exact_mod_cast hp
  have hdm : (m : Int) = (p : Int) * ((m / p : Nat) : Int) + ((m % p : Nat) : Int) := by exact_mod_cast (Nat.div_add_mod m p).symm
  have hlt : ((m % p : Nat) : Int) < p := by exact_mod_cast Nat.mod_lt m hp
  by_cases h : m % p = 0
  · rw [if_pos h, Nat.add_zero]
    rw [h] at hdm
    rw [hdm, Int.natCast_zero, Int.add_zero, ← Int.mul_neg, Int.mul_ediv_cancel_left _ (by omega)]
  · rw [if_neg h]
    have h1 : (1 : Int) ≤ ((m % p : Nat) : Int) := by
      have : 1 ≤ m % p := by omega
      exact_mod_cast this
    have e : -(m : Int) = ((p : Int) - ((m % p : Nat) : Int)) + (p : Int) * (-((m / p + 1 : Nat) : Int)) := by
      rw [hdm, Int.natCast_add, Int.mul_neg, Int.mul_add]; simp; omega
    rw [e, Int.add_mul_ediv_left _ _ (by omega), Int.ediv_eq_zero_of_lt (by omega) (by omega), Int.zero_add]
theorem KK_split {d : Nat} (h : d ≤ 1074) : KK = (2 : Int) ^ d * 2 ^ (1074 - d) := by
  unfold KK; rw [← Int.pow_add, show d + (1074 - d) = 1074 by omega]
theorem sv_eq {x : Nat} {s : Bool} {m : Nat} {i : Int} (e : double.read x = .number s m i) : sv x = (if s then -1 else 1) * ((m : Int) * 2 ^ (i + 1074).toNat) := by
  unfold sv
  rw [e]
  simp only [signed_eq, leastPlace_eq]
  congr 3
  all_goals omega
theorem toInt_down {x : Nat} (h : Fin64 x) : (FloatKind.f64.decode x).toInt .down = some (flr x) := by
  obtain ⟨s, m, i, e, _, hL, hU, _⟩ := read_fin h
  have hd : FloatKind.f64.decode x = .number s m i := e
  rw [leastPlace_eq] at hL
  unfold Datum.toInt
  rw [hd]
  simp only [Datum.integral]
  congr 1
  unfold flr
  rw [sv_eq e, signed_eq]
  rcases Int.le_total 0 i with hi | hi
  · have e1 : (-i).toNat = 0 := by omega
    rw [e1, cut_zero, Nat.shiftLeft_eq]
    have e2 : (i + 1074).toNat = i.toNat + 1074 := by omega
    rw [e2, Int.pow_add]
    have e3 : (2 : Int) ^ 1074 = KK := rfl
    rw [e3]
    simp only [← Int.mul_assoc]
    rw [Int.mul_ediv_cancel _ (Int.ne_of_gt KK_pos)]
    simp [Int.natCast_mul, Int.natCast_pow, Int.mul_assoc]
  · obtain ⟨d, hdi⟩ : ∃ d : Nat, i = -(d : Int) := ⟨(-i).toNat, by omega⟩
    subst hdi
    have hd2 : d ≤ 1074 := by omega
    have e1 : (-(-(d : Int))).toNat = d := by omega
    have e2 : (-(d : Int)).toNat = 0 := by omega
    have e3 : (-(d : Int) + 1074).toNat = 1074 - d := by omega
    rw [e1, e2, e3, Nat.shiftLeft_zero, cut_down, KK_split hd2]
    have hp : (0 : Int) < 2 ^ (1074 - d) := pow_pos_int _
    have hq : 0 < 2 ^ d := Nat.two_pow_pos d
    have cast : ((2 ^ d : Nat) : Int) = 2 ^ d := by simp
    cases s
    · simp only [Bool.false_eq_true, if_false, Int.one_mul, Bool.false_and, Bool.toNat_false, Nat.add_zero, Int.pow_zero, Int.mul_one]
      rw [Int.mul_ediv_mul_of_pos_left _ _ hp, ← cast]
      exact (Int.natCast_ediv m (2 ^ d))
    · simp only [if_true, Bool.true_and, Int.pow_zero, Int.mul_one]
      have : (-1 : Int) * (↑m * 2 ^ (1074 - d)) = (-(m : Int)) * 2 ^ (1074 - d) := by rw [Int.neg_mul, Int.one_mul, Int.neg_mul]
      rw [this, Int.mul_ediv_mul_of_pos_left _ _ hp, ← cast, floor_neg m (2 ^ d) hq]
      rw [Int.neg_mul, Int.one_mul]
      congr 2
      by_cases hz : m % 2 ^ d = 0
      · simp [hz]
      · simp [hz]
theorem toInt_zero {x : Nat} (h : Fin64 x) : (FloatKind.f64.decode x).toInt .zero = some ((sv x).tdiv KK) := by
  obtain ⟨s, m, i, e, _, hL, hU, _⟩ := read_fin h
  have hd : FloatKind.f64.decode x = .number s m i := e
  rw [leastPlace_eq] at hL
  unfold Datum.toInt
  rw [hd]
  simp only [Datum.integral]
  congr 1
  rw [sv_eq e, signed_eq]
  rcases Int.le_total 0 i with hi | hi
  · have e1 : (-i).toNat = 0 := by omega
    rw [e1, cut_zero, Nat.shiftLeft_eq]
    have e2 : (i + 1074).toNat = i.toNat + 1074 := by omega
    rw [e2, Int.pow_add]
    have e3 : (2 : Int) ^ 1074 = KK := rfl
    rw [e3]
    simp only [← Int.mul_assoc]
    rw [Int.mul_tdiv_cancel _ (Int.ne_of_gt KK_pos)]
    simp [Int.natCast_mul, Int.natCast_pow, Int.mul_assoc]
  · obtain ⟨d, hdi⟩ : ∃ d : Nat, i = -(d : Int) := ⟨(-i).toNat, by omega⟩
    subst hdi
    have hd2 : d ≤ 1074 := by omega
    have e1 : (-(-(d : Int))).toNat = d := by omega
    have e2 : (-(d : Int)).toNat = 0 := by omega
    have e3 : (-(d : Int) + 1074).toNat = 1074 - d := by omega
    rw [e1, e2, e3, Nat.shiftLeft_zero, cut_zero_way, KK_split hd2]
    have hp : (0 : Int) < 2 ^ (1074 - d) := pow_pos_int _
    have cast : ((2 ^ d : Nat) : Int) = 2 ^ d := by simp
    have key : ((m : Int) * 2 ^ (1074 - d)).tdiv (2 ^ d * 2 ^ (1074 - d)) = ((m / 2 ^ d : Nat) : Int) := by
      rw [Int.mul_tdiv_mul_of_pos_left _ _ hp, ← cast]
      rfl
    cases s
    · simp only [Bool.false_eq_true, if_false, Int.one_mul, Int.pow_zero, Int.mul_one, key]
    · simp only [if_true, Int.neg_mul, Int.one_mul, Int.neg_tdiv, Int.pow_zero, Int.mul_one, key]
theorem not_nan {x : Nat} (h : Fin64 x) : ∀ s t, FloatKind.f64.decode x ≠ .nan s t := fun s t e => by
  obtain ⟨a, m, i, e', _⟩ := read_fin h
  have : FloatKind.f64.decode x = .number a m i := e'
  rw [this] at e; cases e
theorem integral_fin {x : Nat} (h : Fin64 x) (way : Toward) {n : Int} (hn : (FloatKind.f64.decode x).toInt way = some n) (h1 : -(2 ^ 53) < n) (h2 : n < 2 ^ 53) :
    Fin64 (FloatKind.f64.encode ((FloatKind.f64.decode x).integral way)) ∧ sv (FloatKind.f64.encode ((FloatKind.f64.decode x).integral way)) = n * KK := by
  obtain ⟨s, m, i, e, _⟩ := read_fin h
  have hd : FloatKind.f64.decode x = .number s m i := e
  rw [hd] at hn ⊢
  simp only [Datum.toInt, Datum.integral, Option.some.injEq] at hn ⊢
  generalize way.cut s (m <<< i.toNat) (-i).toNat = c at hn
  rw [signed_eq, Int.pow_zero, Int.mul_one] at hn
  have hw : FloatKind.f64.encode (.number s c 0) = double.nearest s c 0 := rfl
  rw [hw]
  by_cases h0 : c = 0
  · subst h0
    have hn0 : n = 0 := by rw [← hn]; simp
    subst hn0
    have e0 : ∃ p, double.read (double.nearest s 0 0) = .number s 0 p := by cases s <;> exact ⟨double.leastPlace, by decide +kernel⟩
    obtain ⟨p, e0⟩ := e0
    refine ⟨fin_of_read e0, ?_⟩
    unfold sv
    rw [e0]
    simp [signed_eq]
  · have hc : c < 2 ^ 53 := by
      cases s <;> simp at hn <;> omega
    have hr := nearest_small (neg := s) h0 hc
    refine ⟨fin_of_read hr, ?_⟩
    unfold sv
    rw [hr]
    simp only [signed_eq, leastPlace_eq]
    have hd52 : 52 - c.log2 ≤ 52 := by omega
    generalize 52 - c.log2 = d at hd52
    have e1 : (-(d : Int) - -1074).toNat = 1074 - d := by omega
    rw [e1, Int.natCast_mul, Int.natCast_pow, Int.mul_assoc]
    have e2 : ((2 : Nat) : Int) ^ d * 2 ^ (1074 - d) = KK := by
      show (2 : Int) ^ d * 2 ^ (1074 - d) = 2 ^ 1074
      rw [← Int.pow_add, show d + (1074 - d) = 1074 by omega]
    rw [e2, ← Int.mul_assoc, hn]
theorem abs_read {x : Nat} {s : Bool} {m : Nat} {i : Int} (e : double.read x = .number s m i) : double.read (x % 2 ^ 63) = .number false m i := by
  have hw : double.signWeight = 2 ^ 63 := rfl
  unfold Format.read at e ⊢
  simp only [hw] at e ⊢
  have e1 : x % 2 ^ 63 % 2 ^ 63 = x % 2 ^ 63 := Nat.mod_mod _ _
  have e2 : (x % 2 ^ 63 / 2 ^ 63 % 2 == 1) = false := by
    have : x % 2 ^ 63 / 2 ^ 63 = 0 := Nat.div_eq_of_lt (Nat.mod_lt _ (by decide))
    simp [this]
  rw [e1, e2]
  split at e
  · rename_i hb
    rw [if_pos hb]
    cases e; rfl
  · rename_i hb
    rw [if_neg hb]
    split at e
    · rename_i hi
      rw [if_pos hi]
      cases e; rfl
    · split at e <;> cases e
theorem abs_fin {x : Nat} (h : Fin64 x) : Fin64 (x % 2 ^ 63) ∧ sv (x % 2 ^ 63) = if sv x < 0 then - sv x else sv x := by
  obtain ⟨s, m, i, e, _⟩ := read_fin h
  have ha := abs_read e
  refine ⟨fin_of_read ha, ?_⟩
  rw [sv_eq e, sv_eq ha]
  have hnn : (0 : Int) ≤ (m : Int) * 2 ^ (i + 1074).toNat := Int.mul_nonneg (by omega) (Int.le_of_lt (pow_pos_int _))
  generalize (m : Int) * 2 ^ (i + 1074).toNat = q at hnn
  cases s <;> simp <;> omega
end Go.Ev
namespace Go.Ev
open Ieee
theorem signW : double.signWeight = 2 ^ 63 := rfl
theorem rung_num : double.infRung = 9218868437227405312 := rfl
theorem inf_read {x : Nat} (h : x % double.signWeight = double.infRung) : ∃ s, double.read x = .infinity s := by
  unfold Format.read
  simp only [h]
  exact ⟨_, rfl⟩
theorem order_inf_self {x : Nat} (h : x % double.signWeight = double.infRung) : double.order x x = some .eq := by
  obtain ⟨s, e⟩ := inf_read h
  unfold Format.order
  rw [e]
  cases s <;> rfl
theorem cmp_neq_self {x : Nat} {b : Bool} (h : fcmpV .neq .f64 x x = some (.bool b)) : b = true ↔ Nan64 x := by
  have h : (double.order x x != some .eq) = b := by
    simp only [fcmpV, Option.some.injEq, Value.bool.injEq] at h
    exact h
  rcases three x with c | c | c
  · rw [order_self c] at h
    subst h
    constructor
    · intro k; cases k
    · intro k; unfold Nan64 at k; unfold Fin64 at c; omega
  · rw [order_inf_self c] at h
    subst h
    constructor
    · intro k; cases k
    · intro k; unfold Nan64 at k; omega
  · rw [(order_nan c x).1] at h
    subst h
    exact ⟨fun _ => c, fun _ => rfl⟩
theorem abs_inf : double.order 9218868437227405312 9218868437227405311 = some .gt := by decide
theorem cmp_abs_max {x : Nat} {b : Bool} (h : fcmpV .gtr .f64 (x % 2 ^ 63) 9218868437227405311 = some (.bool b)) (hn : ¬ Nan64 x) : b = false ↔ Fin64 x := by
  have h : (double.order (x % 2 ^ 63) 9218868437227405311 == some .gt) = b := by
    simp only [fcmpV, Option.some.injEq, Value.bool.injEq] at h
    exact h
  rcases three x with c | c | c
  · have := (order_max (abs_fin c).1).1
    refine ⟨fun _ => c, fun _ => ?_⟩
    subst h
    simpa using this
  · have e : x % 2 ^ 63 = 9218868437227405312 := c
    rw [e, abs_inf] at h
    subst h
    constructor
    · intro k; cases k
    · intro k; unfold Fin64 at k; omega
  · exact (hn c).elim
theorem and_top (b : Nat) : (BitVec.ofInt 64 (b : Int) &&& ~~~BitVec.ofInt 64 9223372036854775808).toNat = b % 2 ^ 63 := by
  have e1 : ~~~BitVec.ofInt 64 9223372036854775808 = BitVec.ofNat 64 (2 ^ 63 - 1) := by decide
  have k : (BitVec.ofInt 64 (b : Int)) = BitVec.ofNat 64 b := BitVec.ofInt_ofNat 64 b
  rw [e1, k, BitVec.toNat_and, BitVec.toNat_ofNat, BitVec.toNat_ofNat, Nat.mod_eq_of_lt (a := 2 ^ 63 - 1) (by decide), Nat.and_two_pow_sub_one_eq_mod]
  omega
theorem andNot_top {b : Nat} {r : Int} (h : ibin .andNot .u64 (b : Int) 9223372036854775808 = some (.int .u64 r)) : r = ((b % 2 ^ 63 : Nat) : Int) := by
  simp only [ibin, Option.some.injEq, Value.int.injEq, true_and] at h
  subst h
  have e2 : (BitVec.ofInt IntKind.u64.bits (b : Int) &&& ~~~BitVec.ofInt IntKind.u64.bits 9223372036854775808).toNat = b % 2 ^ 63 := and_top b
  rw [e2, IntKind.wrap_u64]
  omega
theorem fbits_iv {a r : Value} (ha : a = .float .f64 (fv a)) (h : extRel .fbits [a] r) : iv r = (fv a : Nat) := by
  rw [ha] at h
  have h : r = .int .u64 (fv a : Nat) := h
  rw [h]; rfl
theorem ffrom_fv {a r : Value} (ha : a = .int .u64 (iv a)) (h : extRel .ffrom [a] r) : fv r = (iv a).toNat := by
  rw [ha] at h
  have h : r = .float .f64 (iv a).toNat := h
  rw [h]; rfl
theorem abs_of {x a b r : Value} (hx : x = .float .f64 (fv x)) (h1 : extRel .fbits [x] a) (h2 : ibin .andNot IntKind.u64 (iv a) 9223372036854775808 = some (.int IntKind.u64 (iv b))) (hb : b = .int .u64 (iv b)) (h3 : extRel .ffrom [b] r) : fv r = fv x % 2 ^ 63 := by
  have e1 := fbits_iv hx h1
  rw [e1] at h2
  have e2 := andNot_top h2
  have e3 := ffrom_fv hb h3
  rw [e3, e2]
  rfl
theorem floor_fv {x r : Value} (hx : x = .float .f64 (fv x)) (h : extRel .floor [x] r) (hf : Fin64 (fv x)) (h1 : -(2 ^ 53) < flr (fv x)) (h2 : flr (fv x) < 2 ^ 53) : Fin64 (fv r) ∧ sv (fv r) = flr (fv x) * KK := by
  rw [hx] at h
  obtain ⟨b, rfl, hb⟩ : ∃ b, r = .float .f64 b ∧ _ := h
  have hb := hb (not_nan hf)
  have k := integral_fin hf .down (toInt_down hf) h1 h2
  rw [← hb] at k
  exact k
theorem f2i_iv {y : Nat} {r n : Int} (h : (∃ n, (FloatKind.f64.decode y).toInt .zero = some n ∧ IntKind.i64.min ≤ n ∧ n ≤ IntKind.i64.max ∧ r = n) ∨ (∀ n, (FloatKind.f64.decode y).toInt .zero = some n → ¬ (IntKind.i64.min ≤ n ∧ n ≤ IntKind.i64.max)))
    (hf : Fin64 y) (e : (sv y).tdiv KK = n) (h1 : -(2 ^ 62) ≤ n) (h2 : n ≤ 2 ^ 62) : r = n := by
  have k := toInt_zero hf
  rw [e] at k
  have m1 : IntKind.i64.min = -(2 ^ 63) := rfl
  have m2 : IntKind.i64.max = 2 ^ 63 - 1 := rfl
  rcases h with ⟨m, a1, _, _, rfl⟩ | h
  · rw [k] at a1; exact (Option.some.inj a1).symm
  · exact absurd ⟨by rw [m1]; omega, by rw [m2]; omega⟩ (h n k)
theorem tdiv_KK (n : Int) : (n * KK).tdiv KK = n := Int.mul_tdiv_cancel n (by have := KK_pos; omega)
theorem num_bits {n : Int} {b : Nat} (h1 : -(2 ^ 53) ≤ n) (h2 : n ≤ 2 ^ 53) (e : FloatKind.f64.nearest n = b) : Fin64 b ∧ sv b = n * KK := by
  rw [← e]; exact nearest_int h1 h2
theorem le_flr {n : Int} {x : Nat} : n ≤ flr x ↔ n * KK ≤ sv x := Int.le_ediv_iff_mul_le KK_pos
theorem flr_lt {n : Int} {x : Nat} : flr x < n ↔ sv x < n * KK := Int.ediv_lt_iff_lt_mul KK_pos
theorem flr_of {x : Nat} {n : Int} (h : sv x = n * KK) : flr x = n := by
  have a : n ≤ flr x := le_flr.2 (by omega)
  have b : flr x < n + 1 := flr_lt.2 (by rw [Int.add_mul]; have := KK_pos; omega)
  omega
theorem cmp_lt {a b : Int} : compare a b = .lt ↔ a < b := Int.compare_eq_lt
theorem cmp_gt {a b : Int} : compare a b = .gt ↔ b < a := Int.compare_eq_gt
end Go.Ev
namespace Go.Ev
open Ieee
theorem cut_even (neg : Bool) (n d : Nat) : n / 2 ^ d ≤ Toward.even.cut neg n d ∧ Toward.even.cut neg n d ≤ n / 2 ^ d + 1 ∧ (n % 2 ^ d = 0 → Toward.even.cut neg n d = n / 2 ^ d) := by
  obtain ⟨h1, h2⟩ := pow_min_div n d
  unfold Toward.cut
  simp only [h1]
  refine ⟨Nat.le_add_right _ _, Nat.add_le_add_left (Bool.toNat_le _) _, fun h => ?_⟩
  have hz := h2.2 h
  rw [hz]
  have hg : 0 < 1 <<< min d (n.log2 + 2) := by rw [Nat.one_shiftLeft]; exact Nat.two_pow_pos _
  have e1 : decide (1 <<< min d (n.log2 + 2) < 2 * 0) = false := decide_eq_false (by omega)
  have e2 : (1 <<< min d (n.log2 + 2) == 2 * 0) = false := by rw [beq_eq_false_iff_ne]; omega
  rw [e1, e2]
  simp
theorem cut_le {neg : Bool} {n d X : Nat} (h : n ≤ X * 2 ^ d) : Toward.even.cut neg n d ≤ X := by
  obtain ⟨_, h2, h3⟩ := cut_even neg n d
  have hp := Nat.two_pow_pos d
  by_cases e : n % 2 ^ d = 0
  · rw [h3 e]; exact Nat.div_le_of_le_mul (by rw [Nat.mul_comm]; exact h)
  · have : n / 2 ^ d < X := by
      rw [Nat.div_lt_iff_lt_mul hp]
      rcases Nat.lt_or_ge n (X * 2 ^ d) with c | c
      · exact c
      · have : n = X * 2 ^ d := Nat.le_antisymm h c
        rw [this, Nat.mul_mod_left] at e
        exact (e rfl).elim
    omega
theorem le_cut {neg : Bool} {n d X : Nat} (h : X * 2 ^ d ≤ n) : X ≤ Toward.even.cut neg n d :=
  Nat.le_trans ((Nat.le_div_iff_mul_le (Nat.two_pow_pos d)).2 h) (cut_even neg n d).1
def rungN (neg : Bool) (mag P : Nat) : Nat :=
  (max (P + mag.log2 - 52) 1074 - 1074) * 2 ^ 52 + Toward.even.cut neg (mag <<< (P - max (P + mag.log2 - 52) 1074)) (max (P + mag.log2 - 52) 1074 - P)
theorem nearest_rung {neg : Bool} {mag : Nat} {place : Int} (h0 : mag ≠ 0) (hp : -2148 ≤ place) :
    double.nearest neg mag place = double.word neg (min (rungN neg mag (place + 2148).toNat) double.infRung) := by
  obtain ⟨P, hP⟩ : ∃ P : Nat, place = (P : Int) - 2148 := ⟨(place + 2148).toNat, by omega⟩
  subst hP
  have hl : max ((P : Int) - 2148 + mag.log2 - double.fractionBits) double.leastPlace = ((max (P + mag.log2 - 52) 1074 : Nat) : Int) - 2148 := by
    rw [leastPlace_eq, show double.fractionBits = 52 from rfl]
    omega
  unfold Format.nearest
  rw [if_neg h0]
  simp only [hl]
  have e0 : ((P : Int) - 2148 + 2148).toNat = P := by omega
  have e1 : ((P : Int) - 2148 - (((max (P + mag.log2 - 52) 1074 : Nat) : Int) - 2148)).toNat = P - max (P + mag.log2 - 52) 1074 := by omega
  have e2 : (((max (P + mag.log2 - 52) 1074 : Nat) : Int) - 2148 - ((P : Int) - 2148)).toNat = max (P + mag.log2 - 52) 1074 - P := by omega
  have e3 : (((max (P + mag.log2 - 52) 1074 : Nat) : Int) - 2148 - double.leastPlace).toNat = max (P + mag.log2 - 52) 1074 - 1074 := by rw [leastPlace_eq]; omega
  rw [e0, e1, e2, e3, binade_eq]
  rfl
theorem shift_drop (mag P l : Nat) : (mag <<< (P - l)) * 2 ^ l = mag * 2 ^ P * 2 ^ (l - P) := by
  rw [Nat.shiftLeft_eq]
  rcases Nat.le_total l P with h | h
  · rw [show l - P = 0 by omega, Nat.pow_zero, Nat.mul_one, Nat.mul_assoc, ← Nat.pow_add, show P - l + l = P by omega]
  · rw [show P - l = 0 by omega, Nat.pow_zero, Nat.mul_one, Nat.mul_assoc, ← Nat.pow_add, show P + (l - P) = l by omega]
theorem mul_pow_le {a b k : Nat} (h : a * 2 ^ k ≤ b * 2 ^ k) : a ≤ b := Nat.le_of_mul_le_mul_right h (Nat.two_pow_pos k)
theorem pow_le_pow' {a b : Nat} (h : a ≤ b) : 2 ^ a ≤ 2 ^ b := Nat.pow_le_pow_right (by decide) h
theorem rung_up {neg : Bool} {mag P m Q : Nat} (h0 : mag ≠ 0) (hm1 : 2 ^ 52 ≤ m) (hm2 : m < 2 ^ 53) (hQ : 1074 ≤ Q) (h : mag * 2 ^ P ≤ m * 2 ^ Q) : rungN neg mag P ≤ (Q - 1074) * 2 ^ 52 + m := by
  have hself := Nat.log2_self_le h0
  have hlt := Nat.lt_log2_self (n := mag)
  unfold rungN
  generalize hL : mag.log2 = L at *
  generalize hl : max (P + L - 52) 1074 = l
  have hn := shift_drop mag P l
  generalize mag <<< (P - l) = n at hn
  generalize l - P = d at hn
  rcases Nat.lt_trichotomy l Q with c | c | c
  · have k : Toward.even.cut neg n d ≤ 2 ^ 53 := by
      refine cut_le (mul_pow_le (k := l) ?_)
      rw [hn, Nat.mul_right_comm (2 ^ 53)]
      refine Nat.mul_le_mul_right _ ?_
      have a : mag * 2 ^ P ≤ 2 ^ (L + 1) * 2 ^ P := Nat.mul_le_mul_right _ (Nat.le_of_lt hlt)
      rw [← Nat.pow_add] at a
      rw [← Nat.pow_add]
      exact Nat.le_trans a (pow_le_pow' (by omega))
    omega
  · subst c
    have k : Toward.even.cut neg n d ≤ m := by
      refine cut_le (mul_pow_le (k := l) ?_)
      rw [hn, Nat.mul_right_comm m]
      exact Nat.mul_le_mul_right _ h
    omega
  · exfalso
    have a : 2 ^ L * 2 ^ P ≤ mag * 2 ^ P := Nat.mul_le_mul_right _ hself
    have b : m * 2 ^ Q < 2 ^ 53 * 2 ^ Q := Nat.mul_lt_mul_of_pos_right hm2 (Nat.two_pow_pos Q)
    rw [← Nat.pow_add] at a b
    have e : 2 ^ (53 + Q) ≤ 2 ^ (L + P) := pow_le_pow' (by omega)
    omega
theorem rung_down {neg : Bool} {mag P m Q : Nat} (h0 : mag ≠ 0) (hm1 : 2 ^ 52 ≤ m) (hm2 : m < 2 ^ 53) (hQ : 1074 ≤ Q) (h : m * 2 ^ Q ≤ mag * 2 ^ P) : (Q - 1074) * 2 ^ 52 + m ≤ rungN neg mag P := by
  have hself := Nat.log2_self_le h0
  have hlt := Nat.lt_log2_self (n := mag)
  unfold rungN
  generalize hL : mag.log2 = L at *
  have q : Q ≤ P + L - 52 := by
    have a : mag * 2 ^ P < 2 ^ (L + 1) * 2 ^ P := Nat.mul_lt_mul_of_pos_right hlt (Nat.two_pow_pos P)
    have b : 2 ^ 52 * 2 ^ Q ≤ m * 2 ^ Q := Nat.mul_le_mul_right _ hm1
    rw [← Nat.pow_add] at a b
    have e : 2 ^ (52 + Q) < 2 ^ (L + 1 + P) := by omega
    have := (Nat.pow_lt_pow_iff_right (a := 2) (by decide)).1 e
    omega
  generalize hl : max (P + L - 52) 1074 = l
  have hn := shift_drop mag P l
  generalize mag <<< (P - l) = n at hn
  generalize l - P = d at hn
  rcases Nat.lt_or_eq_of_le (show Q ≤ l by omega) with c | c
  · have k : 2 ^ 52 ≤ Toward.even.cut neg n d := by
      refine le_cut (mul_pow_le (k := l) ?_)
      rw [hn, Nat.mul_right_comm]
      refine Nat.mul_le_mul_right _ ?_
      have a : 2 ^ L * 2 ^ P ≤ mag * 2 ^ P := Nat.mul_le_mul_right _ hself
      rw [← Nat.pow_add] at a
      rw [← Nat.pow_add]
      exact Nat.le_trans (pow_le_pow' (by omega)) a
    omega
  · subst c
    have k : m ≤ Toward.even.cut neg n d := by
      refine le_cut (mul_pow_le (k := Q) ?_)
      rw [hn, Nat.mul_right_comm]
      exact Nat.mul_le_mul_right _ h
    omega
def rv (r : Nat) : Nat := if r < 2 ^ 52 then r else (2 ^ 52 + r % 2 ^ 52) * 2 ^ (r / 2 ^ 52 - 1)
theorem word_sv {neg : Bool} {r : Nat} (hr : r < double.infRung) : Fin64 (double.word neg r) ∧ sv (double.word neg r) = (if neg then -1 else 1) * (rv r : Int) := by
  have k := read_word (neg := neg) hr
  rw [binade_eq] at k
  by_cases c : r < 2 ^ 52
  · rw [if_pos c] at k
    refine ⟨fin_of_read k, ?_⟩
    rw [sv_eq k, leastPlace_eq]
    unfold rv
    rw [if_pos c]
    simp
  · rw [if_neg c] at k
    refine ⟨fin_of_read k, ?_⟩
    rw [sv_eq k, leastPlace_eq]
    unfold rv
    rw [if_neg c]
    have : ((-1074 : Int) + ((r / 2 ^ 52 - 1 : Nat) : Int) + 1074).toNat = r / 2 ^ 52 - 1 := by omega
    rw [this, Int.natCast_mul, Int.natCast_pow]
    rfl
theorem rv_mono {a b : Nat} (h : a ≤ b) : rv a ≤ rv b := by
  unfold rv
  have ha := Nat.mod_lt a (show 0 < 2 ^ 52 by decide)
  split
  · rename_i c
    split
    · exact h
    · have : 2 ^ 52 ≤ (2 ^ 52 + b % 2 ^ 52) * 2 ^ (b / 2 ^ 52 - 1) := Nat.le_trans (Nat.le_add_right _ _) (Nat.le_mul_of_pos_right _ (Nat.two_pow_pos _))
      omega
  · rename_i c
    rw [if_neg (by omega)]
    rcases Nat.lt_or_eq_of_le (Nat.div_le_div_right (c := 2 ^ 52) h) with e | e
    · have k1 : (2 ^ 52 + a % 2 ^ 52) * 2 ^ (a / 2 ^ 52 - 1) ≤ 2 ^ 53 * 2 ^ (a / 2 ^ 52 - 1) := Nat.mul_le_mul_right _ (by omega)
      have k2 : 2 ^ 52 * 2 ^ (b / 2 ^ 52 - 1) ≤ (2 ^ 52 + b % 2 ^ 52) * 2 ^ (b / 2 ^ 52 - 1) := Nat.mul_le_mul_right _ (by omega)
      rw [← Nat.pow_add] at k1 k2
      have : 1 ≤ a / 2 ^ 52 := by omega
      exact Nat.le_trans k1 (Nat.le_trans (pow_le_pow' (by omega)) k2)
    · rw [e]
      exact Nat.mul_le_mul_right _ (by omega)
theorem rv_norm {m q : Nat} (hm1 : 2 ^ 52 ≤ m) (hm2 : m < 2 ^ 53) : rv (q * 2 ^ 52 + m) = m * 2 ^ q := by
  unfold rv
  rw [if_neg (by omega)]
  have e1 : (q * 2 ^ 52 + m) % 2 ^ 52 = m - 2 ^ 52 := by omega
  have e2 : (q * 2 ^ 52 + m) / 2 ^ 52 = q + 1 := by omega
  rw [e1, e2, show 2 ^ 52 + (m - 2 ^ 52) = m by omega, Nat.add_sub_cancel]
theorem round_up {neg : Bool} {mag : Nat} {place : Int} {m q : Nat} (h0 : mag ≠ 0) (hp : -2148 ≤ place) (hm1 : 2 ^ 52 ≤ m) (hm2 : m < 2 ^ 53) (hq : q < 2046) (h : mag * 2 ^ (place + 2148).toNat ≤ m * 2 ^ (q + 1074)) :
    ∃ a : Nat, Fin64 (double.nearest neg mag place) ∧ sv (double.nearest neg mag place) = (if neg then -1 else 1) * (a : Int) ∧ a ≤ m * 2 ^ q := by
  have k := rung_up (neg := neg) h0 hm1 hm2 (Nat.le_add_left 1074 q) h
  rw [Nat.add_sub_cancel] at k
  have hr : rungN neg mag (place + 2148).toNat < double.infRung := by rw [infRung_eq]; omega
  rw [nearest_rung h0 hp, Nat.min_eq_left (Nat.le_of_lt hr)]
  obtain ⟨h1, h2⟩ := word_sv (neg := neg) hr
  refine ⟨_, h1, h2, ?_⟩
  have := rv_mono k
  rwa [rv_norm hm1 hm2] at this
theorem round_down {neg : Bool} {mag : Nat} {place : Int} {m q : Nat} (h0 : mag ≠ 0) (hp : -2148 ≤ place) (hm1 : 2 ^ 52 ≤ m) (hm2 : m < 2 ^ 53) (h : m * 2 ^ (q + 1074) ≤ mag * 2 ^ (place + 2148).toNat) :
    (∃ a : Nat, Fin64 (double.nearest neg mag place) ∧ sv (double.nearest neg mag place) = (if neg then -1 else 1) * (a : Int) ∧ m * 2 ^ q ≤ a) ∨ double.nearest neg mag place = double.word neg double.infRung := by
  have k := rung_down (neg := neg) h0 hm1 hm2 (Nat.le_add_left 1074 q) h
  rw [Nat.add_sub_cancel] at k
  rw [nearest_rung h0 hp]
  rcases Nat.lt_or_ge (rungN neg mag (place + 2148).toNat) double.infRung with hr | hr
  · left
    rw [Nat.min_eq_left (Nat.le_of_lt hr)]
    obtain ⟨h1, h2⟩ := word_sv (neg := neg) hr
    refine ⟨_, h1, h2, ?_⟩
    have := rv_mono k
    rwa [rv_norm hm1 hm2] at this
  · right
    rw [Nat.min_eq_right hr]
end Go.Ev
namespace Go.Ev
open Ieee
theorem word_zero (neg : Bool) : Fin64 (double.word neg 0) ∧ sv (double.word neg 0) = 0 := by
  obtain ⟨h1, h2⟩ := word_sv (neg := neg) (r := 0) (by decide)
  refine ⟨h1, ?_⟩
  rw [h2]
  have : rv 0 = 0 := by decide
  rw [this]
  cases neg <;> rfl
theorem nearest_zero (neg : Bool) (place : Int) : double.nearest neg 0 place = double.word neg 0 := by
  unfold Format.nearest; rw [if_pos rfl]
theorem fin_parts {x : Nat} (h : Fin64 x) : ∃ s m i, double.read x = .number s m i ∧ (-1074 : Int) ≤ i ∧ sv x = signed s m (i + 1074).toNat := by
  obtain ⟨s, m, i, e, _, h2, _⟩ := read_fin h
  rw [leastPlace_eq] at h2
  exact ⟨s, m, i, e, h2, by rw [sv_eq e, signed_eq]⟩
theorem signed_neg (s : Bool) (m k : Nat) : signed (!s) m k = - signed s m k := by
  rw [signed_eq, signed_eq]; cases s <;> simp
theorem sum_round {s t : Bool} {m n : Nat} {i j : Int} (hi : -1074 ≤ i) (hj : -1074 ≤ j) {S : Int} (hS : S = signed s m (i + 1074).toNat + signed t n (j + 1074).toNat) :
    ∃ neg mag place, (Datum.number s m i).sum (.number t n j) = some (.number neg mag place) ∧ (-1074 : Int) ≤ place ∧ mag * 2 ^ (place + 1074).toNat = S.natAbs ∧ (S ≠ 0 → neg = decide (S < 0)) := by
  have e1 : (i + 1074).toNat = (i - min i j).toNat + (min i j + 1074).toNat := by omega
  have e2 : (j + 1074).toNat = (j - min i j).toNat + (min i j + 1074).toNat := by omega
  rw [e1, e2, signed_mul, signed_mul, ← Int.add_mul] at hS
  refine ⟨_, _, _, rfl, by omega, ?_, ?_⟩
  · rw [hS, Int.natAbs_mul, Int.natAbs_pow]; rfl
  · intro h0
    have hp := pow_pos_int (min i j + 1074).toNat
    rw [hS] at h0 ⊢
    generalize signed s m (i - min i j).toNat + signed t n (j - min i j).toNat = T at *
    have hT : T ≠ 0 := fun h => h0 (by rw [h, Int.zero_mul])
    simp only [if_neg hT]
    rcases Int.lt_trichotomy T 0 with c | c | c
    · have : T * 2 ^ (min i j + 1074).toNat < 0 := Int.mul_neg_of_neg_of_pos c hp
      simp [c, this]
    · exact (hT c).elim
    · have : 0 < T * 2 ^ (min i j + 1074).toNat := Int.mul_pos c hp
      rw [decide_eq_false (by omega), decide_eq_false (by omega)]
theorem add_data {x y : Nat} (hx : Fin64 x) (hy : Fin64 y) : ∃ neg mag place, double.add x y = some (double.nearest neg mag place) ∧ (-1074 : Int) ≤ place ∧ mag * 2 ^ (place + 1074).toNat = (sv x + sv y).natAbs ∧ (sv x + sv y ≠ 0 → neg = decide (sv x + sv y < 0)) := by
  obtain ⟨s, m, i, e1, h1, k1⟩ := fin_parts hx
  obtain ⟨t, n, j, e2, h2, k2⟩ := fin_parts hy
  obtain ⟨neg, mag, place, h, r⟩ := sum_round (s := s) (t := t) (m := m) (n := n) h1 h2 (S := sv x + sv y) (by rw [k1, k2])
  refine ⟨neg, mag, place, ?_, r⟩
  unfold Format.add
  rw [e1, e2, h]
  rfl
theorem sub_data {x y : Nat} (hx : Fin64 x) (hy : Fin64 y) : ∃ neg mag place, double.sub x y = some (double.nearest neg mag place) ∧ (-1074 : Int) ≤ place ∧ mag * 2 ^ (place + 1074).toNat = (sv x - sv y).natAbs ∧ (sv x - sv y ≠ 0 → neg = decide (sv x - sv y < 0)) := by
  obtain ⟨s, m, i, e1, h1, k1⟩ := fin_parts hx
  obtain ⟨t, n, j, e2, h2, k2⟩ := fin_parts hy
  obtain ⟨neg, mag, place, h, r⟩ := sum_round (s := s) (t := !t) (m := m) (n := n) h1 h2 (S := sv x - sv y) (by rw [k1, k2, signed_neg]; omega)
  refine ⟨neg, mag, place, ?_, r⟩
  unfold Format.sub
  rw [e1, e2]
  show ((Datum.number s m i).sum (.number (!t) n j)).map double.write = _
  rw [h]
  rfl
theorem signed_abs (s : Bool) (m k : Nat) : (signed s m k).natAbs = m * 2 ^ k := by
  rw [signed_eq, Int.natAbs_mul, Int.natAbs_mul, Int.natAbs_pow]
  cases s <;> simp
theorem mul_data {x y : Nat} (hx : Fin64 x) (hy : Fin64 y) : ∃ neg mag place, double.mul x y = some (double.nearest neg mag place) ∧ (-2148 : Int) ≤ place ∧ mag * 2 ^ (place + 2148).toNat = (sv x * sv y).natAbs ∧ (sv x * sv y ≠ 0 → neg = decide (sv x * sv y < 0)) := by
  obtain ⟨s, m, i, e1, h1, k1⟩ := fin_parts hx
  obtain ⟨t, n, j, e2, h2, k2⟩ := fin_parts hy
  refine ⟨s ^^ t, m * n, i + j, ?_, by omega, ?_, ?_⟩
  · unfold Format.mul
    rw [e1, e2]
    rfl
  · rw [Int.natAbs_mul, k1, k2, signed_abs, signed_abs, show (i + j + 2148).toNat = (i + 1074).toNat + (j + 1074).toNat by omega, Nat.pow_add]
    simp only [Nat.mul_assoc, Nat.mul_left_comm]
  · intro h0
    rw [k1, k2, signed_eq, signed_eq] at h0 ⊢
    generalize ha : (m : Int) * 2 ^ (i + 1074).toNat = a at *
    generalize hb : (n : Int) * 2 ^ (j + 1074).toNat = b at *
    have a0 : 0 ≤ a := by rw [← ha]; exact Int.mul_nonneg (by omega) (Int.le_of_lt (pow_pos_int _))
    have b0 : 0 ≤ b := by rw [← hb]; exact Int.mul_nonneg (by omega) (Int.le_of_lt (pow_pos_int _))
    have p0 : 0 ≤ a * b := Int.mul_nonneg a0 b0
    cases s <;> cases t <;> simp only [Bool.xor_false, Bool.xor_true, Bool.not_true, Bool.not_false, if_true, if_false, Bool.false_eq_true, Int.one_mul, Int.neg_mul, Int.mul_neg, Int.neg_neg] at h0 ⊢
    · exact (decide_eq_false (by omega)).symm
    · exact (decide_eq_true (by omega)).symm
    · exact (decide_eq_true (by omega)).symm
    · exact (decide_eq_false (by omega)).symm
section
variable {neg : Bool} {mag : Nat} {place : Int} {V : Int}
theorem up_of {m q : Nat} (hp : -2148 ≤ place) (hv : mag * 2 ^ (place + 2148).toNat = V.natAbs) (hm1 : 2 ^ 52 ≤ m) (hm2 : m < 2 ^ 53) (hq : q < 2046) (h : V.natAbs ≤ m * 2 ^ (q + 1074)) :
    Fin64 (double.nearest neg mag place) ∧ (sv (double.nearest neg mag place)).natAbs ≤ m * 2 ^ q := by
  by_cases h0 : mag = 0
  · subst h0
    rw [nearest_zero]
    obtain ⟨k1, k2⟩ := word_zero neg
    rw [k2]
    exact ⟨k1, Nat.zero_le _⟩
  · obtain ⟨a, k1, k2, k3⟩ := round_up (neg := neg) h0 hp hm1 hm2 hq (by rw [hv]; exact h)
    refine ⟨k1, ?_⟩
    rw [k2]
    cases neg <;> simp <;> exact k3
theorem down_of {m q : Nat} (hp : -2148 ≤ place) (hv : mag * 2 ^ (place + 2148).toNat = V.natAbs) (hneg : V ≠ 0 → neg = decide (V < 0)) (hm1 : 2 ^ 52 ≤ m) (hm2 : m < 2 ^ 53) (h : m * 2 ^ (q + 1074) ≤ V.natAbs) :
    (Fin64 (double.nearest neg mag place) ∧ ((0 < V ∧ ((m * 2 ^ q : Nat) : Int) ≤ sv (double.nearest neg mag place)) ∨ (V < 0 ∧ sv (double.nearest neg mag place) ≤ -((m * 2 ^ q : Nat) : Int)))) ∨ double.nearest neg mag place = double.word (decide (V < 0)) double.infRung := by
  have mp : 0 < m * 2 ^ (q + 1074) := Nat.mul_pos (Nat.lt_of_lt_of_le (by decide) hm1) (Nat.two_pow_pos _)
  have v0 : V ≠ 0 := by omega
  have hn := hneg v0
  have h0 : mag ≠ 0 := fun e => by rw [e, Nat.zero_mul] at hv; omega
  rcases round_down (neg := neg) h0 hp hm1 hm2 (by rw [hv]; exact h) with ⟨a, k1, k2, k3⟩ | k
  · left
    refine ⟨k1, ?_⟩
    rw [k2]
    rcases Int.lt_trichotomy V 0 with c | c | c
    · right
      rw [decide_eq_true c] at hn
      subst hn
      exact ⟨c, by simp only [if_true]; omega⟩
    · exact (v0 c).elim
    · left
      rw [decide_eq_false (by omega)] at hn
      subst hn
      exact ⟨c, by simp only [Bool.false_eq_true, if_false]; omega⟩
  · right
    rw [k, hn]
theorem exact_of {m q : Nat} (hp : -2148 ≤ place) (hv : mag * 2 ^ (place + 2148).toNat = V.natAbs) (hneg : V ≠ 0 → neg = decide (V < 0)) (hm1 : 2 ^ 52 ≤ m) (hm2 : m < 2 ^ 53) (hq : q < 2046) (h : V.natAbs = m * 2 ^ (q + 1074)) :
    Fin64 (double.nearest neg mag place) ∧ (0 < V → sv (double.nearest neg mag place) = ((m * 2 ^ q : Nat) : Int)) ∧ (V < 0 → sv (double.nearest neg mag place) = -((m * 2 ^ q : Nat) : Int)) := by
  obtain ⟨k1, k2⟩ := up_of (neg := neg) hp hv hm1 hm2 hq (Nat.le_of_eq h)
  refine ⟨k1, ?_⟩
  rcases down_of hp hv hneg hm1 hm2 (Nat.le_of_eq h.symm) with ⟨_, c⟩ | c
  · constructor
    · intro hV; omega
    · intro hV; omega
  · rw [c] at k1
    exfalso
    unfold Fin64 at k1
    have : ∀ b : Bool, double.word b double.infRung % double.signWeight = double.infRung := by decide
    rw [this] at k1
    omega
end
theorem KK_abs : KK.natAbs = 2 ^ 1074 := by
  have e : Int.natAbs 2 = 2 := rfl
  unfold KK
  rw [Int.natAbs_pow, e]
theorem to2148 {mag : Nat} {place S : Int} (hp : (-1074 : Int) ≤ place) (h : mag * 2 ^ (place + 1074).toNat = S.natAbs) : mag * 2 ^ (place + 2148).toNat = (S * KK).natAbs := by
  have e : (place + 2148).toNat = (place + 1074).toNat + 1074 := by omega
  rw [e, Nat.pow_add, ← Nat.mul_assoc, h, Int.natAbs_mul, KK_abs]
theorem sgn_KK {S : Int} {neg : Bool} (h : S ≠ 0 → neg = decide (S < 0)) : S * KK ≠ 0 → neg = decide (S * KK < 0) := fun h0 => by
  have hp := KK_pos
  have hS : S ≠ 0 := fun e => h0 (by rw [e, Int.zero_mul])
  rw [h hS]
  rcases Int.lt_trichotomy S 0 with c | c | c
  · have := Int.mul_neg_of_neg_of_pos c hp
    rw [decide_eq_true c, decide_eq_true this]
  · exact (hS c).elim
  · have := Int.mul_pos c hp
    rw [decide_eq_false (by omega), decide_eq_false (by omega)]
theorem shift1 (k : Nat) : 2 ^ 53 * 2 ^ k = 2 ^ 52 * 2 ^ (k + 1) := by rw [Nat.pow_succ]; omega
theorem int_norm {c : Nat} (h0 : c ≠ 0) (h : c ≤ 2 ^ 53) : ∃ m q, 2 ^ 52 ≤ m ∧ m < 2 ^ 53 ∧ q < 2046 ∧ c * 2 ^ 1074 = m * 2 ^ q := by
  rcases Nat.lt_or_eq_of_le h with h | h
  · have hl := log2_lt h0 h
    have hself := Nat.log2_self_le h0
    have hlt := Nat.lt_log2_self (n := c)
    generalize c.log2 = L at *
    refine ⟨c * 2 ^ (52 - L), 1074 - (52 - L), ?_, ?_, by omega, ?_⟩
    · have := Nat.mul_le_mul_right (2 ^ (52 - L)) hself
      rwa [← Nat.pow_add, show L + (52 - L) = 52 by omega] at this
    · have := Nat.mul_lt_mul_of_pos_right hlt (Nat.two_pow_pos (52 - L))
      rwa [← Nat.pow_add, show L + 1 + (52 - L) = 53 by omega] at this
    · rw [Nat.mul_assoc, ← Nat.pow_add, show 52 - L + (1074 - (52 - L)) = 1074 by omega]
  · subst h
    refine ⟨2 ^ 52, 1074 + 1, Nat.le_refl _, by decide, by decide, ?_⟩
    exact shift1 1074
theorem int_of_data {neg : Bool} {mag : Nat} {place S c : Int} (hp : (-1074 : Int) ≤ place) (hv : mag * 2 ^ (place + 1074).toNat = S.natAbs) (hneg : S ≠ 0 → neg = decide (S < 0)) (hS : S = c * KK) (h1 : -(2 ^ 53) ≤ c) (h2 : c ≤ 2 ^ 53) :
    Fin64 (double.nearest neg mag place) ∧ sv (double.nearest neg mag place) = c * KK := by
  by_cases h0 : c = 0
  · subst h0
    rw [Int.zero_mul] at hS ⊢
    subst hS
    have : mag = 0 := by
      rcases Nat.mul_eq_zero.1 hv with h | h
      · exact h
      · have := Nat.two_pow_pos (place + 1074).toNat; omega
    subst this
    rw [nearest_zero]
    exact word_zero neg
  · obtain ⟨m, q, k1, k2, k3, k4⟩ := int_norm (c := c.natAbs) (by omega) (by omega)
    have hA : S.natAbs = m * 2 ^ q := by rw [hS, Int.natAbs_mul, KK_abs, k4]
    have hV : (S * KK).natAbs = m * 2 ^ (q + 1074) := by rw [Int.natAbs_mul, hA, KK_abs, Nat.pow_add, Nat.mul_assoc]
    obtain ⟨r1, r2, r3⟩ := exact_of (by omega) (to2148 hp hv) (sgn_KK hneg) k1 k2 k3 hV
    refine ⟨r1, ?_⟩
    have hKp := KK_pos
    rcases Int.lt_trichotomy S 0 with c0 | c0 | c0
    · rw [r3 (Int.mul_neg_of_neg_of_pos c0 hKp), ← hA, ← hS]; omega
    · rw [c0] at hS
      rcases Int.mul_eq_zero.1 hS.symm with h | h
      · exact (h0 h).elim
      · omega
    · rw [r2 (Int.mul_pos c0 hKp), ← hA, ← hS]; omega
theorem sub_int {x y : Nat} {a b : Int} (hx : Fin64 x) (hy : Fin64 y) (ha : sv x = a * KK) (hb : sv y = b * KK) (h1 : -(2 ^ 53) ≤ a - b) (h2 : a - b ≤ 2 ^ 53) : ∃ r, double.sub x y = some r ∧ Fin64 r ∧ sv r = (a - b) * KK := by
  obtain ⟨neg, mag, place, h, hp, hv, hn⟩ := sub_data hx hy
  exact ⟨_, h, int_of_data hp hv hn (by rw [ha, hb, Int.sub_mul]) h1 h2⟩
end Go.Ev
namespace Go.Ev
open Ieee
theorem rv_step (r : Nat) : rv r < rv (r + 1) := by
  unfold rv
  by_cases h : r < 2 ^ 52
  · rw [if_pos h]
    by_cases h' : r + 1 < 2 ^ 52
    · rw [if_pos h']; omega
    · rw [if_neg h']
      have : r + 1 = 2 ^ 52 := by omega
      rw [this]
      have : (2 ^ 52 + 2 ^ 52 % 2 ^ 52) * 2 ^ (2 ^ 52 / 2 ^ 52 - 1) = 2 ^ 52 := by decide
      omega
  · have h' : ¬ r + 1 < 2 ^ 52 := by omega
    rw [if_neg h, if_neg h']
    have hd := Nat.div_add_mod r (2 ^ 52)
    have hm := Nat.mod_lt r (show 0 < 2 ^ 52 by decide)
    have h1 : 1 ≤ r / 2 ^ 52 := (Nat.le_div_iff_mul_le (by decide)).2 (by omega)
    by_cases hc : r % 2 ^ 52 + 1 < 2 ^ 52
    · have e1 : (r + 1) % 2 ^ 52 = r % 2 ^ 52 + 1 := by omega
      have e2 : (r + 1) / 2 ^ 52 = r / 2 ^ 52 := by omega
      rw [e1, e2]
      exact Nat.mul_lt_mul_of_pos_right (by omega) (Nat.two_pow_pos _)
    · have e1 : (r + 1) % 2 ^ 52 = 0 := by omega
      have e2 : (r + 1) / 2 ^ 52 = r / 2 ^ 52 + 1 := by omega
      rw [e1, e2, show r / 2 ^ 52 + 1 - 1 = (r / 2 ^ 52 - 1) + 1 by omega, Nat.pow_succ 2 (r / 2 ^ 52 - 1), Nat.add_zero]
      have hp := Nat.two_pow_pos (r / 2 ^ 52 - 1)
      generalize 2 ^ (r / 2 ^ 52 - 1) = p at *
      have a : (2 ^ 52 + r % 2 ^ 52) * p < 2 ^ 53 * p := Nat.mul_lt_mul_of_pos_right (by omega) hp
      have b : 2 ^ 53 * p = 2 ^ 52 * (p * 2) := by omega
      exact Nat.lt_of_lt_of_eq a b
theorem rv_lt {a b : Nat} (h : a < b) : rv a < rv b := Nat.lt_of_lt_of_le (rv_step a) (rv_mono h)
theorem rv_inj {a b : Nat} (h : rv a = rv b) : a = b := by
  rcases Nat.lt_trichotomy a b with c | c | c
  · have := rv_lt c; omega
  · exact c
  · have := rv_lt c; omega
theorem rv_zero : rv 0 = 0 := by decide
theorem word_val (neg : Bool) (r : Nat) : double.word neg r = if neg then 2 ^ 63 + r else r := rfl
theorem infRung_val : double.infRung = 9218868437227405312 := by decide
theorem word_of {x : Nat} (h : x < 2 ^ 64) : x = double.word (decide (2 ^ 63 ≤ x)) (x % 2 ^ 63) := by
  rw [word_val]
  by_cases c : 2 ^ 63 ≤ x
  · rw [decide_eq_true c]; simp only [if_true]; omega
  · rw [decide_eq_false c]; simp only [Bool.false_eq_true, if_false]; omega
theorem fin_rung {x : Nat} (h : Fin64 x) : x % 2 ^ 63 < double.infRung := h
theorem sv_word {x : Nat} (hx : Fin64 x) (h : x < 2 ^ 64) : sv x = (if 2 ^ 63 ≤ x then -1 else 1) * (rv (x % 2 ^ 63) : Int) := by
  have := (word_sv (neg := decide (2 ^ 63 ≤ x)) (fin_rung hx)).2
  rw [← word_of h] at this
  rw [this]
  by_cases c : 2 ^ 63 ≤ x
  · rw [decide_eq_true c, if_pos c]; rfl
  · rw [decide_eq_false c, if_neg c]; rfl
theorem sv_inj {x y : Nat} (hx : Fin64 x) (hy : Fin64 y) (h1 : x < 2 ^ 64) (h2 : y < 2 ^ 64) (h : sv x = sv y) (h0 : sv x ≠ 0) : x = y := by
  rw [sv_word hx h1] at h h0
  rw [sv_word hy h2] at h
  have e : (2 ^ 63 ≤ x ↔ 2 ^ 63 ≤ y) ∧ rv (x % 2 ^ 63) = rv (y % 2 ^ 63) := by
    generalize rv (x % 2 ^ 63) = u at *
    generalize rv (y % 2 ^ 63) = v at *
    by_cases c : 2 ^ 63 ≤ x <;> by_cases d : 2 ^ 63 ≤ y
    · rw [if_pos c, if_pos d] at h; exact ⟨⟨fun _ => d, fun _ => c⟩, by omega⟩
    · rw [if_pos c, if_neg d] at h; rw [if_pos c] at h0; omega
    · rw [if_neg c, if_pos d] at h; rw [if_neg c] at h0; omega
    · rw [if_neg c, if_neg d] at h; exact ⟨⟨fun h => (c h).elim, fun h => (d h).elim⟩, by omega⟩
  have e2 := rv_inj e.2
  by_cases c : 2 ^ 63 ≤ x
  · have := e.1.1 c; omega
  · have : ¬ 2 ^ 63 ≤ y := fun h => c (e.1.2 h)
    omega
theorem sv_nought {x : Nat} (hx : Fin64 x) (h1 : x < 2 ^ 64) (h : sv x = 0) : x = 0 ∨ x = 2 ^ 63 := by
  rw [sv_word hx h1] at h
  have : rv (x % 2 ^ 63) = 0 := by
    by_cases c : 2 ^ 63 ≤ x <;> simp only [c, if_true, if_false] at h <;> omega
  have : x % 2 ^ 63 = 0 := rv_inj (by rw [this, rv_zero])
  omega
theorem nearest_lt (neg : Bool) (mag : Nat) (place : Int) : double.nearest neg mag place < 2 ^ 64 := by
  unfold Format.nearest
  split
  · rw [word_val]; split <;> omega
  · rw [word_val]
    have := infRung_val
    split <;> omega
theorem near_eq (n : Int) : FloatKind.f64.nearest n = double.nearest (decide (n < 0)) n.natAbs 0 := rfl
theorem near_zero : FloatKind.f64.nearest 0 = 0 := by rw [near_eq]; decide
theorem near_lt (n : Int) : FloatKind.f64.nearest n < 2 ^ 64 := by rw [near_eq]; exact nearest_lt _ _ _
theorem WholeF.near {n : Int} (h1 : -(2 ^ 53) ≤ n) (h2 : n ≤ 2 ^ 53) : WholeF n (FloatKind.f64.nearest n) := ⟨h1, h2, .inl rfl⟩
theorem m0_fin : Fin64 (2 ^ 63) ∧ sv (2 ^ 63) = 0 := by
  have h : (2 : Nat) ^ 63 = double.word true 0 := by decide
  rw [h]; exact word_zero true
theorem whole_sv {n : Int} {f : Nat} (h : WholeF n f) : Fin64 f ∧ sv f = n * KK ∧ f < 2 ^ 64 := by
  obtain ⟨h1, h2, rfl | ⟨rfl, rfl⟩⟩ := h
  · obtain ⟨a, b⟩ := nearest_int h1 h2; exact ⟨a, b, near_lt n⟩
  · exact ⟨m0_fin.1, by rw [m0_fin.2, Int.zero_mul], by decide⟩
theorem whole_of {n : Int} {f : Nat} (hf : Fin64 f) (hs : sv f = n * KK) (h : f < 2 ^ 64) (h1 : -(2 ^ 53) ≤ n) (h2 : n ≤ 2 ^ 53) : WholeF n f := by
  refine ⟨h1, h2, ?_⟩
  by_cases h0 : n = 0
  · subst h0
    rw [Int.zero_mul] at hs
    rcases sv_nought hf h hs with rfl | rfl
    · exact .inl near_zero.symm
    · exact .inr ⟨rfl, rfl⟩
  · obtain ⟨a, b⟩ := nearest_int h1 h2
    left
    refine sv_inj hf a h (near_lt n) (by rw [hs, b]) ?_
    rw [hs]
    intro e
    rcases Int.mul_eq_zero.1 e with c | c
    · exact h0 c
    · have := KK_pos; omega
theorem WholeF.exact {n : Int} {f : Nat} (h : WholeF n f) (h0 : n ≠ 0) : f = FloatKind.f64.nearest n := by
  obtain ⟨_, _, e | ⟨e, _⟩⟩ := h
  · exact e
  · exact (h0 e).elim
theorem near_read {n : Int} (h0 : n ≠ 0) (h1 : -(2 ^ 53) ≤ n) (h2 : n ≤ 2 ^ 53) : ∃ m i, double.read (FloatKind.f64.nearest n) = .number (decide (n < 0)) m i ∧ (-1074 : Int) ≤ i ∧ n * KK = signed (decide (n < 0)) m (i + 1074).toNat := by
  obtain ⟨hf, hs⟩ := nearest_int h1 h2
  obtain ⟨s, m, i, e, hi, hv⟩ := fin_parts hf
  rw [hs] at hv
  have hK := KK_pos
  have hsg : s = decide (n < 0) := by
    rw [signed_eq] at hv
    have hp := pow_pos_int (i + 1074).toNat
    have hm : (0 : Int) ≤ (m : Int) * 2 ^ (i + 1074).toNat := Int.mul_nonneg (by omega) (by omega)
    rcases Int.lt_trichotomy n 0 with c | c | c
    · have := Int.mul_neg_of_neg_of_pos c hK
      rw [decide_eq_true c]
      cases s
      · simp at hv; omega
      · rfl
    · exact (h0 c).elim
    · have := Int.mul_pos c hK
      rw [decide_eq_false (by omega)]
      cases s
      · rfl
      · simp at hv; omega
  subst hsg
  exact ⟨m, i, e, hi, hv⟩
theorem add_whole {x y : Nat} {a b : Int} (hx : WholeF a x) (hy : WholeF b y) (h1 : -(2 ^ 53) ≤ a + b) (h2 : a + b ≤ 2 ^ 53) :
    ∃ r, double.add x y = some r ∧ WholeF (a + b) r ∧ (x = FloatKind.f64.nearest a → y = FloatKind.f64.nearest b → r = FloatKind.f64.nearest (a + b)) := by
  obtain ⟨f1, s1, l1⟩ := whole_sv hx
  obtain ⟨f2, s2, l2⟩ := whole_sv hy
  obtain ⟨neg, mag, place, h, hp, hv, hn⟩ := add_data f1 f2
  obtain ⟨r1, r2⟩ := int_of_data (c := a + b) hp hv hn (by rw [s1, s2, Int.add_mul]) h1 h2
  have hw := whole_of r1 r2 (nearest_lt _ _ _) h1 h2
  refine ⟨_, h, hw, fun ex ey => ?_⟩
  by_cases h0 : a + b = 0
  · rw [h0, near_zero]
    by_cases ha : a = 0
    · have hb : b = 0 := by omega
      subst ha hb
      rw [near_zero] at ex ey
      subst ex ey
      have : double.add 0 0 = some 0 := by decide
      rw [this] at h
      exact (Option.some.inj h).symm
    · have hb : b ≠ 0 := by omega
      obtain ⟨m, i, e1, _, k1⟩ := near_read ha hx.1 hx.2.1
      obtain ⟨n, j, e2, _, k2⟩ := near_read hb hy.1 hy.2.1
      unfold Format.add at h
      rw [ex, ey, e1, e2] at h
      simp only [Datum.sum] at h
      generalize hT : signed (decide (a < 0)) m (i - min i j).toNat + signed (decide (b < 0)) n (j - min i j).toNat = T at h
      have hT0 : T = 0 := by
        have e1 : (i + 1074).toNat = (i - min i j).toNat + (min i j + 1074).toNat := by omega
        have e2 : (j + 1074).toNat = (j - min i j).toNat + (min i j + 1074).toNat := by omega
        rw [e1, signed_mul] at k1
        rw [e2, signed_mul] at k2
        have : T * 2 ^ (min i j + 1074).toNat = 0 := by
          rw [← hT, Int.add_mul, ← k1, ← k2, ← Int.add_mul, h0, Int.zero_mul]
        rcases Int.mul_eq_zero.1 this with c | c
        · exact c
        · have := pow_pos_int (min i j + 1074).toNat; omega
      subst hT0
      have hs : (decide (a < 0) && decide (b < 0)) = false := by
        rcases Int.lt_trichotomy a 0 with c | c | c
        · rw [decide_eq_false (show ¬ b < 0 by omega), Bool.and_false]
        · exact (ha c).elim
        · rw [decide_eq_false (show ¬ a < 0 by omega), Bool.false_and]
      simp only [if_true, hs, Int.natAbs_zero, Option.map_some, Format.write, nearest_zero] at h
      rw [← Option.some.inj h]
      rfl
  · exact hw.exact h0
theorem neg_word (s : Bool) {r : Nat} (hr : r < 2 ^ 63) : double.word s r ^^^ 2 ^ 63 = double.word (!s) r := by
  rw [word_val, word_val]
  have key : r ^^^ 2 ^ 63 = 2 ^ 63 + r := by
    have h1 := Nat.two_pow_add_eq_or_of_lt hr 1
    rw [Nat.mul_one] at h1
    rw [h1]
    apply Nat.eq_of_testBit_eq
    intro i
    rw [Nat.testBit_xor, Nat.testBit_or, Nat.testBit_two_pow]
    by_cases c : 63 = i
    · subst c
      rw [Nat.testBit_lt_two_pow hr]; rfl
    · simp [c]
  cases s
  · simp only [Bool.false_eq_true, if_false, Bool.not_false, if_true]; exact key
  · simp only [if_true, Bool.not_true, Bool.false_eq_true, if_false]
    rw [← key, Nat.xor_assoc, Nat.xor_self, Nat.xor_zero]
theorem neg_bits {x : Nat} (h : x < 2 ^ 64) : Op.negFloat .f64 x = double.word (!decide (2 ^ 63 ≤ x)) (x % 2 ^ 63) := by
  have := neg_word (decide (2 ^ 63 ≤ x)) (Nat.mod_lt x (by decide : 0 < 2 ^ 63))
  rw [← word_of h] at this
  exact this
theorem neg_fin {x : Nat} (hx : Fin64 x) (h : x < 2 ^ 64) : Fin64 (Op.negFloat .f64 x) ∧ sv (Op.negFloat .f64 x) = - sv x ∧ Op.negFloat .f64 x < 2 ^ 64 := by
  rw [neg_bits h]
  obtain ⟨a, b⟩ := word_sv (neg := !decide (2 ^ 63 ≤ x)) (fin_rung hx)
  refine ⟨a, ?_, by rw [word_val]; split <;> omega⟩
  rw [b, sv_word hx h]
  by_cases c : 2 ^ 63 ≤ x
  · rw [decide_eq_true c, if_pos c]; simp
  · rw [decide_eq_false c, if_neg c]; simp
theorem neg_whole {x : Nat} {a : Int} (hx : WholeF a x) : WholeF (-a) (Op.negFloat .f64 x) := by
  obtain ⟨f1, s1, l1⟩ := whole_sv hx
  obtain ⟨a1, a2, a3⟩ := neg_fin f1 l1
  exact whole_of a1 (by rw [a2, s1, Int.neg_mul]) a3 (by have := hx.2.1; omega) (by have := hx.1; omega)
theorem sub_whole {x y : Nat} {a b : Int} (hx : WholeF a x) (hy : WholeF b y) (h1 : -(2 ^ 53) ≤ a - b) (h2 : a - b ≤ 2 ^ 53) :
    ∃ r, double.sub x y = some r ∧ WholeF (a - b) r ∧ (x = FloatKind.f64.nearest a → y = FloatKind.f64.nearest b → r = FloatKind.f64.nearest (a - b)) := by
  obtain ⟨f1, s1, l1⟩ := whole_sv hx
  obtain ⟨f2, s2, l2⟩ := whole_sv hy
  obtain ⟨neg, mag, place, h, hp, hv, hn⟩ := sub_data f1 f2
  obtain ⟨r1, r2⟩ := int_of_data (c := a - b) hp hv hn (by rw [s1, s2, Int.sub_mul]) h1 h2
  have hw := whole_of r1 r2 (nearest_lt _ _ _) h1 h2
  refine ⟨_, h, hw, fun ex ey => ?_⟩
  by_cases h0 : a - b = 0
  · rw [h0, near_zero]
    have hab : b = a := by omega
    subst hab
    by_cases ha : b = 0
    · subst ha
      rw [near_zero] at ex ey
      subst ex ey
      have : double.sub 0 0 = some 0 := by decide
      rw [this] at h
      exact (Option.some.inj h).symm
    · obtain ⟨m, i, e1, _, k1⟩ := near_read ha hx.1 hx.2.1
      unfold Format.sub at h
      rw [ex, ey, e1] at h
      simp only [Datum.opposite, Datum.sum] at h
      have hT0 : signed (decide (b < 0)) m (i - min i i).toNat + signed (!decide (b < 0)) m (i - min i i).toNat = 0 := by rw [signed_neg]; omega
      have hs : (decide (b < 0) && !decide (b < 0)) = false := by cases decide (b < 0) <;> rfl
      rw [hT0] at h
      simp only [if_true, hs, Int.natAbs_zero, Option.map_some, Format.write, nearest_zero] at h
      rw [← Option.some.inj h]
      rfl
  · exact hw.exact h0
theorem abs_neg {t : Int} (h : t < 0) : (-(t.natAbs : Int)) = t := by omega
theorem abs_pos {t : Int} (h : 0 < t) : ((t.natAbs : Int)) = t := by omega
theorem twice {n K : Int} {m q e : Nat} (hK : K.natAbs = 2 ^ e) (h : n.natAbs * 2 ^ e = m * 2 ^ q) : (n * (K * K)).natAbs = m * 2 ^ (q + e) := by
  rw [Int.natAbs_mul, Int.natAbs_mul, hK, ← Nat.mul_assoc, h, Nat.mul_assoc, ← Nat.pow_add]
theorem mul_whole {x y : Nat} {a b : Int} (hx : WholeF a x) (hy : WholeF b y) (h1 : -(2 ^ 53) ≤ a * b) (h2 : a * b ≤ 2 ^ 53) :
    ∃ r, double.mul x y = some r ∧ WholeF (a * b) r := by
  obtain ⟨f1, s1, l1⟩ := whole_sv hx
  obtain ⟨f2, s2, l2⟩ := whole_sv hy
  obtain ⟨neg, mag, place, h, hp, hv, hn⟩ := mul_data f1 f2
  refine ⟨_, h, ?_⟩
  have hK := KK_pos
  have hV : sv x * sv y = (a * b) * (KK * KK) := by rw [s1, s2, Int.mul_assoc, Int.mul_left_comm KK b KK, ← Int.mul_assoc]
  by_cases h0 : a * b = 0
  · rw [hV, h0, Int.zero_mul] at hv
    have : mag = 0 := by
      rcases Nat.mul_eq_zero.1 hv with h | h
      · exact h
      · have := Nat.two_pow_pos (place + 2148).toNat; omega
    subst this
    rw [nearest_zero]
    obtain ⟨w1, w2⟩ := word_zero neg
    exact whole_of w1 (by rw [w2, h0, Int.zero_mul]) (by rw [word_val]; split <;> omega) h1 h2
  · obtain ⟨m, q, k1, k2, k3, k4⟩ := int_norm (c := (a * b).natAbs) (by omega) (by omega)
    have hA : (sv x * sv y).natAbs = m * 2 ^ (q + 1074) := by rw [hV]; exact twice KK_abs k4
    obtain ⟨r1, r2, r3⟩ := exact_of hp hv hn k1 k2 k3 hA
    refine whole_of r1 ?_ (nearest_lt _ _ _) h1 h2
    have hc : ((m * 2 ^ q : Nat) : Int) = ((a * b).natAbs : Int) * KK := by
      rw [← k4, Int.natCast_mul, ← KK_abs, Int.natAbs_of_nonneg (Int.le_of_lt hK)]
    rcases Int.lt_trichotomy (a * b) 0 with c | c | c
    · exact (r3 (by rw [hV]; exact Int.mul_neg_of_neg_of_pos c (Int.mul_pos hK hK))).trans ((congrArg (fun t : Int => -t) hc).trans ((Int.neg_mul _ _).symm.trans (congrArg (fun t : Int => t * KK) (abs_neg c))))
    · exact (h0 c).elim
    · exact (r2 (by rw [hV]; exact Int.mul_pos c (Int.mul_pos hK hK))).trans (hc.trans (congrArg (fun t : Int => t * KK) (abs_pos c)))
theorem mul_exact {x y : Nat} {a b : Int} (hx : x = FloatKind.f64.nearest a) (hy : y = FloatKind.f64.nearest b) (ha : 0 ≤ a) (hb : 0 ≤ b) (h3 : a ≤ 2 ^ 53) (h4 : b ≤ 2 ^ 53) (h2 : a * b ≤ 2 ^ 53) :
    double.mul x y = some (FloatKind.f64.nearest (a * b)) := by
  have h1 : 0 ≤ a * b := Int.mul_nonneg ha hb
  obtain ⟨r, e, hw⟩ := mul_whole (x := x) (y := y) (a := a) (b := b) ⟨by omega, h3, .inl hx⟩ ⟨by omega, h4, .inl hy⟩ (by omega) h2
  by_cases h0 : a * b = 0
  · rw [h0, near_zero]
    have rd : ∀ c : Int, 0 ≤ c → c ≤ 2 ^ 53 → ∃ m i, double.read (FloatKind.f64.nearest c) = .number false m i ∧ (c = 0 → m = 0) := fun c h h' => by
      by_cases hc : c = 0
      · subst hc; rw [near_zero]; exact ⟨0, -1074, by decide, fun _ => rfl⟩
      · obtain ⟨m, i, e, _⟩ := near_read hc (by omega) h'
        rw [decide_eq_false (show ¬ c < 0 by omega)] at e
        exact ⟨m, i, e, fun h => (hc h).elim⟩
    obtain ⟨m, i, e1, z1⟩ := rd a ha h3
    obtain ⟨n, j, e2, z2⟩ := rd b hb h4
    have hmn : m * n = 0 := by
      rcases Int.mul_eq_zero.1 h0 with c | c
      · rw [z1 c, Nat.zero_mul]
      · rw [z2 c, Nat.mul_zero]
    unfold Format.mul
    rw [hx, hy, e1, e2]
    simp only [Datum.product, hmn, Option.map_some, Format.write, nearest_zero]
    rfl
  · rw [e, hw.exact h0]
theorem cmp_sv {x y : Nat} (f1 : Fin64 x) (f2 : Fin64 y) {op : BinOp} {k : IntKind} (hop : isCmp op = true) : fcmpV op .f64 x y = ibin op k (sv x) (sv y) := by
  have ho : FloatKind.f64.format.order x y = some (compare (sv x) (sv y)) := ford_fin f1 f2
  generalize sv x = a at *
  generalize sv y = b at *
  rcases Int.lt_trichotomy a b with c | c | c
  · have e : compare a b = .lt := Int.compare_eq_lt.2 c
    have e1 : (a == b) = false := by simp; omega
    have e2 : decide (a < b) = true := by simp; omega
    have e3 : decide (a ≤ b) = true := by simp; omega
    have e4 : decide (a > b) = false := by simp; omega
    have e5 : decide (a ≥ b) = false := by simp; omega
    cases op <;> simp only [isCmp, Bool.false_eq_true] at hop <;> simp only [fcmpV, ibin, ho, e, e1, e2, e3, e4, e5, bne] <;> rfl
  · have e : compare a b = .eq := Int.compare_eq_eq.2 c
    have e1 : (a == b) = true := by simp; omega
    have e2 : decide (a < b) = false := by simp; omega
    have e3 : decide (a ≤ b) = true := by simp; omega
    have e4 : decide (a > b) = false := by simp; omega
    have e5 : decide (a ≥ b) = true := by simp; omega
    cases op <;> simp only [isCmp, Bool.false_eq_true] at hop <;> simp only [fcmpV, ibin, ho, e, e1, e2, e3, e4, e5, bne] <;> rfl
  · have e : compare a b = .gt := Int.compare_eq_gt.2 c
    have e1 : (a == b) = false := by simp; omega
    have e2 : decide (a < b) = false := by simp; omega
    have e3 : decide (a ≤ b) = false := by simp; omega
    have e4 : decide (a > b) = true := by simp; omega
    have e5 : decide (a ≥ b) = true := by simp; omega
    cases op <;> simp only [isCmp, Bool.false_eq_true] at hop <;> simp only [fcmpV, ibin, ho, e, e1, e2, e3, e4, e5, bne] <;> rfl
theorem cmp_whole {x y : Nat} {a b : Int} (hx : WholeF a x) (hy : WholeF b y) {op : BinOp} {k : IntKind} (hop : isCmp op = true) : fcmpV op .f64 x y = ibin op k a b := by
  obtain ⟨f1, s1, _⟩ := whole_sv hx
  obtain ⟨f2, s2, _⟩ := whole_sv hy
  have hK := KK_pos
  rw [cmp_sv f1 f2 hop (k := k), s1, s2]
  have e1 : (a * KK == b * KK) = (a == b) := by
    rw [Bool.eq_iff_iff, beq_iff_eq, beq_iff_eq]
    exact ⟨fun h => Int.eq_of_mul_eq_mul_right (by omega) h, fun h => by rw [h]⟩
  have lt : ∀ u v : Int, u * KK < v * KK ↔ u < v := fun u v => ⟨fun h => Int.lt_of_mul_lt_mul_right h (Int.le_of_lt hK), fun h => Int.mul_lt_mul_of_pos_right h hK⟩
  have le : ∀ u v : Int, u * KK ≤ v * KK ↔ u ≤ v := fun u v => by rw [← Int.not_lt, ← Int.not_lt, lt]
  cases op <;> simp only [isCmp, Bool.false_eq_true] at hop <;> simp only [ibin, e1, bne, lt, le, gt_iff_lt, ge_iff_le]
theorem cut_whole (way : Toward) (neg : Bool) {m d N : Nat} (h : m = N * 2 ^ d) : way.cut neg m d = N := by
  obtain ⟨h1, h2⟩ := pow_min_div m d
  have hr : m % (1 <<< min d (m.log2 + 2)) = 0 := h2.2 (by rw [h]; exact Nat.mul_mod_left _ _)
  have hq : m / (1 <<< min d (m.log2 + 2)) = N := by rw [h1, h]; exact Nat.mul_div_cancel _ (Nat.two_pow_pos d)
  have hgap : 0 < 1 <<< min d (m.log2 + 2) := by rw [Nat.shiftLeft_eq]; simpa using Nat.two_pow_pos _
  unfold Toward.cut
  simp only [hr, hq]
  cases way <;> simp <;> omega
theorem intg_whole {x : Nat} {n : Int} (hx : WholeF n x) {way : Toward} {v : Value} (h : intgRel way x v) : ∃ b, v = .float .f64 b ∧ WholeF n b ∧ (x = FloatKind.f64.nearest n → b = FloatKind.f64.nearest n) := by
  obtain ⟨f1, s1, l1⟩ := whole_sv hx
  obtain ⟨b, rfl, hb⟩ := h
  refine ⟨b, rfl, ?_⟩
  rw [hb (not_nan f1)]
  obtain ⟨s, m, i, e, hi, hv⟩ := fin_parts f1
  have e' : FloatKind.f64.decode x = .number s m i := e
  have hN : way.cut s (m <<< i.toNat) (-i).toNat = n.natAbs := by
    rw [s1, signed_eq] at hv
    have ha : n.natAbs * 2 ^ 1074 = m * 2 ^ (i + 1074).toNat := by
      have := congrArg Int.natAbs hv
      rw [Int.natAbs_mul, KK_abs, Int.natAbs_mul, Int.natAbs_mul, Int.natAbs_pow] at this
      have hs : (if s = true then (-1 : Int) else 1).natAbs = 1 := by cases s <;> rfl
      rw [hs, Nat.one_mul, Int.natAbs_natCast] at this
      exact this
    refine cut_whole way s ?_
    rw [Nat.shiftLeft_eq]
    rcases Int.le_total 0 i with c | c
    · have e1 : (i + 1074).toNat = i.toNat + 1074 := by omega
      have e2 : (-i).toNat = 0 := by omega
      rw [e1, Nat.pow_add, ← Nat.mul_assoc] at ha
      rw [e2, Nat.pow_zero, Nat.mul_one]
      exact (Nat.mul_right_cancel (Nat.two_pow_pos 1074) ha).symm
    · have e1 : 1074 = (-i).toNat + (i + 1074).toNat := by omega
      have e2 : i.toNat = 0 := by omega
      rw [show (2 : Nat) ^ 1074 = 2 ^ (-i).toNat * 2 ^ (i + 1074).toNat by rw [← Nat.pow_add, ← e1], ← Nat.mul_assoc] at ha
      rw [e2, Nat.pow_zero, Nat.mul_one]
      exact (Nat.mul_right_cancel (Nat.two_pow_pos _) ha).symm
  rw [e']
  simp only [Datum.integral, hN]
  show WholeF n (double.nearest s n.natAbs 0) ∧ (_ → double.nearest s n.natAbs 0 = _)
  by_cases h0 : n = 0
  · subst h0
    rw [Int.natAbs_zero, nearest_zero]
    refine ⟨⟨by decide, by decide, ?_⟩, fun ex => ?_⟩
    · cases s
      · exact .inl (by rw [near_zero]; rfl)
      · exact .inr ⟨rfl, rfl⟩
    · rw [near_zero] at ex ⊢
      subst ex
      have : double.read 0 = .number false 0 (-1074) := by decide
      rw [this] at e
      cases e
      rfl
  · have ex := hx.exact h0
    obtain ⟨m', i', e2, _⟩ := near_read h0 hx.1 hx.2.1
    rw [← ex, e] at e2
    cases e2
    exact ⟨⟨hx.1, hx.2.1, .inl rfl⟩, fun _ => rfl⟩
theorem f2i_whole {x : Nat} {n : Int} (hx : WholeF n x) {k : IntKind} {v : Value} (h1 : k.min ≤ n) (h2 : n ≤ k.max) (h : f2iRel k [.float .f64 x] v) : v = .int k n := by
  obtain ⟨f1, s1, l1⟩ := whole_sv hx
  have ht : (FloatKind.f64.decode x).toInt .zero = some n := by rw [toInt_zero f1, s1, tdiv_KK]
  rcases h with ⟨m, e, _, _, rfl⟩ | ⟨hn, _⟩
  · rw [ht] at e; cases e; rfl
  · exact (hn n ht ⟨h1, h2⟩).elim
theorem abs_whole {x : Nat} {n : Int} (hx : WholeF n x) : x % 2 ^ 63 = FloatKind.f64.nearest n.natAbs := by
  obtain ⟨f1, s1, l1⟩ := whole_sv hx
  obtain ⟨a, b⟩ := abs_fin f1
  have hK := KK_pos
  have hb : sv (x % 2 ^ 63) = (n.natAbs : Int) * KK := by
    rw [b, s1]
    rcases Int.lt_or_le n 0 with c | c
    · rw [if_pos (Int.mul_neg_of_neg_of_pos c hK), ← Int.neg_mul, show -n = (n.natAbs : Int) by omega]
    · rw [if_neg (by have := Int.mul_nonneg c (Int.le_of_lt hK); omega), show n = (n.natAbs : Int) by omega]; rw [Int.natAbs_natCast]
  have hl : x % 2 ^ 63 < 2 ^ 63 := Nat.mod_lt _ (by decide)
  obtain ⟨_, _, e | ⟨e, e'⟩⟩ := whole_of a hb (by omega) (by have := hx.2.1; have := hx.1; omega) (by have := hx.2.1; have := hx.1; omega)
  · exact e
  · exfalso
    rw [e'] at hl; omega
end Go.Ev
namespace Go.Ev
open Ieee
theorem near_norm {a : Nat} (h0 : a ≠ 0) (h : a < 2 ^ 53) : double.read (FloatKind.f64.nearest a) = .number false (a * 2 ^ (52 - a.log2)) (-((52 - a.log2 : Nat) : Int)) := by
  rw [near_eq]
  have e : decide ((a : Int) < 0) = false := decide_eq_false (by omega)
  rw [e, Int.natAbs_natCast]
  exact nearest_small h0 h
theorem head_bd {a : Nat} (h0 : a ≠ 0) (h : a < 2 ^ 53) : 2 ^ 52 ≤ a * 2 ^ (52 - a.log2) ∧ a * 2 ^ (52 - a.log2) < 2 ^ 53 ∧ a.log2 ≤ 52 := by
  have hl := log2_lt h0 h
  have hs := Nat.log2_self_le h0
  have hu := Nat.lt_log2_self (n := a)
  refine ⟨?_, ?_, by omega⟩
  · have := Nat.mul_le_mul_right (2 ^ (52 - a.log2)) hs
    rwa [← Nat.pow_add, show a.log2 + (52 - a.log2) = 52 by omega] at this
  · have := Nat.mul_lt_mul_of_pos_right hu (Nat.two_pow_pos (52 - a.log2))
    rwa [← Nat.pow_add, show a.log2 + 1 + (52 - a.log2) = 53 by omega] at this
theorem log2_of {m : Nat} (h1 : 2 ^ 52 ≤ m) (h2 : m < 2 ^ 53) : m.log2 = 52 := by
  have h0 : m ≠ 0 := by intro e; subst e; omega
  have a := log2_lt h0 h2
  have b := (Nat.le_log2 h0).2 h1
  omega
theorem pow_mul_pow {x p q r : Nat} (h : p + q = r) : x * 2 ^ p * 2 ^ q = x * 2 ^ r := by rw [Nat.mul_assoc, ← Nat.pow_add, h]
theorem quo_digits {D n K : Nat} (hn : 0 < n) : (K * n ≤ D → 2 * K ≤ 2 * (D / n) + (D % n != 0).toNat) ∧ (D ≤ K * n → 2 * (D / n) + (D % n != 0).toNat ≤ 2 * K) := by
  have hdm := Nat.div_add_mod D n
  have hm := Nat.mod_lt D hn
  constructor
  · intro h
    have : K ≤ D / n := (Nat.le_div_iff_mul_le hn).2 h
    omega
  · intro h
    rcases Nat.lt_or_ge (D / n) K with c | c
    · have : (D % n != 0).toNat ≤ 1 := by cases (D % n != 0) <;> decide
      omega
    · have h1 : K * n ≤ D / n * n := Nat.mul_le_mul_right n c
      rw [Nat.mul_comm n] at hdm
      have h2 : D % n = 0 := by omega
      have h3 : D / n * n ≤ K * n := by omega
      have h4 : D / n ≤ K := Nat.le_of_mul_le_mul_right h3 hn
      rw [h2]
      have : (0 != 0 : Bool).toNat = 0 := rfl
      omega
theorem div_data {a b : Nat} (ha : a ≠ 0) (hb : b ≠ 0) (h1 : a < 2 ^ 53) (h2 : b < 2 ^ 53) :
    ∃ mag place, double.div (FloatKind.f64.nearest a) (FloatKind.f64.nearest b) = some (double.nearest false mag place) ∧ (-2148 : Int) ≤ place ∧
      (∀ k t X, k * b ≤ a → k * 2 ^ 2148 ≤ mag * 2 ^ (place + 2148).toNat ∧ (t ≤ b.log2 + 1 → a * 2 ^ t ≤ X * b → mag * 2 ^ (place + 2148).toNat ≤ X * 2 ^ (2148 - t))) := by
  obtain ⟨m1, m2, m3⟩ := head_bd ha h1
  obtain ⟨n1, n2, n3⟩ := head_bd hb h2
  generalize hla : 52 - a.log2 = la at *
  generalize hlb : 52 - b.log2 = lb at *
  have e1 := near_norm ha h1
  have e2 := near_norm hb h2
  rw [hla] at e1
  rw [hlb] at e2
  have hn0 : b * 2 ^ lb ≠ 0 := by omega
  have hm0 : a * 2 ^ la ≠ 0 := by omega
  have hpl : (-(la : Int) - -(lb : Int) - ((54 : Nat) : Int) - 1 + 2148).toNat = 2093 + lb - la := by omega
  refine ⟨2 * (((a * 2 ^ la) <<< 54) / (b * 2 ^ lb)) + (((a * 2 ^ la) <<< 54) % (b * 2 ^ lb) != 0).toNat, -(la : Int) - -(lb : Int) - ((54 : Nat) : Int) - 1, ?_, by omega, fun k t X hk => ?_⟩
  · unfold Format.div
    rw [e1, e2]
    simp only [Datum.quotient, if_neg hn0]
    have hmore : double.fractionBits + 2 + (b * 2 ^ lb).log2 - (a * 2 ^ la).log2 = 54 := by
      rw [log2_of m1 m2, log2_of n1 n2]; rfl
    rw [hmore]
    rfl
  · rw [hpl, Nat.shiftLeft_eq, pow_mul_pow rfl]
    have hnp : 0 < b * 2 ^ lb := Nat.pos_of_ne_zero hn0
    constructor
    · have hK : k * 2 ^ (la + 54 - lb) * (b * 2 ^ lb) ≤ a * 2 ^ (la + 54) := by
        have : k * 2 ^ (la + 54 - lb) * (b * 2 ^ lb) = k * b * 2 ^ (la + 54) := by
          rw [show la + 54 = (la + 54 - lb) + lb by omega, Nat.pow_add, Nat.add_sub_cancel]
          ac_rfl
        rw [this]
        exact Nat.mul_le_mul_right _ hk
      have := (quo_digits hnp (K := k * 2 ^ (la + 54 - lb))).1 hK
      have h := Nat.mul_le_mul_right (2 ^ (2093 + lb - la)) this
      refine Nat.le_trans (Nat.le_of_eq ?_) h
      rw [show 2 * (k * 2 ^ (la + 54 - lb)) = k * 2 ^ (la + 55 - lb) by rw [show la + 55 - lb = (la + 54 - lb) + 1 by omega, Nat.pow_succ]; ac_rfl]
      rw [pow_mul_pow (show la + 55 - lb + (2093 + lb - la) = 2148 by omega)]
    · intro ht hX
      have hK : a * 2 ^ (la + 54) ≤ X * 2 ^ (la + 54 - lb - t) * (b * 2 ^ lb) := by
        have e : X * 2 ^ (la + 54 - lb - t) * (b * 2 ^ lb) = X * b * 2 ^ (la + 54 - t) := by
          rw [show la + 54 - t = (la + 54 - lb - t) + lb by omega, Nat.pow_add]
          ac_rfl
        rw [e, show la + 54 = t + (la + 54 - t) by omega, Nat.pow_add, ← Nat.mul_assoc, show t + (la + 54 - t) - t = la + 54 - t by omega]
        exact Nat.mul_le_mul_right _ hX
      have := (quo_digits hnp (K := X * 2 ^ (la + 54 - lb - t))).2 hK
      have h := Nat.mul_le_mul_right (2 ^ (2093 + lb - la)) this
      refine Nat.le_trans h (Nat.le_of_eq ?_)
      rw [show 2 * (X * 2 ^ (la + 54 - lb - t)) = X * 2 ^ (la + 55 - lb - t) by rw [show la + 55 - lb - t = (la + 54 - lb - t) + 1 by omega, Nat.pow_succ]; ac_rfl]
      rw [pow_mul_pow (show la + 55 - lb - t + (2093 + lb - la) = 2148 - t by omega)]
theorem div_low {a b : Nat} (ha : a ≠ 0) (hb : b ≠ 0) (h1 : a < 2 ^ 53) (h2 : b < 2 ^ 53) :
    ∃ mag place, double.div (FloatKind.f64.nearest a) (FloatKind.f64.nearest b) = some (double.nearest false mag place) ∧ (-2148 : Int) ≤ place ∧
      (∀ t Y, t ≤ b.log2 + 1 → Y * b ≤ a * 2 ^ t → Y * 2 ^ (2148 - t) ≤ mag * 2 ^ (place + 2148).toNat) := by
  obtain ⟨m1, m2, m3⟩ := head_bd ha h1
  obtain ⟨n1, n2, n3⟩ := head_bd hb h2
  generalize hla : 52 - a.log2 = la at *
  generalize hlb : 52 - b.log2 = lb at *
  have e1 := near_norm ha h1
  have e2 := near_norm hb h2
  rw [hla] at e1
  rw [hlb] at e2
  have hn0 : b * 2 ^ lb ≠ 0 := by omega
  have hm0 : a * 2 ^ la ≠ 0 := by omega
  have hpl : (-(la : Int) - -(lb : Int) - ((54 : Nat) : Int) - 1 + 2148).toNat = 2093 + lb - la := by omega
  refine ⟨2 * (((a * 2 ^ la) <<< 54) / (b * 2 ^ lb)) + (((a * 2 ^ la) <<< 54) % (b * 2 ^ lb) != 0).toNat, -(la : Int) - -(lb : Int) - ((54 : Nat) : Int) - 1, ?_, by omega, fun t Y ht hY => ?_⟩
  · unfold Format.div
    rw [e1, e2]
    simp only [Datum.quotient, if_neg hn0]
    have hmore : double.fractionBits + 2 + (b * 2 ^ lb).log2 - (a * 2 ^ la).log2 = 54 := by
      rw [log2_of m1 m2, log2_of n1 n2]; rfl
    rw [hmore]
    rfl
  · rw [hpl, Nat.shiftLeft_eq, pow_mul_pow rfl]
    have hnp : 0 < b * 2 ^ lb := Nat.pos_of_ne_zero hn0
    have hK : Y * 2 ^ (la + 54 - lb - t) * (b * 2 ^ lb) ≤ a * 2 ^ (la + 54) := by
      have e : Y * 2 ^ (la + 54 - lb - t) * (b * 2 ^ lb) = Y * b * 2 ^ (la + 54 - t) := by
        rw [show la + 54 - t = (la + 54 - lb - t) + lb by omega, Nat.pow_add]
        ac_rfl
      rw [e, show la + 54 = t + (la + 54 - t) by omega, Nat.pow_add, ← Nat.mul_assoc, show t + (la + 54 - t) - t = la + 54 - t by omega]
      exact Nat.mul_le_mul_right _ hY
    have := (quo_digits hnp (K := Y * 2 ^ (la + 54 - lb - t))).1 hK
    have h := Nat.mul_le_mul_right (2 ^ (2093 + lb - la)) this
    refine Nat.le_trans (Nat.le_of_eq ?_) h
    rw [show 2 * (Y * 2 ^ (la + 54 - lb - t)) = Y * 2 ^ (la + 55 - lb - t) by rw [show la + 55 - lb - t = (la + 54 - lb - t) + 1 by omega, Nat.pow_succ]; ac_rfl]
    rw [pow_mul_pow (show la + 55 - lb - t + (2093 + lb - la) = 2148 - t by omega)]
theorem nearest_le (mag : Nat) (place : Int) : double.nearest false mag place ≤ double.infRung := by
  unfold Format.nearest
  split
  · rw [word_val]; simp
  · rw [word_val]; simp only [Bool.false_eq_true, if_false]; exact Nat.min_le_right _ _
theorem pos_read {r : Nat} (h : r ≤ double.infRung) (hf : Fin64 r) : (∃ m i, double.read r = .number false m i) ∧ 0 ≤ sv r := by
  have hr : r < double.infRung := by
    unfold Fin64 at hf
    have hI := infRung_val
    have hs : double.signWeight = 2 ^ 63 := rfl
    rw [hs] at hf
    rwa [Nat.mod_eq_of_lt (by omega)] at hf
  have hs : sv r = _ := (word_sv (neg := false) hr).2
  have hrd : double.read r = _ := read_word (neg := false) hr
  refine ⟨?_, by rw [hs]; simp⟩
  rw [hrd]
  split
  · exact ⟨_, _, rfl⟩
  · exact ⟨_, _, rfl⟩
theorem scaled_lt {X Y s e : Nat} (h : X + 1 = Y * 2 ^ s) (hs : s ≤ e) : X * 2 ^ (e - s) < Y * 2 ^ e := by
  have : X * 2 ^ (e - s) < (X + 1) * 2 ^ (e - s) := Nat.mul_lt_mul_of_pos_right (by omega) (Nat.two_pow_pos _)
  rwa [h, pow_mul_pow (show s + (e - s) = e by omega)] at this
theorem big_place {X m q e : Nat} (h0 : X ≠ 0) (h : X * 2 ^ e = m * 2 ^ q) (hm : m < 2 ^ 53) (he : 106 ≤ e) : 53 ≤ q := by
  rcases Nat.lt_or_ge q 53 with c | c
  · exfalso
    have e1 : m * 2 ^ q < 2 ^ 53 * 2 ^ 53 := by
      have : 2 ^ q ≤ 2 ^ 53 := Nat.pow_le_pow_right (by decide) (by omega)
      exact Nat.lt_of_lt_of_le (Nat.mul_lt_mul_of_pos_right hm (Nat.two_pow_pos q)) (Nat.mul_le_mul_left _ this)
    have e2 : 1 * 2 ^ e ≤ X * 2 ^ e := Nat.mul_le_mul_right _ (by omega)
    rw [h, Nat.one_mul] at e2
    have e3 : (2 : Nat) ^ 53 * 2 ^ 53 ≤ 2 ^ e := by rw [← Nat.pow_add]; exact Nat.pow_le_pow_right (by decide) he
    exact absurd (Nat.lt_of_le_of_lt (Nat.le_trans e3 e2) e1) (Nat.lt_irrefl _)
  · exact c
theorem div_floor {a b : Nat} (hb : b ≠ 0) (h : a + b ≤ 2 ^ 52) : ∃ r, double.div (FloatKind.f64.nearest a) (FloatKind.f64.nearest b) = some r ∧ Fin64 r ∧ (∃ m i, double.read r = .number false m i) ∧
    ((a / b : Nat) : Int) * KK ≤ sv r ∧ sv r < ((a / b + 1 : Nat) : Int) * KK := by
  have hK := KK_pos
  by_cases ha : a = 0
  · subst ha
    refine ⟨0, ?_, by unfold Fin64; decide, ⟨0, -1074, by decide⟩, ?_⟩
    · have e2 := near_norm hb (by omega)
      obtain ⟨n1, _⟩ := head_bd hb (by omega)
      have hn0 : b * 2 ^ (52 - b.log2) ≠ 0 := by omega
      have e1 : double.read (FloatKind.f64.nearest ((0 : Nat) : Int)) = .number false 0 (-1074) := by
        have : FloatKind.f64.nearest ((0 : Nat) : Int) = 0 := near_zero
        rw [this]; decide
      unfold Format.div
      rw [e1, e2]
      simp only [Datum.quotient, if_neg hn0, Nat.zero_shiftLeft, Nat.zero_div, Nat.zero_mod, Option.map_some, Format.write]
      have : (0 != 0 : Bool).toNat = 0 := rfl
      rw [this, Nat.mul_zero, Nat.add_zero, nearest_zero]
      rfl
    · have hz : sv 0 = 0 := by
        have : (0 : Nat) = double.word false 0 := rfl
        rw [this]; exact (word_zero false).2
      rw [hz, Nat.zero_div]
      constructor
      · simp
      · simpa using hK
  · obtain ⟨mag, place, hd, hp, hall⟩ := div_data ha hb (by omega) (by omega)
    generalize hP : (place + 2148).toNat = P at *
    have hkb : a / b * b ≤ a := Nat.div_mul_le_self a b
    have hka : a < (a / b + 1) * b := by
      have := Nat.div_add_mod a b
      have := Nat.mod_lt a (Nat.pos_of_ne_zero hb)
      rw [Nat.add_mul, Nat.one_mul, Nat.mul_comm (a / b)]; omega
    generalize hk : a / b = k at *
    have hb1 := Nat.lt_log2_self (n := b)
    have hb2 := Nat.log2_self_le hb
    generalize hT : b.log2 = L at *
    have h2b : 2 ^ (L + 1) ≤ 2 * b := by rw [Nat.pow_succ]; omega
    have hX1 : (k + 1) * 2 ^ (L + 1) ≤ 2 ^ 53 := by
      have e1 : (k + 1) * 2 ^ (L + 1) ≤ (k + 1) * (2 * b) := Nat.mul_le_mul_left _ h2b
      have e2 : (k + 1) * (2 * b) = 2 * (k * b + b) := by rw [Nat.add_mul, Nat.one_mul, Nat.mul_left_comm]; omega
      omega
    have hp2 : 0 < 2 ^ (L + 1) := Nat.two_pow_pos _
    have hpos : 0 < (k + 1) * 2 ^ (L + 1) := Nat.mul_pos (by omega) hp2
    have hXb : a * 2 ^ (L + 1) ≤ ((k + 1) * 2 ^ (L + 1) - 1) * b := by
      have e1 : (a + 1) * 2 ^ (L + 1) ≤ (k + 1) * b * 2 ^ (L + 1) := Nat.mul_le_mul_right _ hka
      rw [Nat.add_mul, Nat.one_mul] at e1
      rw [Nat.sub_mul, Nat.one_mul]
      have e2 : (k + 1) * 2 ^ (L + 1) * b = (k + 1) * b * 2 ^ (L + 1) := by ac_rfl
      rw [e2]
      omega
    obtain ⟨lo, hi⟩ := hall k (L + 1) ((k + 1) * 2 ^ (L + 1) - 1) hkb
    have hi := hi (Nat.le_refl _) hXb
    have hX0 : (k + 1) * 2 ^ (L + 1) - 1 ≠ 0 := by
      have : 2 ≤ 2 ^ (L + 1) := by rw [Nat.pow_succ]; have := Nat.two_pow_pos L; omega
      have : 1 * 2 ≤ (k + 1) * 2 ^ (L + 1) := Nat.mul_le_mul (by omega) this
      omega
    have hL : L ≤ 52 := by
      rcases Nat.lt_or_ge 52 L with c | c
      · have : 2 ^ 53 ≤ 2 ^ L := Nat.pow_le_pow_right (by decide) c
        omega
      · exact c
    have hX53 : (k + 1) * 2 ^ (L + 1) - 1 ≤ 2 ^ 53 := by omega
    have hXs : (k + 1) * 2 ^ (L + 1) - 1 + 1 = (k + 1) * 2 ^ (L + 1) := by omega
    generalize (k + 1) * 2 ^ (L + 1) - 1 = X at *
    have hXK := scaled_lt (e := 1074) hXs (by omega)
    obtain ⟨m, q, g1, g2, g3, g4⟩ := int_norm hX0 hX53
    have hq : L + 1 ≤ q := Nat.le_trans (by omega) (big_place hX0 g4 g2 (by decide))
    have hXm : X * 2 ^ (1074 - (L + 1)) = m * 2 ^ (q - (L + 1)) := by
      refine Nat.mul_right_cancel (Nat.two_pow_pos (L + 1)) ?_
      rw [pow_mul_pow (show 1074 - (L + 1) + (L + 1) = 1074 by omega), pow_mul_pow (show q - (L + 1) + (L + 1) = q by omega)]
      exact g4
    have hV : mag * 2 ^ (place + 2148).toNat = (((mag * 2 ^ P : Nat) : Int)).natAbs := by rw [hP, Int.natAbs_natCast]
    have hup : (((mag * 2 ^ P : Nat) : Int)).natAbs ≤ m * 2 ^ (q - (L + 1) + 1074) := by
      rw [Int.natAbs_natCast]
      refine Nat.le_trans hi (Nat.le_of_eq ?_)
      rw [← pow_mul_pow (x := m) (show q - (L + 1) + 1074 = q - (L + 1) + 1074 from rfl), ← hXm, pow_mul_pow (show 1074 - (L + 1) + 1074 = 2148 - (L + 1) by omega)]
    obtain ⟨u1, u2⟩ := up_of (neg := false) hp hV g1 g2 (show q - (L + 1) < 2046 by omega) hup
    obtain ⟨r1, r2⟩ := pos_read (nearest_le mag place) u1
    refine ⟨_, hd, u1, r1, ?_, ?_⟩
    · by_cases hk0 : k = 0
      · rw [hk0]; simpa using r2
      · obtain ⟨m', q', d1, d2, d3, d4⟩ := int_norm hk0 (show k ≤ 2 ^ 53 by
          have : k * 1 ≤ k * b := Nat.mul_le_mul_left _ (Nat.pos_of_ne_zero hb)
          omega)
        have hdn : m' * 2 ^ (q' + 1074) ≤ (((mag * 2 ^ P : Nat) : Int)).natAbs := by
          rw [Int.natAbs_natCast]
          refine Nat.le_trans (Nat.le_of_eq ?_) lo
          rw [← pow_mul_pow (x := m') (show q' + 1074 = q' + 1074 from rfl), ← d4, pow_mul_pow (show 1074 + 1074 = 2148 from rfl)]
        rcases down_of (neg := false) hp hV (fun _ => (decide_eq_false (by omega)).symm) d1 d2 hdn with ⟨_, c⟩ | c
        · rcases c with ⟨_, c⟩ | ⟨c, _⟩
          · refine Int.le_trans (Int.le_of_eq ?_) c
            rw [← d4, Int.natCast_mul, ← KK_abs, Int.natAbs_of_nonneg (Int.le_of_lt hK)]
          · omega
        · rw [c] at u1
          exfalso
          unfold Fin64 at u1
          have : ∀ b : Bool, double.word b double.infRung % double.signWeight = double.infRung := by decide
          rw [this] at u1
          omega
    · have e1 : sv (double.nearest false mag place) ≤ ((m * 2 ^ (q - (L + 1)) : Nat) : Int) := by omega
      refine Int.lt_of_le_of_lt e1 ?_
      rw [← hXm]
      have : (((k + 1 : Nat) : Int)) * KK = (((k + 1) * 2 ^ 1074 : Nat) : Int) := by
        rw [Int.natCast_mul, ← KK_abs, Int.natAbs_of_nonneg (Int.le_of_lt hK)]
      rw [this]
      exact Int.ofNat_lt.2 hXK
theorem quo_whole {a b : Int} {r : Nat} {way : Toward} (hw : way = .down ∨ way = .zero) (ha : 0 ≤ a) (hb : 0 < b) (h : a + b ≤ 2 ^ 52) (hr : double.div (FloatKind.f64.nearest a) (FloatKind.f64.nearest b) = some r) :
    FloatKind.f64.encode ((FloatKind.f64.decode r).integral way) = FloatKind.f64.nearest (a.tdiv b) ∧ ∀ s t, FloatKind.f64.decode r ≠ .nan s t := by
  obtain ⟨a, rfl⟩ := Int.eq_ofNat_of_zero_le ha
  obtain ⟨b, rfl⟩ := Int.eq_ofNat_of_zero_le (Int.le_of_lt hb)
  obtain ⟨r', h1, h2, ⟨m, i, h3⟩, h4, h5⟩ := div_floor (a := a) (b := b) (by omega) (by omega)
  have : r' = r := by
    rw [hr] at h1; exact (Option.some.inj h1).symm
  subst this
  have hK := KK_pos
  have hf : flr r' = ((a / b : Nat) : Int) := by
    refine Int.le_antisymm ?_ (le_flr.2 h4)
    have := flr_lt.2 h5
    omega
  have hd := toInt_down h2
  rw [hf] at hd
  have h3 : FloatKind.f64.decode r' = .number false m i := h3
  refine ⟨?_, not_nan h2⟩
  rw [h3] at hd ⊢
  simp only [Datum.toInt, Datum.integral, Option.some.injEq] at hd
  have hz : signed false (Toward.down.cut false (m <<< i.toNat) (-i).toNat) 0 = ((Toward.down.cut false (m <<< i.toNat) (-i).toNat : Nat) : Int) := by
    rw [signed_eq]; simp
  rw [hz] at hd
  have hd : Toward.down.cut false (m <<< i.toNat) (-i).toNat = a / b := Int.ofNat.inj hd
  have hcut : way.cut false (m <<< i.toNat) (-i).toNat = a / b := by
    rw [cut_down] at hd
    rcases hw with rfl | rfl
    · rw [cut_down]; exact hd
    · rw [cut_zero_way]; simpa using hd
  have ht : ((a : Nat) : Int).tdiv ((b : Nat) : Int) = ((a / b : Nat) : Int) := by
    rw [Int.tdiv_eq_ediv_of_nonneg (by omega)]; rfl
  simp only [Datum.integral, hcut]
  rw [ht, near_eq, Int.natAbs_natCast, decide_eq_false (show ¬ (((a / b : Nat) : Int) < 0) by omega)]
  rfl
theorem pow_ne0 (e : Nat) : 2 ^ e ≠ 0 := by have := Nat.two_pow_pos e; omega
theorem div_exact {k b : Nat} (hb : b ≠ 0) (h1 : k * b < 2 ^ 53) (h2 : b < 2 ^ 53) : double.div (FloatKind.f64.nearest ((k * b : Nat) : Int)) (FloatKind.f64.nearest b) = some (FloatKind.f64.nearest k) := by
  have hK := KK_pos
  by_cases hk : k = 0
  · subst hk
    have e2 := near_norm hb h2
    obtain ⟨n1, _⟩ := head_bd hb h2
    have hn0 : b * 2 ^ (52 - b.log2) ≠ 0 := by omega
    have e1 : double.read (FloatKind.f64.nearest ((0 * b : Nat) : Int)) = .number false 0 (-1074) := by
      have : FloatKind.f64.nearest ((0 * b : Nat) : Int) = 0 := by rw [Nat.zero_mul]; exact near_zero
      rw [this]; decide
    unfold Format.div
    rw [e1, e2]
    simp only [Datum.quotient, if_neg hn0, Nat.zero_shiftLeft, Nat.zero_div, Nat.zero_mod, Option.map_some, Format.write]
    have : (0 != 0 : Bool).toNat = 0 := rfl
    rw [this, Nat.mul_zero, Nat.add_zero, nearest_zero]
    have : FloatKind.f64.nearest ((0 : Nat) : Int) = 0 := near_zero
    rw [this]; rfl
  · have hkb : k * b ≠ 0 := Nat.mul_ne_zero hk hb
    obtain ⟨mag, place, hd, hp, hall⟩ := div_data hkb hb h1 h2
    obtain ⟨lo, hi⟩ := hall k 0 k (Nat.le_refl _)
    have hi := hi (Nat.zero_le _) (Nat.le_of_eq (Nat.mul_one _))
    rw [Nat.sub_zero] at hi
    have hV0 : mag * 2 ^ (place + 2148).toNat = k * 2 ^ 2148 := Nat.le_antisymm hi lo
    clear hi lo hall
    obtain ⟨e, he⟩ : ∃ e : Nat, e = 2148 := ⟨_, rfl⟩
    rw [← he] at hV0
    have hk53 : k < 2 ^ 53 := by
      have : k * 1 ≤ k * b := Nat.mul_le_mul_left _ (Nat.pos_of_ne_zero hb)
      omega
    obtain ⟨m, q, g1, g2, g3, g4⟩ := int_norm hk (Nat.le_of_lt hk53)
    have hE0 : k * 2 ^ e = m * 2 ^ (q + 1074) := by
      rw [← pow_mul_pow (x := m) (show q + 1074 = q + 1074 from rfl), ← g4, pow_mul_pow (show 1074 + 1074 = e from he.symm)]
    have hne : k * 2 ^ e ≠ 0 := Nat.mul_ne_zero hk (pow_ne0 _)
    generalize k * 2 ^ e = V0 at *
    have hV : mag * 2 ^ (place + 2148).toNat = ((V0 : Nat) : Int).natAbs := by rw [hV0, Int.natAbs_natCast]
    have hE : ((V0 : Nat) : Int).natAbs = m * 2 ^ (q + 1074) := by rw [Int.natAbs_natCast]; exact hE0
    have hpos : (0 : Int) < ((V0 : Nat) : Int) := Int.ofNat_lt.2 (Nat.pos_of_ne_zero hne)
    obtain ⟨r1, r2, _⟩ := exact_of (neg := false) hp hV (fun _ => (decide_eq_false (Int.not_lt.2 (Int.le_of_lt hpos))).symm) g1 g2 g3 hE
    have hs : sv (double.nearest false mag place) = (k : Int) * KK := by
      rw [r2 hpos, ← g4, Int.natCast_mul, ← KK_abs, Int.natAbs_of_nonneg (Int.le_of_lt hK)]
    have hw := whole_of (n := k) r1 hs (nearest_lt _ _ _) (by omega) (by omega)
    rw [hd, hw.exact (by omega)]
theorem quo_exact {a b : Int} (ha : 0 ≤ a) (hb : 0 < b) (h1 : a < 2 ^ 53) (h2 : b < 2 ^ 53) (h : a.tmod b = 0) : double.div (FloatKind.f64.nearest a) (FloatKind.f64.nearest b) = some (FloatKind.f64.nearest (a.tdiv b)) := by
  have e := Int.mul_tdiv_add_tmod a b
  rw [h, Int.add_zero] at e
  have hk0 : 0 ≤ a.tdiv b := Int.tdiv_nonneg ha (Int.le_of_lt hb)
  generalize a.tdiv b = k at *
  subst e
  obtain ⟨k, rfl⟩ := Int.eq_ofNat_of_zero_le hk0
  obtain ⟨b, rfl⟩ := Int.eq_ofNat_of_zero_le (Int.le_of_lt hb)
  have e2 : ((b : Nat) : Int) * ((k : Nat) : Int) = ((k * b : Nat) : Int) := by rw [Int.mul_comm, ← Int.natCast_mul]
  have h1 : k * b < 2 ^ 53 := by rw [e2] at h1; exact Int.ofNat_lt.1 h1
  have := div_exact (k := k) (b := b) (by omega) h1 (by omega)
  rw [← e2] at this
  exact this
end Go.Ev
namespace Go.Ev
open Ieee
theorem word_nearest (neg : Bool) (mag : Nat) (place : Int) : ∃ r, double.nearest neg mag place = double.word neg r ∧ ∀ s, double.nearest s mag place = double.word s r := by
  unfold Format.nearest
  split
  · exact ⟨_, rfl, fun s => rfl⟩
  · exact ⟨_, rfl, fun s => rfl⟩
theorem near_neg {a : Nat} (h0 : a ≠ 0) (h : a < 2 ^ 53) : double.read (FloatKind.f64.nearest (-(a : Int))) = .number true (a * 2 ^ (52 - a.log2)) (-((52 - a.log2 : Nat) : Int)) := by
  have hp := near_norm h0 h
  have e1 : FloatKind.f64.nearest (a : Int) = double.nearest false a 0 := by rw [near_eq, Int.natAbs_natCast, decide_eq_false (by omega)]
  have e2 : FloatKind.f64.nearest (-(a : Int)) = double.nearest true a 0 := by rw [near_eq, Int.natAbs_neg, Int.natAbs_natCast, decide_eq_true (by omega)]
  rw [e1] at hp
  rw [e2]
  obtain ⟨r, h1, h2⟩ := word_nearest false a 0
  rw [h1] at hp
  rw [h2 true]
  have hle := nearest_le a 0
  rw [h1] at hle
  have hr : r < double.infRung := by
    have hw : double.word false r = r := by rw [word_val]; simp
    rw [hw] at hle
    rcases Nat.lt_or_ge r double.infRung with c | c
    · exact c
    · have : r = double.infRung := Nat.le_antisymm hle c
      rw [this] at hp
      have : double.read (double.word false double.infRung) = .infinity false := by decide
      rw [this] at hp; cases hp
  rw [read_word hr] at hp ⊢
  split at hp
  · rename_i c
    rw [if_pos c]
    injection hp with _ p2 p3
    rw [p2, p3]
  · rename_i c
    rw [if_neg c]
    injection hp with _ p2 p3
    rw [p2, p3]
theorem div_neg {a b : Nat} (ha : a ≠ 0) (hb : b ≠ 0) (h1 : a < 2 ^ 53) (h2 : b < 2 ^ 53) {r : Nat} (hr : double.div (FloatKind.f64.nearest a) (FloatKind.f64.nearest b) = some r) (hf : Fin64 r) :
    ∃ r', double.div (FloatKind.f64.nearest (-(a : Int))) (FloatKind.f64.nearest b) = some r' ∧ Fin64 r' ∧ sv r' = - sv r ∧ ∃ m i, double.read r' = .number true m i := by
  have e1 := near_norm ha h1
  have e2 := near_norm hb h2
  have e3 := near_neg ha h1
  obtain ⟨n1, _⟩ := head_bd hb h2
  have hn0 : b * 2 ^ (52 - b.log2) ≠ 0 := by omega
  unfold Format.div at hr ⊢
  rw [e1, e2] at hr
  rw [e3, e2]
  simp only [Datum.quotient, if_neg hn0, Option.map_some, Format.write, Option.some.injEq] at hr ⊢
  obtain ⟨rg, k1, k2⟩ := word_nearest (false ^^ false) (2 * ((a * 2 ^ (52 - a.log2)) <<< (double.fractionBits + 2 + (b * 2 ^ (52 - b.log2)).log2 - (a * 2 ^ (52 - a.log2)).log2) / (b * 2 ^ (52 - b.log2))) + ((a * 2 ^ (52 - a.log2)) <<< (double.fractionBits + 2 + (b * 2 ^ (52 - b.log2)).log2 - (a * 2 ^ (52 - a.log2)).log2) % (b * 2 ^ (52 - b.log2)) != 0).toNat) (-((52 - a.log2 : Nat) : Int) - -((52 - b.log2 : Nat) : Int) - ((double.fractionBits + 2 + (b * 2 ^ (52 - b.log2)).log2 - (a * 2 ^ (52 - a.log2)).log2 : Nat) : Int) - 1)
  rw [k1] at hr
  refine ⟨_, rfl, ?_⟩
  rw [k2]
  have hr2 : rg < double.infRung := by
    subst hr
    have hle : double.word false rg ≤ double.infRung := by
      rw [← k2]; exact nearest_le _ _
    have hw : double.word false rg = rg := by rw [word_val]; simp
    rw [hw] at hle
    rcases Nat.lt_or_ge rg double.infRung with c | c
    · exact c
    · have e : rg = double.infRung := Nat.le_antisymm hle c
      rw [e] at hf
      exfalso
      unfold Fin64 at hf
      have : ∀ b : Bool, double.word b double.infRung % double.signWeight = double.infRung := by decide
      rw [this] at hf
      omega
  obtain ⟨p1, p2⟩ := word_sv (neg := true) hr2
  obtain ⟨_, q2⟩ := word_sv (neg := false) hr2
  refine ⟨p1, ?_, ?_⟩
  · have ht : (true ^^ false) = true := rfl
    rw [ht, p2, ← hr]
    have hff : (false ^^ false) = false := rfl
    rw [hff, q2]
    simp
  · have ht : (true ^^ false) = true := rfl
    rw [ht, read_word hr2]
    split
    · exact ⟨_, _, rfl⟩
    · exact ⟨_, _, rfl⟩
theorem div_above {a b : Nat} (ha : a ≠ 0) (hb : b ≠ 0) (h : a + b ≤ 2 ^ 52) (hnd : a % b ≠ 0) {r : Nat} (hr : double.div (FloatKind.f64.nearest a) (FloatKind.f64.nearest b) = some r) (hf : Fin64 r) : ((a / b : Nat) : Int) * KK < sv r := by
  have hK := KK_pos
  obtain ⟨mag, place, hd, hp, hlow⟩ := div_low ha hb (by omega) (by omega)
  have : r = double.nearest false mag place := by rw [hr] at hd; exact Option.some.inj hd
  subst this
  generalize hP : (place + 2148).toNat = P at *
  have hkb : a / b * b + 1 ≤ a := by
    have := Nat.div_add_mod a b
    rw [Nat.mul_comm b] at this; omega
  have hka : a < (a / b + 1) * b := by
    have := Nat.div_add_mod a b
    have := Nat.mod_lt a (Nat.pos_of_ne_zero hb)
    rw [Nat.add_mul, Nat.one_mul, Nat.mul_comm (a / b)]; omega
  generalize hk : a / b = k at *
  have hb1 := Nat.lt_log2_self (n := b)
  have hb2 := Nat.log2_self_le hb
  generalize hT : b.log2 = L at *
  have h2b : 2 ^ (L + 1) ≤ 2 * b := by rw [Nat.pow_succ]; omega
  have hX1 : (k + 1) * 2 ^ (L + 1) ≤ 2 ^ 53 := by
    have e1 : (k + 1) * 2 ^ (L + 1) ≤ (k + 1) * (2 * b) := Nat.mul_le_mul_left _ h2b
    have e2 : (k + 1) * (2 * b) = 2 * (k * b + b) := by rw [Nat.add_mul, Nat.one_mul, Nat.mul_left_comm]; omega
    omega
  have hp2 : 0 < 2 ^ (L + 1) := Nat.two_pow_pos _
  have hp2' : 2 ≤ 2 ^ (L + 1) := by rw [Nat.pow_succ]; have := Nat.two_pow_pos L; omega
  have hYb : (k * 2 ^ (L + 1) + 1) * b ≤ a * 2 ^ (L + 1) := by
    have e1 : (k * b + 1) * 2 ^ (L + 1) ≤ a * 2 ^ (L + 1) := Nat.mul_le_mul_right _ hkb
    rw [Nat.add_mul, Nat.one_mul] at e1
    rw [Nat.add_mul, Nat.one_mul]
    have e2 : k * 2 ^ (L + 1) * b = k * b * 2 ^ (L + 1) := by ac_rfl
    rw [e2]
    omega
  have lo := hlow (L + 1) (k * 2 ^ (L + 1) + 1) (Nat.le_refl _) hYb
  have hL : L ≤ 52 := by
    rcases Nat.lt_or_ge 52 L with c | c
    · have : 2 ^ 53 ≤ 2 ^ L := Nat.pow_le_pow_right (by decide) c
      omega
    · exact c
  have hY0 : k * 2 ^ (L + 1) + 1 ≠ 0 := by omega
  have hY53 : k * 2 ^ (L + 1) + 1 ≤ 2 ^ 53 := by rw [Nat.add_mul, Nat.one_mul] at hX1; omega
  have hYk : (k : Int) * KK < ((((k * 2 ^ (L + 1) + 1) * 2 ^ (1074 - (L + 1)) : Nat)) : Int) := by
    have e1 : (k : Int) * KK = ((k * 2 ^ 1074 : Nat) : Int) := by
      rw [Int.natCast_mul, ← KK_abs, Int.natAbs_of_nonneg (Int.le_of_lt hK)]
    rw [e1]
    refine Int.ofNat_lt.2 ?_
    rw [Nat.add_mul, pow_mul_pow (show L + 1 + (1074 - (L + 1)) = 1074 by omega), Nat.one_mul]
    have := Nat.two_pow_pos (1074 - (L + 1))
    omega
  generalize k * 2 ^ (L + 1) + 1 = Y at *
  obtain ⟨m, q, g1, g2, g3, g4⟩ := int_norm hY0 hY53
  have hq : L + 1 ≤ q := Nat.le_trans (by omega) (big_place hY0 g4 g2 (by decide))
  have hYm : Y * 2 ^ (1074 - (L + 1)) = m * 2 ^ (q - (L + 1)) := by
    refine Nat.mul_right_cancel (Nat.two_pow_pos (L + 1)) ?_
    rw [pow_mul_pow (show 1074 - (L + 1) + (L + 1) = 1074 by omega), pow_mul_pow (show q - (L + 1) + (L + 1) = q by omega)]
    exact g4
  have hV : mag * 2 ^ (place + 2148).toNat = (((mag * 2 ^ P : Nat) : Int)).natAbs := by rw [hP, Int.natAbs_natCast]
  have hdn : m * 2 ^ (q - (L + 1) + 1074) ≤ (((mag * 2 ^ P : Nat) : Int)).natAbs := by
    rw [Int.natAbs_natCast]
    refine Nat.le_trans (Nat.le_of_eq ?_) lo
    rw [← pow_mul_pow (x := m) (show q - (L + 1) + 1074 = q - (L + 1) + 1074 from rfl), ← hYm, pow_mul_pow (show 1074 - (L + 1) + 1074 = 2148 - (L + 1) by omega)]
  rcases down_of (neg := false) hp hV (fun _ => (decide_eq_false (by omega)).symm) g1 g2 hdn with ⟨_, c⟩ | c
  · rcases c with ⟨_, c⟩ | ⟨c, _⟩
    · refine Int.lt_of_lt_of_le hYk ?_
      rw [hYm]; exact c
    · omega
  · rw [c] at hf
    exfalso
    unfold Fin64 at hf
    have : ∀ b : Bool, double.word b double.infRung % double.signWeight = double.infRung := by decide
    rw [this] at hf
    omega
theorem quo_below {a b : Int} (ha : a < 0) (hb : 0 < b) (h : -a + b ≤ 2 ^ 52) : ∃ r, double.div (FloatKind.f64.nearest a) (FloatKind.f64.nearest b) = some r ∧
    FloatKind.f64.encode ((FloatKind.f64.decode r).integral .down) = FloatKind.f64.nearest (0 - (b - a - 1).tdiv b) ∧ ∀ s t, FloatKind.f64.decode r ≠ .nan s t := by
  obtain ⟨c, rfl⟩ : ∃ c : Nat, a = -(c : Int) := ⟨a.natAbs, by omega⟩
  obtain ⟨b, rfl⟩ := Int.eq_ofNat_of_zero_le (Int.le_of_lt hb)
  have hc0 : c ≠ 0 := by omega
  have hb0 : b ≠ 0 := by omega
  have hcb : c + b ≤ 2 ^ 52 := by omega
  obtain ⟨r, h1, h2, _, h4, h5⟩ := div_floor (a := c) (b := b) hb0 hcb
  obtain ⟨r', k1, k2, k3, m, i, k4⟩ := div_neg hc0 hb0 (by omega) (by omega) h1 h2
  have hK := KK_pos
  -- how much it is above
  have hceil : ∃ n : Nat, flr r' = -(n : Int) ∧ n ≠ 0 ∧ ((b : Int) - -(c : Int) - 1).tdiv b = n := by
    have hmod := Nat.div_add_mod c b
    have hlt := Nat.mod_lt c (Nat.pos_of_ne_zero hb0)
    by_cases hd : c % b = 0
    · have hs : sv r = ((c / b : Nat) : Int) * KK := by
        have := div_exact (k := c / b) (b := b) hb0 (by rw [Nat.mul_comm]; omega) (by omega)
        have e : c / b * b = c := by rw [Nat.mul_comm]; omega
        rw [e, h1] at this
        have : r = FloatKind.f64.nearest ((c / b : Nat) : Int) := Option.some.inj this
        rw [this]
        have hq : c / b ≤ c := Nat.div_le_self c b
        generalize c / b = q at hq ⊢
        exact (whole_sv (WholeF.near (n := ((q : Nat) : Int)) (by omega) (by omega))).2.1
      refine ⟨c / b, ?_, ?_, ?_⟩
      · unfold flr
        rw [k3, hs, ← Int.neg_mul]
        exact Int.mul_ediv_cancel _ (Int.ne_of_gt hK)
      · intro e
        rw [e, Nat.mul_zero] at hmod
        omega
      · rw [Int.tdiv_eq_ediv_of_nonneg (by omega)]
        have e : (b : Int) - -(c : Int) - 1 = ((b + c - 1 : Nat) : Int) := by omega
        rw [e, ← Int.natCast_ediv]
        congr 1
        have e2 : b + c - 1 = (b - 1) + b * (c / b) := by omega
        rw [e2, Nat.add_mul_div_left _ _ (Nat.pos_of_ne_zero hb0), Nat.div_eq_of_lt (by omega), Nat.zero_add]
    · have hab := div_above hc0 hb0 hcb hd h1 h2
      refine ⟨c / b + 1, ?_, Nat.succ_ne_zero _, ?_⟩
      · unfold flr
        rw [k3]
        have g1 : -((c / b + 1 : Nat) : Int) * KK ≤ - sv r := by rw [Int.neg_mul]; omega
        have g2 : - sv r < (-((c / b + 1 : Nat) : Int) + 1) * KK := by
          have e : (-((c / b + 1 : Nat) : Int) + 1) = -((c / b : Nat) : Int) := by
            generalize c / b = q
            omega
          rw [e, Int.neg_mul]; omega
        exact Int.le_antisymm (Int.lt_add_one_iff.1 (Int.ediv_lt_of_lt_mul hK g2)) (Int.le_ediv_of_mul_le hK g1)
      · rw [Int.tdiv_eq_ediv_of_nonneg (by omega)]
        have e : (b : Int) - -(c : Int) - 1 = ((b + c - 1 : Nat) : Int) := by omega
        rw [e, ← Int.natCast_ediv]
        congr 1
        have e2 : b + c - 1 = (c % b - 1) + b * (c / b + 1) := by rw [Nat.mul_add, Nat.mul_one]; omega
        rw [e2, Nat.add_mul_div_left _ _ (Nat.pos_of_ne_zero hb0), Nat.div_eq_of_lt (by omega), Nat.zero_add]
  obtain ⟨n, g1, g2, g3⟩ := hceil
  refine ⟨r', k1, ?_, not_nan k2⟩
  have hd := toInt_down k2
  rw [g1] at hd
  have k4 : FloatKind.f64.decode r' = .number true m i := k4
  rw [k4] at hd ⊢
  simp only [Datum.toInt, Datum.integral, Option.some.injEq] at hd
  rw [signed_eq] at hd
  have hn : Toward.down.cut true (m <<< i.toNat) (-i).toNat = n := by
    simp at hd; omega
  simp only [Datum.integral, hn]
  rw [g3, near_eq, show ((0 : Int) - (n : Int)).natAbs = n by omega, decide_eq_true (show (0 : Int) - (n : Int) < 0 by omega)]
  rfl
end Go.Ev
