/- Numbers that are 64ths, rounded to places: exact products, floors and ceilings, quotients on the right side. -/
import Derived.Test.YtgfoocnnidhepaaGreatDoorFDivN
namespace Go.Ev
open Ieee
theorem down_num (s : Bool) (m : Nat) {i : Int} (hL : -1074 ≤ i) : signed s (Toward.down.cut s (m <<< i.toNat) (-i).toNat) 0 = ((if s then -1 else 1) * ((m : Int) * 2 ^ (i + 1074).toNat)) / KK := by
  rw [signed_eq]
  rcases Int.le_total 0 i with hi | hi
  · have e1 : (-i).toNat = 0 := by omega
    rw [e1, cut_zero, Nat.shiftLeft_eq]
    have e2 : (i + 1074).toNat = i.toNat + 1074 := by omega
    rw [e2, Int.pow_add]
    have e3 : (2 : Int) ^ 1074 = KK := rfl
    rw [e3]
    simp only [← Int.mul_assoc]
    rw [Int.mul_ediv_cancel _ (Int.ne_of_gt KK_pos)]
    simp [Int.natCast_mul, Int.natCast_pow, Int.mul_assoc]
  · obtain ⟨d, hdi⟩ : ∃ d : Nat, i = -(d : Int) := ⟨(-i).toNat, by omega⟩
    subst hdi
    have hd2 : d ≤ 1074 := by omega
    have e1 : (-(-(d : Int))).toNat = d := by omega
    have e2 : (-(d : Int)).toNat = 0 := by omega
    have e3 : (-(d : Int) + 1074).toNat = 1074 - d := by omega
    rw [e1, e2, e3, Nat.shiftLeft_zero, cut_down, KK_split hd2]
    have hp : (0 : Int) < 2 ^ (1074 - d) := pow_pos_int _
    have hq : 0 < 2 ^ d := Nat.two_pow_pos d
    have cast : ((2 ^ d : Nat) : Int) = 2 ^ d := by simp
    cases s
    · simp only [Bool.false_eq_true, if_false, Int.one_mul, Bool.false_and, Bool.toNat_false, Nat.add_zero, Int.pow_zero, Int.mul_one]
      rw [Int.mul_ediv_mul_of_pos_left _ _ hp, ← cast]
      exact (Int.natCast_ediv m (2 ^ d))
    · simp only [if_true, Bool.true_and, Int.pow_zero, Int.mul_one]
      have : (-1 : Int) * (↑m * 2 ^ (1074 - d)) = (-(m : Int)) * 2 ^ (1074 - d) := by rw [Int.neg_mul, Int.one_mul, Int.neg_mul]
      rw [this, Int.mul_ediv_mul_of_pos_left _ _ hp, ← cast, floor_neg m (2 ^ d) hq]
      rw [Int.neg_mul, Int.one_mul]
      congr 2
      by_cases hz : m % 2 ^ d = 0
      · simp [hz]
      · simp [hz]
theorem cut_up (s : Bool) (m d : Nat) : Toward.up.cut s m d = Toward.down.cut (!s) m d := by
  unfold Toward.cut
  cases s <;> rfl
def cel (x : Nat) : Int := -((-(sv x)) / KK)
theorem toInt_up {x : Nat} (h : Fin64 x) : (FloatKind.f64.decode x).toInt .up = some (cel x) := by
  obtain ⟨s, m, i, e, _, hL, hU, _⟩ := read_fin h
  have hd : FloatKind.f64.decode x = .number s m i := e
  rw [leastPlace_eq] at hL
  unfold Datum.toInt
  rw [hd]
  simp only [Datum.integral]
  congr 1
  unfold cel
  rw [sv_eq e]
  have k := down_num (!s) m hL
  rw [cut_up]
  have k2 : -((if s = true then (-1 : Int) else 1) * (↑m * 2 ^ (i + 1074).toNat)) = (if (!s) = true then (-1 : Int) else 1) * (↑m * 2 ^ (i + 1074).toNat) := by
    cases s <;> simp
  rw [k2, ← k, signed_eq, signed_eq]
  cases s <;> simp
theorem intg_of {x : Nat} (h : Fin64 x) {way : Toward} {n : Int} (hn : (FloatKind.f64.decode x).toInt way = some n) (h1 : -(2 ^ 53) < n) (h2 : n < 2 ^ 53) {v : Value} (hv : intgRel way x v) : ∃ b, v = .float .f64 b ∧ WholeF n b := by
  obtain ⟨b, rfl, hb⟩ := hv
  refine ⟨b, rfl, ?_⟩
  have hb := hb (not_nan h)
  obtain ⟨f1, f2⟩ := integral_fin h way hn h1 h2
  rw [← hb] at f1 f2
  refine whole_of f1 f2 ?_ (by omega) (by omega)
  rw [hb]
  obtain ⟨s, m, i, e, _⟩ := read_fin h
  have hd : FloatKind.f64.decode x = .number s m i := e
  rw [hd]
  simp only [Datum.integral]
  exact nearest_lt _ _ _
def K68 : Int := 2 ^ 1068
theorem KK64 : KK = K68 * 64 := Int.pow_add 2 1068 6
theorem K68_pos : (0 : Int) < K68 := Int.pow_pos (by decide)
theorem K68_nat : ((2 ^ 1068 : Nat) : Int) = K68 := Int.natCast_pow 2 1068
theorem of64 {s c : Int} (h : s * 64 = c * KK) : s = c * K68 := by
  rw [KK64, ← Int.mul_assoc] at h
  generalize c * K68 = q at h
  omega
theorem to64 {s c : Int} (h : s = c * K68) : s * 64 = c * KK := by rw [h, KK64, Int.mul_assoc]
theorem shiftE {c m q a b k : Nat} (hk : k = a + b) (hq : b ≤ q) (h : c * 2 ^ k = m * 2 ^ q) : c * 2 ^ a = m * 2 ^ (q - b) := by
  subst hk
  rw [Nat.pow_add, ← Nat.mul_assoc] at h
  have e : m * 2 ^ q = m * 2 ^ (q - b) * 2 ^ b := by rw [Nat.mul_assoc, ← Nat.pow_add, Nat.sub_add_cancel hq]
  rw [e] at h
  exact Nat.mul_right_cancel (Nat.two_pow_pos b) h
theorem K68_abs : K68.natAbs = 2 ^ 1068 := by rw [← K68_nat, Int.natAbs_natCast]
theorem norm64 {c : Nat} (h0 : c ≠ 0) (h : c ≤ 2 ^ 53) : ∃ m q, 2 ^ 52 ≤ m ∧ m < 2 ^ 53 ∧ q < 2046 ∧ c * 2 ^ 1068 = m * 2 ^ q := by
  obtain ⟨m, q, k1, k2, k3, k4⟩ := int_norm h0 h
  have hq : 6 ≤ q := by
    rcases Nat.lt_or_ge q 6 with c1 | c1
    · exfalso
      have h1 : m * 2 ^ q < 2 ^ 53 * 2 ^ 6 := Nat.mul_lt_mul_of_lt_of_le k2 (Nat.pow_le_pow_right (by decide) (by omega)) (by decide)
      have hk : ∀ k, 60 ≤ k → 1 * 2 ^ 60 ≤ c * 2 ^ k := fun k h => Nat.mul_le_mul (Nat.one_le_iff_ne_zero.2 h0) (Nat.pow_le_pow_right (by decide) h)
      have h2 := hk 1074 (by decide)
      rw [k4] at h2
      omega
    · exact c1
  refine ⟨m, q - 6, k1, k2, by omega, ?_⟩
  exact shiftE (k := 1074) (a := 1068) (b := 6) rfl hq k4
theorem exact64 {neg : Bool} {mag : Nat} {place V c : Int} (hp : -2148 ≤ place) (hv : mag * 2 ^ (place + 2148).toNat = V.natAbs) (hneg : V ≠ 0 → neg = decide (V < 0)) (hV : V = c * K68 * KK) (h1 : 0 ≤ c) (h2 : c ≤ 2 ^ 53) :
    Fin64 (double.nearest neg mag place) ∧ sv (double.nearest neg mag place) = c * K68 := by
  by_cases h0 : c = 0
  · subst h0
    rw [Int.zero_mul, Int.zero_mul] at hV
    subst hV
    have : mag = 0 := by
      rcases Nat.mul_eq_zero.1 hv with h | h
      · exact h
      · have := Nat.two_pow_pos (place + 2148).toNat; omega
    subst this
    rw [nearest_zero, Int.zero_mul]
    exact word_zero neg
  · obtain ⟨m, q, k1, k2, k3, k4⟩ := norm64 (c := c.natAbs) (by omega) (by omega)
    have hc : ((c.natAbs : Nat) : Int) = c := by omega
    have hA : c * K68 = ((m * 2 ^ q : Nat) : Int) := by rw [← k4, Int.natCast_mul, hc, K68_nat]
    have hVa : V.natAbs = m * 2 ^ (q + 1074) := by
      rw [hV, Int.natAbs_mul, hA, Int.natAbs_natCast, KK_abs, Nat.pow_add, Nat.mul_assoc]
    obtain ⟨r1, r2, _⟩ := exact_of hp hv hneg k1 k2 k3 hVa
    refine ⟨r1, ?_⟩
    rw [hA]
    refine r2 ?_
    rw [hV]
    exact Int.mul_pos (Int.mul_pos (by omega) K68_pos) KK_pos
theorem mul64 {x y : Nat} {c p : Int} (hx : Fin64 x) (hc : sv x * 64 = c * KK) (h0 : 0 ≤ c) (hy : WholeF p y) (hp : 0 ≤ p) (h : c * p ≤ 2 ^ 53) : ∃ r, double.mul x y = some r ∧ r < 2 ^ 64 ∧ Fin64 r ∧ sv r * 64 = (c * p) * KK := by
  obtain ⟨f2, s2, _⟩ := whole_sv hy
  obtain ⟨neg, mag, place, e, hpl, hv, hn⟩ := mul_data hx f2
  have hV : sv x * sv y = (c * p) * K68 * KK := by
    rw [of64 hc, s2]
    generalize K68 = a
    generalize KK = b
    ac_rfl
  obtain ⟨r1, r2⟩ := exact64 hpl hv hn hV (Int.mul_nonneg h0 hp) h
  exact ⟨_, e, nearest_lt _ _ _, r1, to64 r2⟩
theorem add64 {x y : Nat} {c d : Int} (hx : Fin64 x) (hc : sv x * 64 = c * KK) (h0 : 0 ≤ c) (hy : Fin64 y) (hd : sv y * 64 = d * KK) (h1 : 0 ≤ d) (h : c + d ≤ 2 ^ 53) : ∃ r, double.add x y = some r ∧ r < 2 ^ 64 ∧ Fin64 r ∧ sv r * 64 = (c + d) * KK := by
  obtain ⟨neg, mag, place, e, hpl, hv, hn⟩ := add_data hx hy
  have hS : sv x + sv y = (c + d) * K68 := by rw [of64 hc, of64 hd, Int.add_mul]
  obtain ⟨r1, r2⟩ := exact64 (V := (sv x + sv y) * KK) (by omega) (to2148 hpl hv) (sgn_KK hn) (by rw [hS]) (by omega) h
  exact ⟨_, e, nearest_lt _ _ _, r1, to64 r2⟩
theorem floor64 {x : Nat} {c : Int} (hc : sv x * 64 = c * KK) : flr x = c / 64 := by
  unfold flr
  rw [of64 hc, KK64, Int.mul_comm c, Int.mul_ediv_mul_of_pos _ _ K68_pos]
theorem ceil64 {x : Nat} {c : Int} (hc : sv x * 64 = c * KK) : cel x = (c + 63) / 64 := by
  unfold cel
  rw [of64 hc, KK64, Int.mul_comm c, ← Int.mul_neg, Int.mul_ediv_mul_of_pos _ _ K68_pos]
  omega
theorem div_both {a b : Nat} (ha : a ≠ 0) (hb : b ≠ 0) (h1 : a < 2 ^ 53) (h2 : b < 2 ^ 53) :
    ∃ mag place, double.div (FloatKind.f64.nearest a) (FloatKind.f64.nearest b) = some (double.nearest false mag place) ∧ (-2148 : Int) ≤ place ∧ mag ≠ 0 ∧
      (∀ t X, t + a.log2 ≤ b.log2 + 54 → (a * 2 ^ t ≤ X * b → mag * 2 ^ (place + 2148).toNat ≤ X * 2 ^ (2148 - t)) ∧ (X * b ≤ a * 2 ^ t → X * 2 ^ (2148 - t) ≤ mag * 2 ^ (place + 2148).toNat)) := by
  obtain ⟨m1, m2, m3⟩ := head_bd ha h1
  obtain ⟨n1, n2, n3⟩ := head_bd hb h2
  have hLa : a.log2 = 52 - (52 - a.log2) := by omega
  have hLb : b.log2 = 52 - (52 - b.log2) := by omega
  rw [hLa, hLb]
  generalize hla : 52 - a.log2 = la at *
  generalize hlb : 52 - b.log2 = lb at *
  have e1 := near_norm ha h1
  have e2 := near_norm hb h2
  rw [hla] at e1
  rw [hlb] at e2
  have hn0 : b * 2 ^ lb ≠ 0 := by omega
  have hm0 : a * 2 ^ la ≠ 0 := by omega
  have hpl : (-(la : Int) - -(lb : Int) - ((54 : Nat) : Int) - 1 + 2148).toNat = 2093 + lb - la := by omega
  have hnp : 0 < b * 2 ^ lb := Nat.pos_of_ne_zero hn0
  refine ⟨2 * (((a * 2 ^ la) <<< 54) / (b * 2 ^ lb)) + (((a * 2 ^ la) <<< 54) % (b * 2 ^ lb) != 0).toNat, -(la : Int) - -(lb : Int) - ((54 : Nat) : Int) - 1, ?_, by omega, ?_, fun t X ht => ?_⟩
  · unfold Format.div
    rw [e1, e2]
    simp only [Datum.quotient, if_neg hn0]
    have hmore : double.fractionBits + 2 + (b * 2 ^ lb).log2 - (a * 2 ^ la).log2 = 54 := by
      rw [log2_of m1 m2, log2_of n1 n2]; rfl
    rw [hmore]
    rfl
  · have : 1 ≤ ((a * 2 ^ la) <<< 54) / (b * 2 ^ lb) := by
      rw [Nat.le_div_iff_mul_le hnp, Nat.one_mul, Nat.shiftLeft_eq]
      have : 2 ^ 52 * 2 ^ 54 ≤ a * 2 ^ la * 2 ^ 54 := Nat.mul_le_mul_right _ m1
      omega
    omega
  · rw [hpl, Nat.shiftLeft_eq, pow_mul_pow rfl]
    constructor
    · intro hX
      have hK : a * 2 ^ (la + 54) ≤ X * 2 ^ (la + 54 - lb - t) * (b * 2 ^ lb) := by
        have e : X * 2 ^ (la + 54 - lb - t) * (b * 2 ^ lb) = X * b * 2 ^ (la + 54 - t) := by
          rw [show la + 54 - t = (la + 54 - lb - t) + lb by omega, Nat.pow_add]
          ac_rfl
        rw [e, show la + 54 = t + (la + 54 - t) by omega, Nat.pow_add, ← Nat.mul_assoc, show t + (la + 54 - t) - t = la + 54 - t by omega]
        exact Nat.mul_le_mul_right _ hX
      have := (quo_digits hnp (K := X * 2 ^ (la + 54 - lb - t))).2 hK
      have h := Nat.mul_le_mul_right (2 ^ (2093 + lb - la)) this
      refine Nat.le_trans h (Nat.le_of_eq ?_)
      rw [show 2 * (X * 2 ^ (la + 54 - lb - t)) = X * 2 ^ (la + 55 - lb - t) by rw [show la + 55 - lb - t = (la + 54 - lb - t) + 1 by omega, Nat.pow_succ]; ac_rfl]
      rw [pow_mul_pow (show la + 55 - lb - t + (2093 + lb - la) = 2148 - t by omega)]
    · intro hX
      have hK : X * 2 ^ (la + 54 - lb - t) * (b * 2 ^ lb) ≤ a * 2 ^ (la + 54) := by
        have e : X * 2 ^ (la + 54 - lb - t) * (b * 2 ^ lb) = X * b * 2 ^ (la + 54 - t) := by
          rw [show la + 54 - t = (la + 54 - lb - t) + lb by omega, Nat.pow_add]
          ac_rfl
        rw [e, show la + 54 = t + (la + 54 - t) by omega, Nat.pow_add, ← Nat.mul_assoc, show t + (la + 54 - t) - t = la + 54 - t by omega]
        exact Nat.mul_le_mul_right _ hX
      have := (quo_digits hnp (K := X * 2 ^ (la + 54 - lb - t))).1 hK
      have h := Nat.mul_le_mul_right (2 ^ (2093 + lb - la)) this
      refine Nat.le_trans (Nat.le_of_eq ?_) h
      rw [show 2 * (X * 2 ^ (la + 54 - lb - t)) = X * 2 ^ (la + 55 - lb - t) by rw [show la + 55 - lb - t = (la + 54 - lb - t) + 1 by omega, Nat.pow_succ]; ac_rfl]
      rw [pow_mul_pow (show la + 55 - lb - t + (2093 + lb - la) = 2148 - t by omega)]
end Go.Ev
