/- The whole part of a quotient of whole floats. -/
import Derived.Test.YtlpbimookmhjbaaGreatDoorFWhole
namespace Go.Ev
open Ieee

/-- A whole number's float, read: its digits at the head. -/
theorem near_norm {a : Nat} (h0 : a ≠ 0) (h : a < 2 ^ 53) : double.read (FloatKind.f64.nearest a) = .number false (a * 2 ^ (52 - a.log2)) (-((52 - a.log2 : Nat) : Int)) := by
  rw [near_eq]
  have e : decide ((a : Int) < 0) = false := decide_eq_false (by omega)
  rw [e, Int.natAbs_natCast]
  exact nearest_small h0 h

theorem head_bd {a : Nat} (h0 : a ≠ 0) (h : a < 2 ^ 53) : 2 ^ 52 ≤ a * 2 ^ (52 - a.log2) ∧ a * 2 ^ (52 - a.log2) < 2 ^ 53 ∧ a.log2 ≤ 52 := by
  have hl := log2_lt h0 h
  have hs := Nat.log2_self_le h0
  have hu := Nat.lt_log2_self (n := a)
  refine ⟨?_, ?_, by omega⟩
  · have := Nat.mul_le_mul_right (2 ^ (52 - a.log2)) hs
    rwa [← Nat.pow_add, show a.log2 + (52 - a.log2) = 52 by omega] at this
  · have := Nat.mul_lt_mul_of_pos_right hu (Nat.two_pow_pos (52 - a.log2))
    rwa [← Nat.pow_add, show a.log2 + 1 + (52 - a.log2) = 53 by omega] at this

theorem log2_of {m : Nat} (h1 : 2 ^ 52 ≤ m) (h2 : m < 2 ^ 53) : m.log2 = 52 := by
  have h0 : m ≠ 0 := by intro e; subst e; omega
  have a := log2_lt h0 h2
  have b := (Nat.le_log2 h0).2 h1
  omega

theorem pow_mul_pow {x p q r : Nat} (h : p + q = r) : x * 2 ^ p * 2 ^ q = x * 2 ^ r := by rw [Nat.mul_assoc, ← Nat.pow_add, h]

/-- Between which multiples the quotient's digits lie. -/
theorem quo_digits {D n K : Nat} (hn : 0 < n) : (K * n ≤ D → 2 * K ≤ 2 * (D / n) + (D % n != 0).toNat) ∧ (D ≤ K * n → 2 * (D / n) + (D % n != 0).toNat ≤ 2 * K) := by
  have hdm := Nat.div_add_mod D n
  have hm := Nat.mod_lt D hn
  constructor
  · intro h
    have : K ≤ D / n := (Nat.le_div_iff_mul_le hn).2 h
    omega
  · intro h
    rcases Nat.lt_or_ge (D / n) K with c | c
    · have : (D % n != 0).toNat ≤ 1 := by cases (D % n != 0) <;> decide
      omega
    · have h1 : K * n ≤ D / n * n := Nat.mul_le_mul_right n c
      rw [Nat.mul_comm n] at hdm
      have h2 : D % n = 0 := by omega
      have h3 : D / n * n ≤ K * n := by omega
      have h4 : D / n ≤ K := Nat.le_of_mul_le_mul_right h3 hn
      rw [h2]
      have : (0 != 0 : Bool).toNat = 0 := rfl
      omega

theorem div_data {a b : Nat} (ha : a ≠ 0) (hb : b ≠ 0) (h1 : a < 2 ^ 53) (h2 : b < 2 ^ 53) :
    ∃ mag place, double.div (FloatKind.f64.nearest a) (FloatKind.f64.nearest b) = some (double.nearest false mag place) ∧ (-2148 : Int) ≤ place ∧
      (∀ k t X, k * b ≤ a → k * 2 ^ 2148 ≤ mag * 2 ^ (place + 2148).toNat ∧ (t ≤ b.log2 + 1 → a * 2 ^ t ≤ X * b → mag * 2 ^ (place + 2148).toNat ≤ X * 2 ^ (2148 - t))) := by
  obtain ⟨m1, m2, m3⟩ := head_bd ha h1
  obtain ⟨n1, n2, n3⟩ := head_bd hb h2
  generalize hla : 52 - a.log2 = la at *
  generalize hlb : 52 - b.log2 = lb at *
  have e1 := near_norm ha h1
  have e2 := near_norm hb h2
  rw [hla] at e1
  rw [hlb] at e2
  have hn0 : b * 2 ^ lb ≠ 0 := by omega
  have hm0 : a * 2 ^ la ≠ 0 := by omega
  have hpl : (-(la : Int) - -(lb : Int) - ((54 : Nat) : Int) - 1 + 2148).toNat = 2093 + lb - la := by omega
  refine ⟨2 * (((a * 2 ^ la) <<< 54) / (b * 2 ^ lb)) + (((a * 2 ^ la) <<< 54) % (b * 2 ^ lb) != 0).toNat, -(la : Int) - -(lb : Int) - ((54 : Nat) : Int) - 1, ?_, by omega, fun k t X hk => ?_⟩
  · unfold Format.div
    rw [e1, e2]
    simp only [Datum.quotient, if_neg hn0]
    have hmore : double.fractionBits + 2 + (b * 2 ^ lb).log2 - (a * 2 ^ la).log2 = 54 := by
      rw [log2_of m1 m2, log2_of n1 n2]; rfl
    rw [hmore]
    rfl
  · rw [hpl, Nat.shiftLeft_eq, pow_mul_pow rfl]
    have hnp : 0 < b * 2 ^ lb := Nat.pos_of_ne_zero hn0
    constructor
    · have hK : k * 2 ^ (la + 54 - lb) * (b * 2 ^ lb) ≤ a * 2 ^ (la + 54) := by
        have : k * 2 ^ (la + 54 - lb) * (b * 2 ^ lb) = k * b * 2 ^ (la + 54) := by
          rw [show la + 54 = (la + 54 - lb) + lb by omega, Nat.pow_add, Nat.add_sub_cancel]
          ac_rfl
        rw [this]
        exact Nat.mul_le_mul_right _ hk
      have := (quo_digits hnp (K := k * 2 ^ (la + 54 - lb))).1 hK
      have h := Nat.mul_le_mul_right (2 ^ (2093 + lb - la)) this
      refine Nat.le_trans (Nat.le_of_eq ?_) h
      rw [show 2 * (k * 2 ^ (la + 54 - lb)) = k * 2 ^ (la + 55 - lb) by rw [show la + 55 - lb = (la + 54 - lb) + 1 by omega, Nat.pow_succ]; ac_rfl]
      rw [pow_mul_pow (show la + 55 - lb + (2093 + lb - la) = 2148 by omega)]
    · intro ht hX
      have hK : a * 2 ^ (la + 54) ≤ X * 2 ^ (la + 54 - lb - t) * (b * 2 ^ lb) := by
        have e : X * 2 ^ (la + 54 - lb - t) * (b * 2 ^ lb) = X * b * 2 ^ (la + 54 - t) := by
          rw [show la + 54 - t = (la + 54 - lb - t) + lb by omega, Nat.pow_add]
          ac_rfl
        rw [e, show la + 54 = t + (la + 54 - t) by omega, Nat.pow_add, ← Nat.mul_assoc, show t + (la + 54 - t) - t = la + 54 - t by omega]
        exact Nat.mul_le_mul_right _ hX
      have := (quo_digits hnp (K := X * 2 ^ (la + 54 - lb - t))).2 hK
      have h := Nat.mul_le_mul_right (2 ^ (2093 + lb - la)) this
      refine Nat.le_trans h (Nat.le_of_eq ?_)
      rw [show 2 * (X * 2 ^ (la + 54 - lb - t)) = X * 2 ^ (la + 55 - lb - t) by rw [show la + 55 - lb - t = (la + 54 - lb - t) + 1 by omega, Nat.pow_succ]; ac_rfl]
      rw [pow_mul_pow (show la + 55 - lb - t + (2093 + lb - la) = 2148 - t by omega)]

theorem nearest_le (mag : Nat) (place : Int) : double.nearest false mag place ≤ double.infRung := by
  unfold Format.nearest
  split
  · rw [word_val]; simp
  · rw [word_val]; simp only [Bool.false_eq_true, if_false]; exact Nat.min_le_right _ _

theorem pos_read {r : Nat} (h : r ≤ double.infRung) (hf : Fin64 r) : (∃ m i, double.read r = .number false m i) ∧ 0 ≤ sv r := by
  have hr : r < double.infRung := by
    unfold Fin64 at hf
    have hI := infRung_val
    have hs : double.signWeight = 2 ^ 63 := rfl
    rw [hs] at hf
    rwa [Nat.mod_eq_of_lt (by omega)] at hf
  have hs : sv r = _ := (word_sv (neg := false) hr).2
  have hrd : double.read r = _ := read_word (neg := false) hr
  refine ⟨?_, by rw [hs]; simp⟩
  rw [hrd]
  split
  · exact ⟨_, _, rfl⟩
  · exact ⟨_, _, rfl⟩

theorem scaled_lt {X Y s e : Nat} (h : X + 1 = Y * 2 ^ s) (hs : s ≤ e) : X * 2 ^ (e - s) < Y * 2 ^ e := by
  have : X * 2 ^ (e - s) < (X + 1) * 2 ^ (e - s) := Nat.mul_lt_mul_of_pos_right (by omega) (Nat.two_pow_pos _)
  rwa [h, pow_mul_pow (show s + (e - s) = e by omega)] at this

theorem big_place {X m q e : Nat} (h0 : X ≠ 0) (h : X * 2 ^ e = m * 2 ^ q) (hm : m < 2 ^ 53) (he : 106 ≤ e) : 53 ≤ q := by
  rcases Nat.lt_or_ge q 53 with c | c
  · exfalso
    have e1 : m * 2 ^ q < 2 ^ 53 * 2 ^ 53 := by
      have : 2 ^ q ≤ 2 ^ 53 := Nat.pow_le_pow_right (by decide) (by omega)
      exact Nat.lt_of_lt_of_le (Nat.mul_lt_mul_of_pos_right hm (Nat.two_pow_pos q)) (Nat.mul_le_mul_left _ this)
    have e2 : 1 * 2 ^ e ≤ X * 2 ^ e := Nat.mul_le_mul_right _ (by omega)
    rw [h, Nat.one_mul] at e2
    have e3 : (2 : Nat) ^ 53 * 2 ^ 53 ≤ 2 ^ e := by rw [← Nat.pow_add]; exact Nat.pow_le_pow_right (by decide) he
    exact absurd (Nat.lt_of_le_of_lt (Nat.le_trans e3 e2) e1) (Nat.lt_irrefl _)
  · exact c

/-- The quotient of whole floats lies where its whole part says. -/
theorem div_floor {a b : Nat} (hb : b ≠ 0) (h : a + b ≤ 2 ^ 52) : ∃ r, double.div (FloatKind.f64.nearest a) (FloatKind.f64.nearest b) = some r ∧ Fin64 r ∧ (∃ m i, double.read r = .number false m i) ∧
    ((a / b : Nat) : Int) * KK ≤ sv r ∧ sv r < ((a / b + 1 : Nat) : Int) * KK := by
  have hK := KK_pos
  by_cases ha : a = 0
  · subst ha
    refine ⟨0, ?_, by unfold Fin64; decide, ⟨0, -1074, by decide⟩, ?_⟩
    · have e2 := near_norm hb (by omega)
      obtain ⟨n1, _⟩ := head_bd hb (by omega)
      have hn0 : b * 2 ^ (52 - b.log2) ≠ 0 := by omega
      have e1 : double.read (FloatKind.f64.nearest ((0 : Nat) : Int)) = .number false 0 (-1074) := by
        have : FloatKind.f64.nearest ((0 : Nat) : Int) = 0 := near_zero
        rw [this]; decide
      unfold Format.div
      rw [e1, e2]
      simp only [Datum.quotient, if_neg hn0, Nat.zero_shiftLeft, Nat.zero_div, Nat.zero_mod, Option.map_some, Format.write]
      have : (0 != 0 : Bool).toNat = 0 := rfl
      rw [this, Nat.mul_zero, Nat.add_zero, nearest_zero]
      rfl
    · have hz : sv 0 = 0 := by
        have : (0 : Nat) = double.word false 0 := rfl
        rw [this]; exact (word_zero false).2
      rw [hz, Nat.zero_div]
      constructor
      · simp
      · simpa using hK
  · obtain ⟨mag, place, hd, hp, hall⟩ := div_data ha hb (by omega) (by omega)
    generalize hP : (place + 2148).toNat = P at *
    have hkb : a / b * b ≤ a := Nat.div_mul_le_self a b
    have hka : a < (a / b + 1) * b := by
      have := Nat.div_add_mod a b
      have := Nat.mod_lt a (Nat.pos_of_ne_zero hb)
      rw [Nat.add_mul, Nat.one_mul, Nat.mul_comm (a / b)]; omega
    generalize hk : a / b = k at *
    have hb1 := Nat.lt_log2_self (n := b)
    have hb2 := Nat.log2_self_le hb
    generalize hT : b.log2 = L at *
    have h2b : 2 ^ (L + 1) ≤ 2 * b := by rw [Nat.pow_succ]; omega
    have hX1 : (k + 1) * 2 ^ (L + 1) ≤ 2 ^ 53 := by
      have e1 : (k + 1) * 2 ^ (L + 1) ≤ (k + 1) * (2 * b) := Nat.mul_le_mul_left _ h2b
      have e2 : (k + 1) * (2 * b) = 2 * (k * b + b) := by rw [Nat.add_mul, Nat.one_mul, Nat.mul_left_comm]; omega
      omega
    have hp2 : 0 < 2 ^ (L + 1) := Nat.two_pow_pos _
    have hpos : 0 < (k + 1) * 2 ^ (L + 1) := Nat.mul_pos (by omega) hp2
    have hXb : a * 2 ^ (L + 1) ≤ ((k + 1) * 2 ^ (L + 1) - 1) * b := by
      have e1 : (a + 1) * 2 ^ (L + 1) ≤ (k + 1) * b * 2 ^ (L + 1) := Nat.mul_le_mul_right _ hka
      rw [Nat.add_mul, Nat.one_mul] at e1
      rw [Nat.sub_mul, Nat.one_mul]
      have e2 : (k + 1) * 2 ^ (L + 1) * b = (k + 1) * b * 2 ^ (L + 1) := by ac_rfl
      rw [e2]
      omega
    obtain ⟨lo, hi⟩ := hall k (L + 1) ((k + 1) * 2 ^ (L + 1) - 1) hkb
    have hi := hi (Nat.le_refl _) hXb
    have hX0 : (k + 1) * 2 ^ (L + 1) - 1 ≠ 0 := by
      have : 2 ≤ 2 ^ (L + 1) := by rw [Nat.pow_succ]; have := Nat.two_pow_pos L; omega
      have : 1 * 2 ≤ (k + 1) * 2 ^ (L + 1) := Nat.mul_le_mul (by omega) this
      omega
    have hL : L ≤ 52 := by
      rcases Nat.lt_or_ge 52 L with c | c
      · have : 2 ^ 53 ≤ 2 ^ L := Nat.pow_le_pow_right (by decide) c
        omega
      · exact c
    have hX53 : (k + 1) * 2 ^ (L + 1) - 1 ≤ 2 ^ 53 := by omega
    have hXs : (k + 1) * 2 ^ (L + 1) - 1 + 1 = (k + 1) * 2 ^ (L + 1) := by omega
    generalize (k + 1) * 2 ^ (L + 1) - 1 = X at *
    have hXK := scaled_lt (e := 1074) hXs (by omega)
    obtain ⟨m, q, g1, g2, g3, g4⟩ := int_norm hX0 hX53
    have hq : L + 1 ≤ q := Nat.le_trans (by omega) (big_place hX0 g4 g2 (by decide))
    have hXm : X * 2 ^ (1074 - (L + 1)) = m * 2 ^ (q - (L + 1)) := by
      refine Nat.mul_right_cancel (Nat.two_pow_pos (L + 1)) ?_
      rw [pow_mul_pow (show 1074 - (L + 1) + (L + 1) = 1074 by omega), pow_mul_pow (show q - (L + 1) + (L + 1) = q by omega)]
      exact g4
    have hV : mag * 2 ^ (place + 2148).toNat = (((mag * 2 ^ P : Nat) : Int)).natAbs := by rw [hP, Int.natAbs_natCast]
    have hup : (((mag * 2 ^ P : Nat) : Int)).natAbs ≤ m * 2 ^ (q - (L + 1) + 1074) := by
      rw [Int.natAbs_natCast]
      refine Nat.le_trans hi (Nat.le_of_eq ?_)
      rw [← pow_mul_pow (x := m) (show q - (L + 1) + 1074 = q - (L + 1) + 1074 from rfl), ← hXm, pow_mul_pow (show 1074 - (L + 1) + 1074 = 2148 - (L + 1) by omega)]
    obtain ⟨u1, u2⟩ := up_of (neg := false) hp hV g1 g2 (show q - (L + 1) < 2046 by omega) hup
    obtain ⟨r1, r2⟩ := pos_read (nearest_le mag place) u1
    refine ⟨_, hd, u1, r1, ?_, ?_⟩
    · by_cases hk0 : k = 0
      · rw [hk0]; simpa using r2
      · obtain ⟨m', q', d1, d2, d3, d4⟩ := int_norm hk0 (show k ≤ 2 ^ 53 by
          have : k * 1 ≤ k * b := Nat.mul_le_mul_left _ (Nat.pos_of_ne_zero hb)
          omega)
        have hdn : m' * 2 ^ (q' + 1074) ≤ (((mag * 2 ^ P : Nat) : Int)).natAbs := by
          rw [Int.natAbs_natCast]
          refine Nat.le_trans (Nat.le_of_eq ?_) lo
          rw [← pow_mul_pow (x := m') (show q' + 1074 = q' + 1074 from rfl), ← d4, pow_mul_pow (show 1074 + 1074 = 2148 from rfl)]
        rcases down_of (neg := false) hp hV (fun _ => (decide_eq_false (by omega)).symm) d1 d2 hdn with ⟨_, c⟩ | c
        · rcases c with ⟨_, c⟩ | ⟨c, _⟩
          · refine Int.le_trans (Int.le_of_eq ?_) c
            rw [← d4, Int.natCast_mul, ← KK_abs, Int.natAbs_of_nonneg (Int.le_of_lt hK)]
          · omega
        · rw [c] at u1
          exfalso
          unfold Fin64 at u1
          have : ∀ b : Bool, double.word b double.infRung % double.signWeight = double.infRung := by decide
          rw [this] at u1
          omega
    · have e1 : sv (double.nearest false mag place) ≤ ((m * 2 ^ (q - (L + 1)) : Nat) : Int) := by omega
      refine Int.lt_of_le_of_lt e1 ?_
      rw [← hXm]
      have : (((k + 1 : Nat) : Int)) * KK = (((k + 1) * 2 ^ 1074 : Nat) : Int) := by
        rw [Int.natCast_mul, ← KK_abs, Int.natAbs_of_nonneg (Int.le_of_lt hK)]
      rw [this]
      exact Int.ofNat_lt.2 hXK

/-- The whole part of a quotient, as a float. -/
theorem quo_whole {a b : Int} {r : Nat} {way : Toward} (hw : way = .down ∨ way = .zero) (ha : 0 ≤ a) (hb : 0 < b) (h : a + b ≤ 2 ^ 52) (hr : double.div (FloatKind.f64.nearest a) (FloatKind.f64.nearest b) = some r) :
    FloatKind.f64.encode ((FloatKind.f64.decode r).integral way) = FloatKind.f64.nearest (a.tdiv b) ∧ ∀ s t, FloatKind.f64.decode r ≠ .nan s t := by
  obtain ⟨a, rfl⟩ := Int.eq_ofNat_of_zero_le ha
  obtain ⟨b, rfl⟩ := Int.eq_ofNat_of_zero_le (Int.le_of_lt hb)
  obtain ⟨r', h1, h2, ⟨m, i, h3⟩, h4, h5⟩ := div_floor (a := a) (b := b) (by omega) (by omega)
  have : r' = r := by
    rw [hr] at h1; exact (Option.some.inj h1).symm
  subst this
  have hK := KK_pos
  have hf : flr r' = ((a / b : Nat) : Int) := by
    refine Int.le_antisymm ?_ (le_flr.2 h4)
    have := flr_lt.2 h5
    omega
  have hd := toInt_down h2
  rw [hf] at hd
  have h3 : FloatKind.f64.decode r' = .number false m i := h3
  refine ⟨?_, not_nan h2⟩
  rw [h3] at hd ⊢
  simp only [Datum.toInt, Datum.integral, Option.some.injEq] at hd
  have hz : signed false (Toward.down.cut false (m <<< i.toNat) (-i).toNat) 0 = ((Toward.down.cut false (m <<< i.toNat) (-i).toNat : Nat) : Int) := by
    rw [signed_eq]; simp
  rw [hz] at hd
  have hd : Toward.down.cut false (m <<< i.toNat) (-i).toNat = a / b := Int.ofNat.inj hd
  have hcut : way.cut false (m <<< i.toNat) (-i).toNat = a / b := by
    rw [cut_down] at hd
    rcases hw with rfl | rfl
    · rw [cut_down]; exact hd
    · rw [cut_zero_way]; simpa using hd
  have ht : ((a : Nat) : Int).tdiv ((b : Nat) : Int) = ((a / b : Nat) : Int) := by
    rw [Int.tdiv_eq_ediv_of_nonneg (by omega)]; rfl
  simp only [Datum.integral, hcut]
  rw [ht, near_eq, Int.natAbs_natCast, decide_eq_false (show ¬ (((a / b : Nat) : Int) < 0) by omega)]
  rfl

theorem pow_ne0 (e : Nat) : 2 ^ e ≠ 0 := by have := Nat.two_pow_pos e; omega
/-- A quotient that leaves nothing over. -/
theorem div_exact {k b : Nat} (hb : b ≠ 0) (h1 : k * b < 2 ^ 53) (h2 : b < 2 ^ 53) : double.div (FloatKind.f64.nearest ((k * b : Nat) : Int)) (FloatKind.f64.nearest b) = some (FloatKind.f64.nearest k) := by
  have hK := KK_pos
  by_cases hk : k = 0
  · subst hk
    have e2 := near_norm hb h2
    obtain ⟨n1, _⟩ := head_bd hb h2
    have hn0 : b * 2 ^ (52 - b.log2) ≠ 0 := by omega
    have e1 : double.read (FloatKind.f64.nearest ((0 * b : Nat) : Int)) = .number false 0 (-1074) := by
      have : FloatKind.f64.nearest ((0 * b : Nat) : Int) = 0 := by rw [Nat.zero_mul]; exact near_zero
      rw [this]; decide
    unfold Format.div
    rw [e1, e2]
    simp only [Datum.quotient, if_neg hn0, Nat.zero_shiftLeft, Nat.zero_div, Nat.zero_mod, Option.map_some, Format.write]
    have : (0 != 0 : Bool).toNat = 0 := rfl
    rw [this, Nat.mul_zero, Nat.add_zero, nearest_zero]
    have : FloatKind.f64.nearest ((0 : Nat) : Int) = 0 := near_zero
    rw [this]; rfl
  · have hkb : k * b ≠ 0 := Nat.mul_ne_zero hk hb
    obtain ⟨mag, place, hd, hp, hall⟩ := div_data hkb hb h1 h2
    obtain ⟨lo, hi⟩ := hall k 0 k (Nat.le_refl _)
    have hi := hi (Nat.zero_le _) (Nat.le_of_eq (Nat.mul_one _))
    rw [Nat.sub_zero] at hi
    have hV0 : mag * 2 ^ (place + 2148).toNat = k * 2 ^ 2148 := Nat.le_antisymm hi lo
    clear hi lo hall
    obtain ⟨e, he⟩ : ∃ e : Nat, e = 2148 := ⟨_, rfl⟩
    rw [← he] at hV0
    have hk53 : k < 2 ^ 53 := by
      have : k * 1 ≤ k * b := Nat.mul_le_mul_left _ (Nat.pos_of_ne_zero hb)
      omega
    obtain ⟨m, q, g1, g2, g3, g4⟩ := int_norm hk (Nat.le_of_lt hk53)
    have hE0 : k * 2 ^ e = m * 2 ^ (q + 1074) := by
      rw [← pow_mul_pow (x := m) (show q + 1074 = q + 1074 from rfl), ← g4, pow_mul_pow (show 1074 + 1074 = e from he.symm)]
    have hne : k * 2 ^ e ≠ 0 := Nat.mul_ne_zero hk (pow_ne0 _)
    generalize k * 2 ^ e = V0 at *
    have hV : mag * 2 ^ (place + 2148).toNat = ((V0 : Nat) : Int).natAbs := by rw [hV0, Int.natAbs_natCast]
    have hE : ((V0 : Nat) : Int).natAbs = m * 2 ^ (q + 1074) := by rw [Int.natAbs_natCast]; exact hE0
    have hpos : (0 : Int) < ((V0 : Nat) : Int) := Int.ofNat_lt.2 (Nat.pos_of_ne_zero hne)
    obtain ⟨r1, r2, _⟩ := exact_of (neg := false) hp hV (fun _ => (decide_eq_false (Int.not_lt.2 (Int.le_of_lt hpos))).symm) g1 g2 g3 hE
    have hs : sv (double.nearest false mag place) = (k : Int) * KK := by
      rw [r2 hpos, ← g4, Int.natCast_mul, ← KK_abs, Int.natAbs_of_nonneg (Int.le_of_lt hK)]
    have hw := whole_of (n := k) r1 hs (nearest_lt _ _ _) (by omega) (by omega)
    rw [hd, hw.exact (by omega)]

theorem quo_exact {a b : Int} (ha : 0 ≤ a) (hb : 0 < b) (h1 : a < 2 ^ 53) (h2 : b < 2 ^ 53) (h : a.tmod b = 0) : double.div (FloatKind.f64.nearest a) (FloatKind.f64.nearest b) = some (FloatKind.f64.nearest (a.tdiv b)) := by
  have e := Int.mul_tdiv_add_tmod a b
  rw [h, Int.add_zero] at e
  have hk0 : 0 ≤ a.tdiv b := Int.tdiv_nonneg ha (Int.le_of_lt hb)
  generalize a.tdiv b = k at *
  subst e
  obtain ⟨k, rfl⟩ := Int.eq_ofNat_of_zero_le hk0
  obtain ⟨b, rfl⟩ := Int.eq_ofNat_of_zero_le (Int.le_of_lt hb)
  have e2 : ((b : Nat) : Int) * ((k : Nat) : Int) = ((k * b : Nat) : Int) := by rw [Int.mul_comm, ← Int.natCast_mul]
  have h1 : k * b < 2 ^ 53 := by rw [e2] at h1; exact Int.ofNat_lt.1 h1
  have := div_exact (k := k) (b := b) (by omega) h1 (by omega)
  rw [← e2] at this
  exact this
end Go.Ev
