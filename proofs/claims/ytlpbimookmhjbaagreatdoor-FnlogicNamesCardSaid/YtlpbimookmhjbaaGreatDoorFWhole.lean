/- Floats that are whole numbers: sums, differences, products, comparisons. -/
import Derived.Test.YtlpbimookmhjbaaGreatDoorFRound2
namespace Go.Ev
open Ieee

/-! ### A float is told by its value, but for the sign of a nought -/
theorem rv_step (r : Nat) : rv r < rv (r + 1) := by
  unfold rv
  by_cases h : r < 2 ^ 52
  · rw [if_pos h]
    by_cases h' : r + 1 < 2 ^ 52
    · rw [if_pos h']; omega
    · rw [if_neg h']
      have : r + 1 = 2 ^ 52 := by omega
      rw [this]
      have : (2 ^ 52 + 2 ^ 52 % 2 ^ 52) * 2 ^ (2 ^ 52 / 2 ^ 52 - 1) = 2 ^ 52 := by decide
      omega
  · have h' : ¬ r + 1 < 2 ^ 52 := by omega
    rw [if_neg h, if_neg h']
    have hd := Nat.div_add_mod r (2 ^ 52)
    have hm := Nat.mod_lt r (show 0 < 2 ^ 52 by decide)
    have h1 : 1 ≤ r / 2 ^ 52 := (Nat.le_div_iff_mul_le (by decide)).2 (by omega)
    by_cases hc : r % 2 ^ 52 + 1 < 2 ^ 52
    · have e1 : (r + 1) % 2 ^ 52 = r % 2 ^ 52 + 1 := by omega
      have e2 : (r + 1) / 2 ^ 52 = r / 2 ^ 52 := by omega
      rw [e1, e2]
      exact Nat.mul_lt_mul_of_pos_right (by omega) (Nat.two_pow_pos _)
    · have e1 : (r + 1) % 2 ^ 52 = 0 := by omega
      have e2 : (r + 1) / 2 ^ 52 = r / 2 ^ 52 + 1 := by omega
      rw [e1, e2, show r / 2 ^ 52 + 1 - 1 = (r / 2 ^ 52 - 1) + 1 by omega, Nat.pow_succ 2 (r / 2 ^ 52 - 1), Nat.add_zero]
      have hp := Nat.two_pow_pos (r / 2 ^ 52 - 1)
      generalize 2 ^ (r / 2 ^ 52 - 1) = p at *
      have a : (2 ^ 52 + r % 2 ^ 52) * p < 2 ^ 53 * p := Nat.mul_lt_mul_of_pos_right (by omega) hp
      have b : 2 ^ 53 * p = 2 ^ 52 * (p * 2) := by omega
      exact Nat.lt_of_lt_of_eq a b
theorem rv_lt {a b : Nat} (h : a < b) : rv a < rv b := Nat.lt_of_lt_of_le (rv_step a) (rv_mono h)
theorem rv_inj {a b : Nat} (h : rv a = rv b) : a = b := by
  rcases Nat.lt_trichotomy a b with c | c | c
  · have := rv_lt c; omega
  · exact c
  · have := rv_lt c; omega
theorem rv_zero : rv 0 = 0 := by decide
theorem word_val (neg : Bool) (r : Nat) : double.word neg r = if neg then 2 ^ 63 + r else r := rfl
theorem infRung_val : double.infRung = 9218868437227405312 := by decide
/-- A word of 64 bits. -/
theorem word_of {x : Nat} (h : x < 2 ^ 64) : x = double.word (decide (2 ^ 63 ≤ x)) (x % 2 ^ 63) := by
  rw [word_val]
  by_cases c : 2 ^ 63 ≤ x
  · rw [decide_eq_true c]; simp only [if_true]; omega
  · rw [decide_eq_false c]; simp only [Bool.false_eq_true, if_false]; omega
theorem fin_rung {x : Nat} (h : Fin64 x) : x % 2 ^ 63 < double.infRung := h
theorem sv_word {x : Nat} (hx : Fin64 x) (h : x < 2 ^ 64) : sv x = (if 2 ^ 63 ≤ x then -1 else 1) * (rv (x % 2 ^ 63) : Int) := by
  have := (word_sv (neg := decide (2 ^ 63 ≤ x)) (fin_rung hx)).2
  rw [← word_of h] at this
  rw [this]
  by_cases c : 2 ^ 63 ≤ x
  · rw [decide_eq_true c, if_pos c]; rfl
  · rw [decide_eq_false c, if_neg c]; rfl
theorem sv_inj {x y : Nat} (hx : Fin64 x) (hy : Fin64 y) (h1 : x < 2 ^ 64) (h2 : y < 2 ^ 64) (h : sv x = sv y) (h0 : sv x ≠ 0) : x = y := by
  rw [sv_word hx h1] at h h0
  rw [sv_word hy h2] at h
  have e : (2 ^ 63 ≤ x ↔ 2 ^ 63 ≤ y) ∧ rv (x % 2 ^ 63) = rv (y % 2 ^ 63) := by
    generalize rv (x % 2 ^ 63) = u at *
    generalize rv (y % 2 ^ 63) = v at *
    by_cases c : 2 ^ 63 ≤ x <;> by_cases d : 2 ^ 63 ≤ y
    · rw [if_pos c, if_pos d] at h; exact ⟨⟨fun _ => d, fun _ => c⟩, by omega⟩
    · rw [if_pos c, if_neg d] at h; rw [if_pos c] at h0; omega
    · rw [if_neg c, if_pos d] at h; rw [if_neg c] at h0; omega
    · rw [if_neg c, if_neg d] at h; exact ⟨⟨fun h => (c h).elim, fun h => (d h).elim⟩, by omega⟩
  have e2 := rv_inj e.2
  by_cases c : 2 ^ 63 ≤ x
  · have := e.1.1 c; omega
  · have : ¬ 2 ^ 63 ≤ y := fun h => c (e.1.2 h)
    omega
theorem sv_nought {x : Nat} (hx : Fin64 x) (h1 : x < 2 ^ 64) (h : sv x = 0) : x = 0 ∨ x = 2 ^ 63 := by
  rw [sv_word hx h1] at h
  have : rv (x % 2 ^ 63) = 0 := by
    by_cases c : 2 ^ 63 ≤ x <;> simp only [c, if_true, if_false] at h <;> omega
  have : x % 2 ^ 63 = 0 := rv_inj (by rw [this, rv_zero])
  omega
theorem nearest_lt (neg : Bool) (mag : Nat) (place : Int) : double.nearest neg mag place < 2 ^ 64 := by
  unfold Format.nearest
  split
  · rw [word_val]; split <;> omega
  · rw [word_val]
    have := infRung_val
    split <;> omega

/-! ### Whole numbers -/
theorem near_eq (n : Int) : FloatKind.f64.nearest n = double.nearest (decide (n < 0)) n.natAbs 0 := rfl
theorem near_zero : FloatKind.f64.nearest 0 = 0 := by rw [near_eq]; decide
theorem near_lt (n : Int) : FloatKind.f64.nearest n < 2 ^ 64 := by rw [near_eq]; exact nearest_lt _ _ _
theorem WholeF.near {n : Int} (h1 : -(2 ^ 53) ≤ n) (h2 : n ≤ 2 ^ 53) : WholeF n (FloatKind.f64.nearest n) := ⟨h1, h2, .inl rfl⟩
theorem m0_fin : Fin64 (2 ^ 63) ∧ sv (2 ^ 63) = 0 := by
  have h : (2 : Nat) ^ 63 = double.word true 0 := by decide
  rw [h]; exact word_zero true
theorem whole_sv {n : Int} {f : Nat} (h : WholeF n f) : Fin64 f ∧ sv f = n * KK ∧ f < 2 ^ 64 := by
  obtain ⟨h1, h2, rfl | ⟨rfl, rfl⟩⟩ := h
  · obtain ⟨a, b⟩ := nearest_int h1 h2; exact ⟨a, b, near_lt n⟩
  · exact ⟨m0_fin.1, by rw [m0_fin.2, Int.zero_mul], by decide⟩
theorem whole_of {n : Int} {f : Nat} (hf : Fin64 f) (hs : sv f = n * KK) (h : f < 2 ^ 64) (h1 : -(2 ^ 53) ≤ n) (h2 : n ≤ 2 ^ 53) : WholeF n f := by
  refine ⟨h1, h2, ?_⟩
  by_cases h0 : n = 0
  · subst h0
    rw [Int.zero_mul] at hs
    rcases sv_nought hf h hs with rfl | rfl
    · exact .inl near_zero.symm
    · exact .inr ⟨rfl, rfl⟩
  · obtain ⟨a, b⟩ := nearest_int h1 h2
    left
    refine sv_inj hf a h (near_lt n) (by rw [hs, b]) ?_
    rw [hs]
    intro e
    rcases Int.mul_eq_zero.1 e with c | c
    · exact h0 c
    · have := KK_pos; omega
theorem WholeF.exact {n : Int} {f : Nat} (h : WholeF n f) (h0 : n ≠ 0) : f = FloatKind.f64.nearest n := by
  obtain ⟨_, _, e | ⟨e, _⟩⟩ := h
  · exact e
  · exact (h0 e).elim
/-- The sign of a whole number's float. -/
theorem near_read {n : Int} (h0 : n ≠ 0) (h1 : -(2 ^ 53) ≤ n) (h2 : n ≤ 2 ^ 53) : ∃ m i, double.read (FloatKind.f64.nearest n) = .number (decide (n < 0)) m i ∧ (-1074 : Int) ≤ i ∧ n * KK = signed (decide (n < 0)) m (i + 1074).toNat := by
  obtain ⟨hf, hs⟩ := nearest_int h1 h2
  obtain ⟨s, m, i, e, hi, hv⟩ := fin_parts hf
  rw [hs] at hv
  have hK := KK_pos
  have hsg : s = decide (n < 0) := by
    rw [signed_eq] at hv
    have hp := pow_pos_int (i + 1074).toNat
    have hm : (0 : Int) ≤ (m : Int) * 2 ^ (i + 1074).toNat := Int.mul_nonneg (by omega) (by omega)
    rcases Int.lt_trichotomy n 0 with c | c | c
    · have := Int.mul_neg_of_neg_of_pos c hK
      rw [decide_eq_true c]
      cases s
      · simp at hv; omega
      · rfl
    · exact (h0 c).elim
    · have := Int.mul_pos c hK
      rw [decide_eq_false (by omega)]
      cases s
      · rfl
      · simp at hv; omega
  subst hsg
  exact ⟨m, i, e, hi, hv⟩

theorem add_whole {x y : Nat} {a b : Int} (hx : WholeF a x) (hy : WholeF b y) (h1 : -(2 ^ 53) ≤ a + b) (h2 : a + b ≤ 2 ^ 53) :
    ∃ r, double.add x y = some r ∧ WholeF (a + b) r ∧ (x = FloatKind.f64.nearest a → y = FloatKind.f64.nearest b → r = FloatKind.f64.nearest (a + b)) := by
  obtain ⟨f1, s1, l1⟩ := whole_sv hx
  obtain ⟨f2, s2, l2⟩ := whole_sv hy
  obtain ⟨neg, mag, place, h, hp, hv, hn⟩ := add_data f1 f2
  obtain ⟨r1, r2⟩ := int_of_data (c := a + b) hp hv hn (by rw [s1, s2, Int.add_mul]) h1 h2
  have hw := whole_of r1 r2 (nearest_lt _ _ _) h1 h2
  refine ⟨_, h, hw, fun ex ey => ?_⟩
  by_cases h0 : a + b = 0
  · rw [h0, near_zero]
    by_cases ha : a = 0
    · have hb : b = 0 := by omega
      subst ha hb
      rw [near_zero] at ex ey
      subst ex ey
      have : double.add 0 0 = some 0 := by decide
      rw [this] at h
      exact (Option.some.inj h).symm
    · have hb : b ≠ 0 := by omega
      obtain ⟨m, i, e1, _, k1⟩ := near_read ha hx.1 hx.2.1
      obtain ⟨n, j, e2, _, k2⟩ := near_read hb hy.1 hy.2.1
      unfold Format.add at h
      rw [ex, ey, e1, e2] at h
      simp only [Datum.sum] at h
      generalize hT : signed (decide (a < 0)) m (i - min i j).toNat + signed (decide (b < 0)) n (j - min i j).toNat = T at h
      have hT0 : T = 0 := by
        have e1 : (i + 1074).toNat = (i - min i j).toNat + (min i j + 1074).toNat := by omega
        have e2 : (j + 1074).toNat = (j - min i j).toNat + (min i j + 1074).toNat := by omega
        rw [e1, signed_mul] at k1
        rw [e2, signed_mul] at k2
        have : T * 2 ^ (min i j + 1074).toNat = 0 := by
          rw [← hT, Int.add_mul, ← k1, ← k2, ← Int.add_mul, h0, Int.zero_mul]
        rcases Int.mul_eq_zero.1 this with c | c
        · exact c
        · have := pow_pos_int (min i j + 1074).toNat; omega
      subst hT0
      have hs : (decide (a < 0) && decide (b < 0)) = false := by
        rcases Int.lt_trichotomy a 0 with c | c | c
        · rw [decide_eq_false (show ¬ b < 0 by omega), Bool.and_false]
        · exact (ha c).elim
        · rw [decide_eq_false (show ¬ a < 0 by omega), Bool.false_and]
      simp only [if_true, hs, Int.natAbs_zero, Option.map_some, Format.write, nearest_zero] at h
      rw [← Option.some.inj h]
      rfl
  · exact hw.exact h0

theorem neg_word (s : Bool) {r : Nat} (hr : r < 2 ^ 63) : double.word s r ^^^ 2 ^ 63 = double.word (!s) r := by
  rw [word_val, word_val]
  have key : r ^^^ 2 ^ 63 = 2 ^ 63 + r := by
    have h1 := Nat.two_pow_add_eq_or_of_lt hr 1
    rw [Nat.mul_one] at h1
    rw [h1]
    apply Nat.eq_of_testBit_eq
    intro i
    rw [Nat.testBit_xor, Nat.testBit_or, Nat.testBit_two_pow]
    by_cases c : 63 = i
    · subst c
      rw [Nat.testBit_lt_two_pow hr]; rfl
    · simp [c]
  cases s
  · simp only [Bool.false_eq_true, if_false, Bool.not_false, if_true]; exact key
  · simp only [if_true, Bool.not_true, Bool.false_eq_true, if_false]
    rw [← key, Nat.xor_assoc, Nat.xor_self, Nat.xor_zero]

theorem neg_bits {x : Nat} (h : x < 2 ^ 64) : Op.negFloat .f64 x = double.word (!decide (2 ^ 63 ≤ x)) (x % 2 ^ 63) := by
  have := neg_word (decide (2 ^ 63 ≤ x)) (Nat.mod_lt x (by decide : 0 < 2 ^ 63))
  rw [← word_of h] at this
  exact this

theorem neg_fin {x : Nat} (hx : Fin64 x) (h : x < 2 ^ 64) : Fin64 (Op.negFloat .f64 x) ∧ sv (Op.negFloat .f64 x) = - sv x ∧ Op.negFloat .f64 x < 2 ^ 64 := by
  rw [neg_bits h]
  obtain ⟨a, b⟩ := word_sv (neg := !decide (2 ^ 63 ≤ x)) (fin_rung hx)
  refine ⟨a, ?_, by rw [word_val]; split <;> omega⟩
  rw [b, sv_word hx h]
  by_cases c : 2 ^ 63 ≤ x
  · rw [decide_eq_true c, if_pos c]; simp
  · rw [decide_eq_false c, if_neg c]; simp

theorem neg_whole {x : Nat} {a : Int} (hx : WholeF a x) : WholeF (-a) (Op.negFloat .f64 x) := by
  obtain ⟨f1, s1, l1⟩ := whole_sv hx
  obtain ⟨a1, a2, a3⟩ := neg_fin f1 l1
  exact whole_of a1 (by rw [a2, s1, Int.neg_mul]) a3 (by have := hx.2.1; omega) (by have := hx.1; omega)

theorem sub_whole {x y : Nat} {a b : Int} (hx : WholeF a x) (hy : WholeF b y) (h1 : -(2 ^ 53) ≤ a - b) (h2 : a - b ≤ 2 ^ 53) :
    ∃ r, double.sub x y = some r ∧ WholeF (a - b) r ∧ (x = FloatKind.f64.nearest a → y = FloatKind.f64.nearest b → r = FloatKind.f64.nearest (a - b)) := by
  obtain ⟨f1, s1, l1⟩ := whole_sv hx
  obtain ⟨f2, s2, l2⟩ := whole_sv hy
  obtain ⟨neg, mag, place, h, hp, hv, hn⟩ := sub_data f1 f2
  obtain ⟨r1, r2⟩ := int_of_data (c := a - b) hp hv hn (by rw [s1, s2, Int.sub_mul]) h1 h2
  have hw := whole_of r1 r2 (nearest_lt _ _ _) h1 h2
  refine ⟨_, h, hw, fun ex ey => ?_⟩
  by_cases h0 : a - b = 0
  · rw [h0, near_zero]
    have hab : b = a := by omega
    subst hab
    by_cases ha : b = 0
    · subst ha
      rw [near_zero] at ex ey
      subst ex ey
      have : double.sub 0 0 = some 0 := by decide
      rw [this] at h
      exact (Option.some.inj h).symm
    · obtain ⟨m, i, e1, _, k1⟩ := near_read ha hx.1 hx.2.1
      unfold Format.sub at h
      rw [ex, ey, e1] at h
      simp only [Datum.opposite, Datum.sum] at h
      have hT0 : signed (decide (b < 0)) m (i - min i i).toNat + signed (!decide (b < 0)) m (i - min i i).toNat = 0 := by rw [signed_neg]; omega
      have hs : (decide (b < 0) && !decide (b < 0)) = false := by cases decide (b < 0) <;> rfl
      rw [hT0] at h
      simp only [if_true, hs, Int.natAbs_zero, Option.map_some, Format.write, nearest_zero] at h
      rw [← Option.some.inj h]
      rfl
  · exact hw.exact h0

theorem abs_neg {t : Int} (h : t < 0) : (-(t.natAbs : Int)) = t := by omega
theorem abs_pos {t : Int} (h : 0 < t) : ((t.natAbs : Int)) = t := by omega
theorem twice {n K : Int} {m q e : Nat} (hK : K.natAbs = 2 ^ e) (h : n.natAbs * 2 ^ e = m * 2 ^ q) : (n * (K * K)).natAbs = m * 2 ^ (q + e) := by
  rw [Int.natAbs_mul, Int.natAbs_mul, hK, ← Nat.mul_assoc, h, Nat.mul_assoc, ← Nat.pow_add]
theorem mul_whole {x y : Nat} {a b : Int} (hx : WholeF a x) (hy : WholeF b y) (h1 : -(2 ^ 53) ≤ a * b) (h2 : a * b ≤ 2 ^ 53) :
    ∃ r, double.mul x y = some r ∧ WholeF (a * b) r := by
  obtain ⟨f1, s1, l1⟩ := whole_sv hx
  obtain ⟨f2, s2, l2⟩ := whole_sv hy
  obtain ⟨neg, mag, place, h, hp, hv, hn⟩ := mul_data f1 f2
  refine ⟨_, h, ?_⟩
  have hK := KK_pos
  have hV : sv x * sv y = (a * b) * (KK * KK) := by rw [s1, s2, Int.mul_assoc, Int.mul_left_comm KK b KK, ← Int.mul_assoc]
  by_cases h0 : a * b = 0
  · rw [hV, h0, Int.zero_mul] at hv
    have : mag = 0 := by
      rcases Nat.mul_eq_zero.1 hv with h | h
      · exact h
      · have := Nat.two_pow_pos (place + 2148).toNat; omega
    subst this
    rw [nearest_zero]
    obtain ⟨w1, w2⟩ := word_zero neg
    exact whole_of w1 (by rw [w2, h0, Int.zero_mul]) (by rw [word_val]; split <;> omega) h1 h2
  · obtain ⟨m, q, k1, k2, k3, k4⟩ := int_norm (c := (a * b).natAbs) (by omega) (by omega)
    have hA : (sv x * sv y).natAbs = m * 2 ^ (q + 1074) := by rw [hV]; exact twice KK_abs k4
    obtain ⟨r1, r2, r3⟩ := exact_of hp hv hn k1 k2 k3 hA
    refine whole_of r1 ?_ (nearest_lt _ _ _) h1 h2
    have hc : ((m * 2 ^ q : Nat) : Int) = ((a * b).natAbs : Int) * KK := by
      rw [← k4, Int.natCast_mul, ← KK_abs, Int.natAbs_of_nonneg (Int.le_of_lt hK)]
    rcases Int.lt_trichotomy (a * b) 0 with c | c | c
    · exact (r3 (by rw [hV]; exact Int.mul_neg_of_neg_of_pos c (Int.mul_pos hK hK))).trans ((congrArg (fun t : Int => -t) hc).trans ((Int.neg_mul _ _).symm.trans (congrArg (fun t : Int => t * KK) (abs_neg c))))
    · exact (h0 c).elim
    · exact (r2 (by rw [hV]; exact Int.mul_pos c (Int.mul_pos hK hK))).trans (hc.trans (congrArg (fun t : Int => t * KK) (abs_pos c)))
/-- Of what is not below nought a product is no -0. -/
theorem mul_exact {x y : Nat} {a b : Int} (hx : x = FloatKind.f64.nearest a) (hy : y = FloatKind.f64.nearest b) (ha : 0 ≤ a) (hb : 0 ≤ b) (h3 : a ≤ 2 ^ 53) (h4 : b ≤ 2 ^ 53) (h2 : a * b ≤ 2 ^ 53) :
    double.mul x y = some (FloatKind.f64.nearest (a * b)) := by
  have h1 : 0 ≤ a * b := Int.mul_nonneg ha hb
  obtain ⟨r, e, hw⟩ := mul_whole (x := x) (y := y) (a := a) (b := b) ⟨by omega, h3, .inl hx⟩ ⟨by omega, h4, .inl hy⟩ (by omega) h2
  by_cases h0 : a * b = 0
  · rw [h0, near_zero]
    have rd : ∀ c : Int, 0 ≤ c → c ≤ 2 ^ 53 → ∃ m i, double.read (FloatKind.f64.nearest c) = .number false m i ∧ (c = 0 → m = 0) := fun c h h' => by
      by_cases hc : c = 0
      · subst hc; rw [near_zero]; exact ⟨0, -1074, by decide, fun _ => rfl⟩
      · obtain ⟨m, i, e, _⟩ := near_read hc (by omega) h'
        rw [decide_eq_false (show ¬ c < 0 by omega)] at e
        exact ⟨m, i, e, fun h => (hc h).elim⟩
    obtain ⟨m, i, e1, z1⟩ := rd a ha h3
    obtain ⟨n, j, e2, z2⟩ := rd b hb h4
    have hmn : m * n = 0 := by
      rcases Int.mul_eq_zero.1 h0 with c | c
      · rw [z1 c, Nat.zero_mul]
      · rw [z2 c, Nat.mul_zero]
    unfold Format.mul
    rw [hx, hy, e1, e2]
    simp only [Datum.product, hmn, Option.map_some, Format.write, nearest_zero]
    rfl
  · rw [e, hw.exact h0]

theorem cmp_sv {x y : Nat} (f1 : Fin64 x) (f2 : Fin64 y) {op : BinOp} {k : IntKind} (hop : isCmp op = true) : fcmpV op .f64 x y = ibin op k (sv x) (sv y) := by
  have ho : FloatKind.f64.format.order x y = some (compare (sv x) (sv y)) := ford_fin f1 f2
  generalize sv x = a at *
  generalize sv y = b at *
  rcases Int.lt_trichotomy a b with c | c | c
  · have e : compare a b = .lt := Int.compare_eq_lt.2 c
    have e1 : (a == b) = false := by simp; omega
    have e2 : decide (a < b) = true := by simp; omega
    have e3 : decide (a ≤ b) = true := by simp; omega
    have e4 : decide (a > b) = false := by simp; omega
    have e5 : decide (a ≥ b) = false := by simp; omega
    cases op <;> simp only [isCmp, Bool.false_eq_true] at hop <;> simp only [fcmpV, ibin, ho, e, e1, e2, e3, e4, e5, bne] <;> rfl
  · have e : compare a b = .eq := Int.compare_eq_eq.2 c
    have e1 : (a == b) = true := by simp; omega
    have e2 : decide (a < b) = false := by simp; omega
    have e3 : decide (a ≤ b) = true := by simp; omega
    have e4 : decide (a > b) = false := by simp; omega
    have e5 : decide (a ≥ b) = true := by simp; omega
    cases op <;> simp only [isCmp, Bool.false_eq_true] at hop <;> simp only [fcmpV, ibin, ho, e, e1, e2, e3, e4, e5, bne] <;> rfl
  · have e : compare a b = .gt := Int.compare_eq_gt.2 c
    have e1 : (a == b) = false := by simp; omega
    have e2 : decide (a < b) = false := by simp; omega
    have e3 : decide (a ≤ b) = false := by simp; omega
    have e4 : decide (a > b) = true := by simp; omega
    have e5 : decide (a ≥ b) = true := by simp; omega
    cases op <;> simp only [isCmp, Bool.false_eq_true] at hop <;> simp only [fcmpV, ibin, ho, e, e1, e2, e3, e4, e5, bne] <;> rfl

/-- Compared as floats, compared as whole numbers. -/
theorem cmp_whole {x y : Nat} {a b : Int} (hx : WholeF a x) (hy : WholeF b y) {op : BinOp} {k : IntKind} (hop : isCmp op = true) : fcmpV op .f64 x y = ibin op k a b := by
  obtain ⟨f1, s1, _⟩ := whole_sv hx
  obtain ⟨f2, s2, _⟩ := whole_sv hy
  have hK := KK_pos
  rw [cmp_sv f1 f2 hop (k := k), s1, s2]
  have e1 : (a * KK == b * KK) = (a == b) := by
    rw [Bool.eq_iff_iff, beq_iff_eq, beq_iff_eq]
    exact ⟨fun h => Int.eq_of_mul_eq_mul_right (by omega) h, fun h => by rw [h]⟩
  have lt : ∀ u v : Int, u * KK < v * KK ↔ u < v := fun u v => ⟨fun h => Int.lt_of_mul_lt_mul_right h (Int.le_of_lt hK), fun h => Int.mul_lt_mul_of_pos_right h hK⟩
  have le : ∀ u v : Int, u * KK ≤ v * KK ↔ u ≤ v := fun u v => by rw [← Int.not_lt, ← Int.not_lt, lt]
  cases op <;> simp only [isCmp, Bool.false_eq_true] at hop <;> simp only [ibin, e1, bne, lt, le, gt_iff_lt, ge_iff_le]

/-- A cut of what is whole. -/
theorem cut_whole (way : Toward) (neg : Bool) {m d N : Nat} (h : m = N * 2 ^ d) : way.cut neg m d = N := by
  obtain ⟨h1, h2⟩ := pow_min_div m d
  have hr : m % (1 <<< min d (m.log2 + 2)) = 0 := h2.2 (by rw [h]; exact Nat.mul_mod_left _ _)
  have hq : m / (1 <<< min d (m.log2 + 2)) = N := by rw [h1, h]; exact Nat.mul_div_cancel _ (Nat.two_pow_pos d)
  have hgap : 0 < 1 <<< min d (m.log2 + 2) := by rw [Nat.shiftLeft_eq]; simpa using Nat.two_pow_pos _
  unfold Toward.cut
  simp only [hr, hq]
  cases way <;> simp <;> omega

theorem intg_whole {x : Nat} {n : Int} (hx : WholeF n x) {way : Toward} {v : Value} (h : intgRel way x v) : ∃ b, v = .float .f64 b ∧ WholeF n b ∧ (x = FloatKind.f64.nearest n → b = FloatKind.f64.nearest n) := by
  obtain ⟨f1, s1, l1⟩ := whole_sv hx
  obtain ⟨b, rfl, hb⟩ := h
  refine ⟨b, rfl, ?_⟩
  rw [hb (not_nan f1)]
  obtain ⟨s, m, i, e, hi, hv⟩ := fin_parts f1
  have e' : FloatKind.f64.decode x = .number s m i := e
  have hN : way.cut s (m <<< i.toNat) (-i).toNat = n.natAbs := by
    rw [s1, signed_eq] at hv
    have ha : n.natAbs * 2 ^ 1074 = m * 2 ^ (i + 1074).toNat := by
      have := congrArg Int.natAbs hv
      rw [Int.natAbs_mul, KK_abs, Int.natAbs_mul, Int.natAbs_mul, Int.natAbs_pow] at this
      have hs : (if s = true then (-1 : Int) else 1).natAbs = 1 := by cases s <;> rfl
      rw [hs, Nat.one_mul, Int.natAbs_natCast] at this
      exact this
    refine cut_whole way s ?_
    rw [Nat.shiftLeft_eq]
    rcases Int.le_total 0 i with c | c
    · have e1 : (i + 1074).toNat = i.toNat + 1074 := by omega
      have e2 : (-i).toNat = 0 := by omega
      rw [e1, Nat.pow_add, ← Nat.mul_assoc] at ha
      rw [e2, Nat.pow_zero, Nat.mul_one]
      exact (Nat.mul_right_cancel (Nat.two_pow_pos 1074) ha).symm
    · have e1 : 1074 = (-i).toNat + (i + 1074).toNat := by omega
      have e2 : i.toNat = 0 := by omega
      rw [show (2 : Nat) ^ 1074 = 2 ^ (-i).toNat * 2 ^ (i + 1074).toNat by rw [← Nat.pow_add, ← e1], ← Nat.mul_assoc] at ha
      rw [e2, Nat.pow_zero, Nat.mul_one]
      exact (Nat.mul_right_cancel (Nat.two_pow_pos _) ha).symm
  rw [e']
  simp only [Datum.integral, hN]
  show WholeF n (double.nearest s n.natAbs 0) ∧ (_ → double.nearest s n.natAbs 0 = _)
  by_cases h0 : n = 0
  · subst h0
    rw [Int.natAbs_zero, nearest_zero]
    refine ⟨⟨by decide, by decide, ?_⟩, fun ex => ?_⟩
    · cases s
      · exact .inl (by rw [near_zero]; rfl)
      · exact .inr ⟨rfl, rfl⟩
    · rw [near_zero] at ex ⊢
      subst ex
      have : double.read 0 = .number false 0 (-1074) := by decide
      rw [this] at e
      cases e
      rfl
  · have ex := hx.exact h0
    obtain ⟨m', i', e2, _⟩ := near_read h0 hx.1 hx.2.1
    rw [← ex, e] at e2
    cases e2
    exact ⟨⟨hx.1, hx.2.1, .inl rfl⟩, fun _ => rfl⟩

theorem f2i_whole {x : Nat} {n : Int} (hx : WholeF n x) {k : IntKind} {v : Value} (h1 : k.min ≤ n) (h2 : n ≤ k.max) (h : f2iRel k [.float .f64 x] v) : v = .int k n := by
  obtain ⟨f1, s1, l1⟩ := whole_sv hx
  have ht : (FloatKind.f64.decode x).toInt .zero = some n := by rw [toInt_zero f1, s1, tdiv_KK]
  rcases h with ⟨m, e, _, _, rfl⟩ | ⟨hn, _⟩
  · rw [ht] at e; cases e; rfl
  · exact (hn n ht ⟨h1, h2⟩).elim

theorem abs_whole {x : Nat} {n : Int} (hx : WholeF n x) : x % 2 ^ 63 = FloatKind.f64.nearest n.natAbs := by
  obtain ⟨f1, s1, l1⟩ := whole_sv hx
  obtain ⟨a, b⟩ := abs_fin f1
  have hK := KK_pos
  have hb : sv (x % 2 ^ 63) = (n.natAbs : Int) * KK := by
    rw [b, s1]
    rcases Int.lt_or_le n 0 with c | c
    · rw [if_pos (Int.mul_neg_of_neg_of_pos c hK), ← Int.neg_mul, show -n = (n.natAbs : Int) by omega]
    · rw [if_neg (by have := Int.mul_nonneg c (Int.le_of_lt hK); omega), show n = (n.natAbs : Int) by omega]; rw [Int.natAbs_natCast]
  have hl : x % 2 ^ 63 < 2 ^ 63 := Nat.mod_lt _ (by decide)
  obtain ⟨_, _, e | ⟨e, e'⟩⟩ := whole_of a hb (by omega) (by have := hx.2.1; have := hx.1; omega) (by have := hx.2.1; have := hx.1; omega)
  · exact e
  · exfalso
    rw [e'] at hl; omega
end Go.Ev
