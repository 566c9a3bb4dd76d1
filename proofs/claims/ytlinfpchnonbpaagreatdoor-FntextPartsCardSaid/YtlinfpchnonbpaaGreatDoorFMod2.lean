/- What is left of a quotient of whole floats, by steps. -/
import Derived.Test.YtlinfpchnonbpaaGreatDoorFMod
namespace Go.Ev
open Ieee
def nr (n : Nat) : Nat := FloatKind.f64.nearest (n : Int)
theorem nr_sv {n : Nat} (h : n ≤ 2 ^ 53) : Fin64 (nr n) ∧ sv (nr n) = n * KK ∧ nr n < 2 ^ 64 := whole_sv (WholeF.near (n := n) (by omega) (by omega))
theorem nr_inj {a b : Nat} (ha : a ≤ 2 ^ 53) (hb : b ≤ 2 ^ 53) (h : nr a = nr b) : a = b := by
  have e := (nr_sv ha).2.1
  rw [h, (nr_sv hb).2.1] at e
  have := Int.eq_of_mul_eq_mul_right (Int.ne_of_gt KK_pos) e
  omega
theorem nr_ford {a b : Nat} (ha : a ≤ 2 ^ 53) (hb : b ≤ 2 ^ 53) : ford (nr a) (nr b) = some (compare (a : Int) b) := by
  rw [ford_fin (nr_sv ha).1 (nr_sv hb).1, (nr_sv ha).2.1, (nr_sv hb).2.1, compare_mul KK_pos]
theorem nr_zero : nr 0 = 0 := near_zero
theorem nr_lt {a b : Nat} (ha : a ≤ 2 ^ 53) (hb : b ≤ 2 ^ 53) : ford (nr a) (nr b) = some .lt ↔ a < b := by
  rw [nr_ford ha hb, Option.some.injEq, cmp_lt]; omega
theorem nr_gt {a b : Nat} (ha : a ≤ 2 ^ 53) (hb : b ≤ 2 ^ 53) : ford (nr a) (nr b) = some .gt ↔ b < a := by
  rw [nr_ford ha hb, Option.some.injEq, cmp_gt]; omega
theorem nr_eq {a b : Nat} (ha : a ≤ 2 ^ 53) (hb : b ≤ 2 ^ 53) : ford (nr a) (nr b) = some .eq ↔ a = b := by
  rw [nr_ford ha hb, Option.some.injEq, Int.compare_eq_eq]; omega
theorem nr_neg {a : Nat} (ha : a ≤ 2 ^ 53) : ford (nr a) 0 ≠ some .lt := fun h => by
  rw [← nr_zero, nr_lt ha (by decide)] at h; omega
theorem nr_nought {a : Nat} (ha : a ≤ 2 ^ 53) : ford (nr a) 0 = some .eq ↔ a = 0 := by
  have := nr_eq (b := 0) ha (by decide)
  rwa [nr_zero] at this
def frw (n : Nat) : Nat := 1021 * 2 ^ 52 + n * 2 ^ (52 - n.log2)
theorem i64_small {n : Int} (h1 : -(2 ^ 62) ≤ n) (h2 : n ≤ 2 ^ 62) : IntKind.i64.wrap n = n := by
  unfold IntKind.wrap
  simp [IntKind.bits, IntKind.signed]
  omega
theorem nr_parts {n : Nat} (h0 : n ≠ 0) (h : n < 2 ^ 53) : nr n < 2 ^ 63 ∧ nr n / 2 ^ 52 = 1023 + n.log2 ∧ nr n % 2 ^ 52 = n * 2 ^ (52 - n.log2) - 2 ^ 52 := by
  obtain ⟨m1, m2, m3⟩ := head_bd h0 h
  have e : nr n = wd (1022 + n.log2) (n * 2 ^ (52 - n.log2)) := near_word h0 h
  obtain ⟨p1, p2⟩ := wd_parts (E := 1022 + n.log2) m1 m2
  rw [e]
  refine ⟨by unfold wd; omega, by rw [p1]; omega, p2⟩
theorem shr_52 {b : Nat} {r : Int} (h : r = (b : Int).fdiv (2 ^ min (52 : Int).toNat IntKind.u64.bits)) : r = ((b / 2 ^ 52 : Nat) : Int) := by
  rw [h]
  have e : min (52 : Int).toNat IntKind.u64.bits = 52 := by decide
  rw [e, Int.fdiv_eq_ediv_of_nonneg _ (by decide)]
  simp
theorem frexp_bits {n : Nat} (h0 : n ≠ 0) (h : n < 2 ^ 53) {b s t e0 e1 e2 e3 m f : Int} (hb : b = (nr n : Nat)) (h1 : s = b.fdiv (2 ^ min (52 : Int).toNat IntKind.u64.bits)) (h2 : ibin .and .u64 s 2047 = some (.int .u64 t))
    (h3 : e0 = IntKind.i64.wrap t) (h4 : e1 = IntKind.i64.wrap (e0 - 1023)) (h5 : e2 = IntKind.i64.wrap (e1 + 1)) (h6 : e3 = IntKind.i64.wrap (0 + e2))
    (h7 : ibin .andNot .u64 b 9218868437227405312 = some (.int .u64 m)) (h8 : ibin .or .u64 m 4602678819172646912 = some (.int .u64 f)) : f = (frw n : Nat) ∧ e3 = (n.log2 : Nat) + 1 := by
  obtain ⟨m1, m2, m3⟩ := head_bd h0 h
  obtain ⟨p0, p1, p2⟩ := nr_parts h0 h
  subst hb
  have hs := shr_52 h1
  rw [p1] at hs
  have ht := and_2047 (by omega) (by omega) h2
  have ht' : t = 1023 + (n.log2 : Nat) := by omega
  have hm := andNot_exp p0 h7
  rw [p2] at hm
  subst hm
  have e22 : (4602678819172646912 : Int) = ((1022 * 2 ^ 52 : Nat) : Int) := by decide
  rw [e22] at h8
  have hf := or_exp (m := n * 2 ^ (52 - n.log2) - 2 ^ 52) (E := 1022) (by omega) (by decide) h8
  rw [ht', i64_small (by omega) (by omega)] at h3
  rw [h3, i64_small (by omega) (by omega)] at h4
  rw [h4, i64_small (by omega) (by omega)] at h5
  rw [h5, i64_small (by omega) (by omega)] at h6
  refine ⟨?_, by omega⟩
  rw [hf]
  unfold frw
  omega
theorem and_2047i {a r : Int} (h0 : 0 ≤ a) (h1 : a < 2 ^ 62) (h : ibin .and .i64 a 2047 = some (.int .i64 r)) : r = a % 2048 := by
  obtain ⟨n, rfl⟩ : ∃ n : Nat, a = n := ⟨a.toNat, by omega⟩
  simp only [ibin, Option.some.injEq, Value.int.injEq, true_and] at h
  rw [← h]
  have hn : n < 2 ^ 64 := by omega
  have e2 : (BitVec.ofInt 64 (2047 : Int)).toNat = 2 ^ 11 - 1 := by decide
  have e : (BitVec.ofInt 64 (n : Int) &&& BitVec.ofInt 64 2047).toNat = n % 2 ^ 11 := by
    rw [BitVec.toNat_and, ofInt_nat hn, e2, Nat.and_two_pow_sub_one_eq_mod]
  show IntKind.i64.wrap ((BitVec.ofInt 64 (n : Int) &&& BitVec.ofInt 64 2047).toNat : Int) = _
  rw [e, i64_small (by omega) (by omega)]
  omega
theorem ldexp_exp {n k : Nat} (h0 : n ≠ 0) (h : n * 2 ^ k < 2 ^ 53) {b s t e0 e1 e2 e3 kk : Int} (hb : b = (nr n : Nat)) (hk : kk = IntKind.i64.wrap ((k : Int) + 0)) (h1 : s = b.fdiv (2 ^ min (52 : Int).toNat IntKind.u64.bits)) (h2 : e0 = IntKind.i64.wrap s)
    (h3 : ibin .and .i64 e0 2047 = some (.int .i64 t)) (h4 : e1 = IntKind.i64.wrap (t - 1023)) (h5 : e2 = IntKind.i64.wrap (kk + e1)) (_ : e3 = e2) : e2 = ((n.log2 + k : Nat) : Int) := by
  have hp := Nat.two_pow_pos k
  have hne : n * 2 ^ k ≠ 0 := Nat.mul_ne_zero h0 (by omega)
  have hl := log2_lt hne h
  rw [log2_shift h0] at hl
  have hn : n < 2 ^ 53 := Nat.lt_of_le_of_lt (Nat.le_mul_of_pos_right n hp) h
  obtain ⟨p0, p1, p2⟩ := nr_parts h0 hn
  subst hb
  have hs := shr_52 h1
  rw [p1] at hs
  rw [hs, i64_small (by omega) (by omega)] at h2
  have ht := and_2047i (by omega) (by omega) h3
  have ht' : t = 1023 + (n.log2 : Nat) := by omega
  rw [ht', i64_small (by omega) (by omega)] at h4
  rw [i64_small (by omega) (by omega)] at hk
  rw [hk, h4, i64_small (by omega) (by omega)] at h5
  omega
theorem far_is {op : BinOp} {x y z w : Nat} (h : farV op .f64 x y = some (some z) ∨ farV op .f64 x y = some none ∧ Nan64 z) (e : farV op .f64 x y = some (some w)) : z = w := by
  rcases h with h | ⟨h, _⟩
  · rw [e] at h; simp only [Option.some.injEq] at h; exact h.symm
  · rw [e] at h; cases h
theorem one_word : FloatKind.f64.nearest (1 : Int) = 4607182418800017408 := by decide +kernel
theorem mul_one_far {n : Nat} (h : n ≤ 2 ^ 53) : farV .mul .f64 (FloatKind.f64.nearest (1 : Int)) (nr n) = some (some (nr n)) := by
  have e := mul_exact (a := 1) (b := (n : Int)) (x := FloatKind.f64.nearest (1 : Int)) (y := nr n) rfl rfl (by decide) (by omega) (by decide) (by omega) (by omega)
  rw [Int.one_mul] at e
  exact congrArg some e
theorem mul_one_nr {n r : Nat} (h : n ≤ 2 ^ 53) (hr : farV .mul .f64 4607182418800017408 (nr n) = some (some r) ∨ farV .mul .f64 4607182418800017408 (nr n) = some none ∧ Nan64 r) : r = nr n := by
  rw [← one_word] at hr
  exact far_is hr (mul_one_far h)
theorem word_shift {n k : Nat} (h0 : n ≠ 0) (h : n * 2 ^ k < 2 ^ 53) : (1023 + n.log2 + k) * 2 ^ 52 + (n * 2 ^ (52 - n.log2) - 2 ^ 52) = nr (n * 2 ^ k) := by
  have hn : n < 2 ^ 53 := Nat.lt_of_le_of_lt (Nat.le_mul_of_pos_right n (Nat.two_pow_pos k)) h
  obtain ⟨m1, m2, m3⟩ := head_bd h0 hn
  have e := near_shift h0 h
  unfold nr
  rw [e]
  clear e h
  generalize n * 2 ^ (52 - n.log2) = M at *
  omega
theorem ldexp_bits {n k : Nat} (h0 : n ≠ 0) (h : n * 2 ^ k < 2 ^ 53) {b e2 m s f : Int} {w r : Nat} (hb : b = (nr n : Nat)) (he : e2 = ((n.log2 + k : Nat) : Int)) (h7 : ibin .andNot .u64 b 9218868437227405312 = some (.int .u64 m))
    (hs : s = (e2 + 1023) * 2 ^ (52 : Int).toNat) (h8 : ibin .or .u64 m s = some (.int .u64 f)) (hw : w = f.toNat) (hr : farV .mul .f64 4607182418800017408 w = some (some r) ∨ farV .mul .f64 4607182418800017408 w = some none ∧ Nan64 r) : r = nr (n * 2 ^ k) := by
  have hp := Nat.two_pow_pos k
  have hne : n * 2 ^ k ≠ 0 := Nat.mul_ne_zero h0 (by omega)
  have hl := log2_lt hne h
  rw [log2_shift h0] at hl
  have hn : n < 2 ^ 53 := Nat.lt_of_le_of_lt (Nat.le_mul_of_pos_right n hp) h
  obtain ⟨m1, m2, m3⟩ := head_bd h0 hn
  obtain ⟨p0, p1, p2⟩ := nr_parts h0 hn
  subst hb
  have hm := andNot_exp p0 h7
  rw [p2] at hm
  subst hm
  have e52 : (52 : Int).toNat = 52 := rfl
  have hs' : s = (((1023 + n.log2 + k) * 2 ^ 52 : Nat) : Int) := by rw [hs, he, e52]; omega
  rw [hs'] at h8
  have hf := or_exp (E := 1023 + n.log2 + k) (by omega) (by omega) h8
  have hw' : w = nr (n * 2 ^ k) := by
    rw [hw, hf, Int.toNat_natCast]
    exact word_shift h0 h
  rw [hw'] at hr
  exact mul_one_nr (Nat.le_of_lt h) hr
theorem pick_le {R y : Nat} (hy : y ≠ 0) (h : y ≤ R) (hlt : ¬ R * 2 ^ (52 - R.log2) < y * 2 ^ (52 - y.log2)) (hR : R < 2 ^ 53) : y.log2 ≤ R.log2 ∧ y * 2 ^ (R.log2 - y.log2) ≤ R := by
  have hl : y.log2 ≤ R.log2 := (Nat.le_log2 (by omega)).2 (Nat.le_trans (Nat.log2_self_le hy) h)
  have hb := log2_lt (by omega) hR
  refine ⟨hl, ?_⟩
  have e : y * 2 ^ (52 - y.log2) = y * 2 ^ (R.log2 - y.log2) * 2 ^ (52 - R.log2) := by
    rw [Nat.mul_assoc, ← Nat.pow_add, show R.log2 - y.log2 + (52 - R.log2) = 52 - y.log2 by omega]
  rw [e] at hlt
  exact Nat.le_of_mul_le_mul_right (by omega) (Nat.two_pow_pos (52 - R.log2))
theorem pick_lt {R y : Nat} (hy : y ≠ 0) (h : y ≤ R) (hlt : R * 2 ^ (52 - R.log2) < y * 2 ^ (52 - y.log2)) (_ : R < 2 ^ 53) : y.log2 + 1 ≤ R.log2 ∧ y * 2 ^ (R.log2 - 1 - y.log2) ≤ R := by
  have hl : y.log2 ≤ R.log2 := (Nat.le_log2 (by omega)).2 (Nat.le_trans (Nat.log2_self_le hy) h)
  have h1 : y.log2 + 1 ≤ R.log2 := by
    rcases Nat.lt_or_eq_of_le hl with c | c
    · omega
    · rw [c] at hlt
      have := Nat.mul_le_mul_right (2 ^ (52 - R.log2)) h
      omega
  refine ⟨h1, ?_⟩
  have h2 : y * 2 ^ (R.log2 - 1 - y.log2) ≤ 2 ^ (y.log2 + 1) * 2 ^ (R.log2 - 1 - y.log2) := Nat.mul_le_mul_right _ (Nat.le_of_lt Nat.lt_log2_self)
  rw [← Nat.pow_add, show y.log2 + 1 + (R.log2 - 1 - y.log2) = R.log2 by omega] at h2
  exact Nat.le_trans h2 (Nat.log2_self_le (by omega))
theorem mul_pow_lt {a b k : Nat} : a * 2 ^ k < b * 2 ^ k ↔ a < b := ⟨fun h => Nat.lt_of_mul_lt_mul_right h, fun h => Nat.mul_lt_mul_of_pos_right h (Nat.two_pow_pos _)⟩
theorem frw_ford {a b : Nat} (ha : a ≠ 0) (hb : b ≠ 0) (h1 : a < 2 ^ 53) (h2 : b < 2 ^ 53) : ford (frw a) (frw b) = some .lt ↔ a * 2 ^ (52 - a.log2) < b * 2 ^ (52 - b.log2) := by
  obtain ⟨f1, s1⟩ := frac_sv ha h1
  obtain ⟨f2, s2⟩ := frac_sv hb h2
  unfold frw
  rw [ford_fin f1 f2, s1, s2, Option.some.injEq, cmp_lt, Int.ofNat_lt]
  exact mul_pow_lt (k := 1021) (a := a * 2 ^ (52 - a.log2)) (b := b * 2 ^ (52 - b.log2))
theorem nr_sub {a b r : Nat} (h : b ≤ a) (ha : a ≤ 2 ^ 53) (hr : farV .sub .f64 (nr a) (nr b) = some (some r) ∨ farV .sub .f64 (nr a) (nr b) = some none ∧ Nan64 r) : r = nr (a - b) := by
  obtain ⟨v, e1, e2, e3⟩ := sub_whole (WholeF.near (n := a) (by omega) (by omega)) (WholeF.near (n := b) (by omega) (by omega)) (by omega) (by omega)
  have e3 := e3 rfl rfl
  have : r = v := far_is hr (congrArg some e1)
  rw [this, e3]
  unfold nr
  congr 1
  omega
end Go.Ev
