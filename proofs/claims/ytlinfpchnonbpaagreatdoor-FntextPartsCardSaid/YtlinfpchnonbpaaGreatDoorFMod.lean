/- Whole floats, their bits: exponents and fractions, and what is left of a quotient. -/
import Derived.Test.YtlinfpchnonbpaaGreatDoorFPow
import Derived.Test.YtlinfpchnonbpaaGreatDoorFDivN
namespace Go.Ev
open Ieee
theorem powE {n a b c : Nat} (h : a = b + c) : n * 2 ^ a = n * 2 ^ b * 2 ^ c := by rw [h, Nat.pow_add, Nat.mul_assoc]
theorem near_word {n : Nat} (h0 : n ≠ 0) (h : n < 2 ^ 53) : FloatKind.f64.nearest (n : Int) = (1022 + n.log2) * 2 ^ 52 + n * 2 ^ (52 - n.log2) := by
  obtain ⟨m1, m2, m3⟩ := head_bd h0 h
  have e : FloatKind.f64.nearest (n : Int) = double.nearest false n 0 := by
    rw [near_eq, Int.natAbs_natCast, decide_eq_false (by omega)]
  rw [e]
  generalize hL : n.log2 = L at *
  have hE : ((0 : Int) + 2148).toNat = 52 - L + (1022 + L + 1074) := by show 2148 = _; omega
  generalize hK : ((0 : Int) + 2148).toNat = K at hE
  rw [exact_word (V := ((n * 2 ^ K : Nat) : Int)) (q := 1022 + L) (by decide) (by rw [hK, Int.natAbs_natCast]) m1 m2 (by omega) ((Int.natAbs_natCast _).trans (powE hE)), word_val]
  simp only [Bool.false_eq_true, if_false]
def wd (E m : Nat) : Nat := E * 2 ^ 52 + m
theorem wd_parts {E m : Nat} (h1 : 2 ^ 52 ≤ m) (h2 : m < 2 ^ 53) : wd E m / 2 ^ 52 = E + 1 ∧ wd E m % 2 ^ 52 = m - 2 ^ 52 := by
  unfold wd
  omega
theorem ofInt_nat {n : Nat} (h : n < 2 ^ 64) : (BitVec.ofInt 64 (n : Int)).toNat = n := by simp; omega
theorem wrap_u {n : Nat} (h : n < 2 ^ 64) : IntKind.u64.wrap (n : Int) = n := by
  unfold IntKind.wrap
  simp [IntKind.bits, IntKind.signed]
  omega
theorem and_2047 {a r : Int} (h0 : 0 ≤ a) (h1 : a < 2 ^ 64) (h : ibin .and .u64 a 2047 = some (.int .u64 r)) : r = a % 2048 := by
  obtain ⟨n, rfl⟩ : ∃ n : Nat, a = n := ⟨a.toNat, by omega⟩
  simp only [ibin, Option.some.injEq, Value.int.injEq, true_and] at h
  rw [← h]
  have hn : n < 2 ^ 64 := by omega
  have e2 : (BitVec.ofInt 64 (2047 : Int)).toNat = 2 ^ 11 - 1 := by decide
  have e : (BitVec.ofInt 64 (n : Int) &&& BitVec.ofInt 64 2047).toNat = n % 2 ^ 11 := by
    rw [BitVec.toNat_and, ofInt_nat hn, e2, Nat.and_two_pow_sub_one_eq_mod]
  show IntKind.u64.wrap ((BitVec.ofInt 64 (n : Int) &&& BitVec.ofInt 64 2047).toNat : Int) = _
  rw [e, wrap_u (by omega)]
  omega
theorem and_low {n : Nat} (h : n < 2 ^ 63) : n &&& (2 ^ 63 ||| (2 ^ 52 - 1)) = n % 2 ^ 52 := by
  rw [Nat.and_or_distrib_left, Nat.and_two_pow_sub_one_eq_mod]
  have : n &&& 2 ^ 63 = 0 := by
    apply Nat.eq_of_testBit_eq
    intro i
    rw [Nat.testBit_and, Nat.testBit_two_pow, Nat.zero_testBit]
    by_cases hi : 63 = i
    · subst hi
      rw [Nat.testBit_lt_two_pow h]; rfl
    · simp [hi]
  rw [this, Nat.zero_or]
theorem andNot_exp {n : Nat} {r : Int} (hn : n < 2 ^ 63) (h : ibin .andNot .u64 (n : Int) 9218868437227405312 = some (.int .u64 r)) : r = ((n % 2 ^ 52 : Nat) : Int) := by
  simp only [ibin, Option.some.injEq, Value.int.injEq, true_and] at h
  rw [← h]
  have e2 : (~~~BitVec.ofInt 64 (9218868437227405312 : Int)).toNat = 2 ^ 63 ||| (2 ^ 52 - 1) := by decide
  have e : (BitVec.ofInt 64 (n : Int) &&& ~~~BitVec.ofInt 64 9218868437227405312).toNat = n % 2 ^ 52 := by
    rw [BitVec.toNat_and, ofInt_nat (by omega), e2, and_low hn]
  show IntKind.u64.wrap ((BitVec.ofInt 64 (n : Int) &&& ~~~BitVec.ofInt 64 9218868437227405312).toNat : Int) = _
  rw [e, wrap_u (by omega)]
theorem or_exp {m E : Nat} {r : Int} (hm : m < 2 ^ 52) (hE : E < 2 ^ 11) (h : ibin .or .u64 (m : Int) ((E * 2 ^ 52 : Nat) : Int) = some (.int .u64 r)) : r = ((E * 2 ^ 52 + m : Nat) : Int) := by
  simp only [ibin, Option.some.injEq, Value.int.injEq, true_and] at h
  rw [← h]
  have e : (BitVec.ofInt 64 (m : Int) ||| BitVec.ofInt 64 ((E * 2 ^ 52 : Nat) : Int)).toNat = E * 2 ^ 52 + m := by
    rw [BitVec.toNat_or, ofInt_nat (by omega), ofInt_nat (by omega), Nat.or_comm]
    have := Nat.shiftLeft_add_eq_or_of_lt hm E
    rw [Nat.shiftLeft_eq] at this
    exact this.symm
  show IntKind.u64.wrap ((BitVec.ofInt 64 (m : Int) ||| BitVec.ofInt 64 ((E * 2 ^ 52 : Nat) : Int)).toNat : Int) = _
  rw [e, wrap_u (by omega)]
theorem log2_shift {n k : Nat} (h : n ≠ 0) : (n * 2 ^ k).log2 = n.log2 + k := by
  have h1 := Nat.log2_self_le h
  have h2 := Nat.lt_log2_self (n := n)
  have hp := Nat.two_pow_pos k
  have hne : n * 2 ^ k ≠ 0 := Nat.mul_ne_zero h (by omega)
  refine Nat.le_antisymm ?_ ?_
  · have : n * 2 ^ k < 2 ^ (n.log2 + k + 1) := by
      rw [show n.log2 + k + 1 = n.log2 + 1 + k by omega, Nat.pow_add]
      exact Nat.mul_lt_mul_of_pos_right h2 hp
    have := log2_lt hne this
    omega
  · rw [Nat.le_log2 hne, Nat.pow_add]
    exact Nat.mul_le_mul_right _ h1
theorem near_shift {n k : Nat} (h0 : n ≠ 0) (h : n * 2 ^ k < 2 ^ 53) : FloatKind.f64.nearest ((n * 2 ^ k : Nat) : Int) = (1022 + n.log2 + k) * 2 ^ 52 + n * 2 ^ (52 - n.log2) := by
  have hp := Nat.two_pow_pos k
  have hne : n * 2 ^ k ≠ 0 := Nat.mul_ne_zero h0 (by omega)
  have hl := log2_lt hne h
  rw [log2_shift h0] at hl
  rw [near_word hne h, log2_shift h0]
  generalize n.log2 = L at *
  have e1 : k + (52 - (L + k)) = 52 - L := by omega
  rw [Nat.mul_assoc n, ← Nat.pow_add, e1, ← Nat.add_assoc]
theorem frac_sv {n : Nat} (h0 : n ≠ 0) (h : n < 2 ^ 53) : Fin64 (1021 * 2 ^ 52 + n * 2 ^ (52 - n.log2)) ∧ sv (1021 * 2 ^ 52 + n * 2 ^ (52 - n.log2)) = ((n * 2 ^ (52 - n.log2) * 2 ^ 1021 : Nat) : Int) := by
  obtain ⟨m1, m2, m3⟩ := head_bd h0 h
  have k := word_sv (neg := false) (r := 1021 * 2 ^ 52 + n * 2 ^ (52 - n.log2)) (by rw [infRung_eq]; omega)
  rw [word_val, rv_norm m1 m2] at k
  simp only [Bool.false_eq_true, if_false, Int.one_mul] at k
  exact k
end Go.Ev
