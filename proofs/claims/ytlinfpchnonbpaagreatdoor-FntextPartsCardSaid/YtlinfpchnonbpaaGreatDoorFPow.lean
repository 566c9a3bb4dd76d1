/- Powers of 2 among the floats: products of them are exact, to the bit. -/
import Derived.Test.YtlinfpchnonbpaaGreatDoorFDivN
namespace Go.Ev
open Ieee
theorem exact_word {neg : Bool} {mag : Nat} {place V : Int} {m q : Nat} (hp : -2148 ≤ place) (hv : mag * 2 ^ (place + 2148).toNat = V.natAbs) (hm1 : 2 ^ 52 ≤ m) (hm2 : m < 2 ^ 53) (hq : q < 2046) (h : V.natAbs = m * 2 ^ (q + 1074)) :
    double.nearest neg mag place = double.word neg (q * 2 ^ 52 + m) := by
  have mp : 0 < m * 2 ^ (q + 1074) := Nat.mul_pos (Nat.lt_of_lt_of_le (by decide) hm1) (Nat.two_pow_pos _)
  have h0 : mag ≠ 0 := fun e => by rw [e, Nat.zero_mul] at hv; omega
  have a := rung_up (neg := neg) h0 hm1 hm2 (Nat.le_add_left 1074 q) (Nat.le_of_eq (hv.trans h))
  have b := rung_down (neg := neg) h0 hm1 hm2 (Nat.le_add_left 1074 q) (Nat.le_of_eq (hv.trans h).symm)
  rw [Nat.add_sub_cancel] at a b
  have e := Nat.le_antisymm a b
  rw [nearest_rung h0 hp, e, Nat.min_eq_left (by rw [infRung_eq]; omega)]
def PW (q : Nat) : Nat := q * 2 ^ 52 + 2 ^ 52
theorem PW_word (q : Nat) : double.word false (q * 2 ^ 52 + 2 ^ 52) = PW q := by
  unfold Format.word PW
  simp
theorem PW_sv {q : Nat} (h : q < 2046) : Fin64 (PW q) ∧ sv (PW q) = ((2 ^ 52 * 2 ^ q : Nat) : Int) := by
  have k := word_sv (neg := false) (r := q * 2 ^ 52 + 2 ^ 52) (by rw [infRung_eq]; omega)
  rw [PW_word, rv_norm (by decide) (by decide)] at k
  refine ⟨k.1, ?_⟩
  rw [k.2]
  simp only [Bool.false_eq_true, if_false, Int.one_mul]
theorem PW_mul {a b : Nat} (ha : a < 2046) (hb : b < 2046) (h1 : 1022 ≤ a + b) (h2 : a + b < 3068) : double.mul (PW a) (PW b) = some (PW (a + b - 1022)) := by
  obtain ⟨f1, s1⟩ := PW_sv ha
  obtain ⟨f2, s2⟩ := PW_sv hb
  obtain ⟨neg, mag, place, e, hp, hv, hn⟩ := mul_data f1 f2
  have hpos : 0 < sv (PW a) * sv (PW b) := by
    rw [s1, s2]
    exact Int.mul_pos (by have := Nat.two_pow_pos a; omega) (by have := Nat.two_pow_pos b; omega)
  have hneg : neg = false := by rw [hn (by omega)]; exact decide_eq_false (by omega)
  subst hneg
  have hV : (sv (PW a) * sv (PW b)).natAbs = 2 ^ 52 * 2 ^ (a + b - 1022 + 1074) := by
    rw [s1, s2, Int.natAbs_mul, Int.natAbs_natCast, Int.natAbs_natCast]
    rw [show a + b - 1022 + 1074 = a + (52 + b) by omega, Nat.pow_add 2 a, Nat.pow_add 2 52 b, Nat.mul_assoc]
  rw [e, exact_word hp hv (by decide) (by decide) (by omega) hV, PW_word]
theorem PW_read {q : Nat} (h : q < 2046) : double.read (PW q) = .number false (2 ^ 52) ((q : Int) - 1074) := by
  have k := read_word (neg := false) (r := q * 2 ^ 52 + 2 ^ 52) (by rw [infRung_eq]; omega)
  rw [PW_word, if_neg (by rw [binade_eq]; omega), binade_eq, leastPlace_eq] at k
  rw [k]
  have e1 : 2 ^ 52 + (q * 2 ^ 52 + 2 ^ 52) % 2 ^ 52 = 2 ^ 52 := by omega
  have e2 : (-1074 : Int) + (((q * 2 ^ 52 + 2 ^ 52) / 2 ^ 52 - 1 : Nat) : Int) = (q : Int) - 1074 := by omega
  rw [e1, e2]
theorem PW_inv {q : Nat} (h : q ≤ 2044) : double.div (PW 1022) (PW q) = some (PW (2044 - q)) := by
  unfold Format.div
  rw [PW_read (show 1022 < 2046 by decide), PW_read (show q < 2046 by omega)]
  have l : (2 ^ 52 : Nat).log2 = 52 := by decide
  have d : (2 ^ 52 <<< (double.fractionBits + 2 + (2 ^ 52 : Nat).log2 - (2 ^ 52 : Nat).log2)) / 2 ^ 52 = 2 ^ 54 := by decide
  have r : (2 ^ 52 <<< (double.fractionBits + 2 + (2 ^ 52 : Nat).log2 - (2 ^ 52 : Nat).log2)) % 2 ^ 52 = 0 := by decide
  have mr : double.fractionBits + 2 + (2 ^ 52 : Nat).log2 - (2 ^ 52 : Nat).log2 = 54 := by decide
  have e : Datum.quotient (double.fractionBits + 2) (.number false (2 ^ 52) (((1022 : Nat) : Int) - 1074)) (.number false (2 ^ 52) ((q : Int) - 1074)) = some (.number false (2 ^ 55) (967 - (q : Int))) := by
    unfold Datum.quotient
    simp only
    rw [if_neg (by decide), d, r, mr]
    have e3 : 2 * 2 ^ 54 + ((0 : Nat) != 0).toNat = 2 ^ 55 := by decide
    have e4 : ((1022 : Nat) : Int) - 1074 - ((q : Int) - 1074) - (54 : Nat) - 1 = 967 - (q : Int) := by omega
    rw [e3, e4]
    rfl
  rw [e]
  show some (double.nearest false (2 ^ 55) (967 - (q : Int))) = _
  have hv : 2 ^ 55 * 2 ^ (967 - (q : Int) + 2148).toNat = ((2 ^ 55 * 2 ^ (967 - (q : Int) + 2148).toNat : Nat) : Int).natAbs := by rw [Int.natAbs_natCast]
  have hV : ((2 ^ 55 * 2 ^ (967 - (q : Int) + 2148).toNat : Nat) : Int).natAbs = 2 ^ 52 * 2 ^ (2044 - q + 1074) := by
    rw [Int.natAbs_natCast, show (967 - (q : Int) + 2148).toNat = 3115 - q by omega, show 2044 - q + 1074 = 3 + (3115 - q) by omega, Nat.pow_add 2 3, ← Nat.mul_assoc]
  rw [exact_word (by omega) hv (by decide) (by decide) (by omega) hV, PW_word]
end Go.Ev
