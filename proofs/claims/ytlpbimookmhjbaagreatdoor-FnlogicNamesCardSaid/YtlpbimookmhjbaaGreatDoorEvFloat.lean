/- Finite floats: equal to themselves, no further than the greatest, nothing from themselves. -/
import Derived.WalkKit
import Ieee.Arith
namespace Go.Ev
open Ieee

/-- The word of a finite float64. -/
def Fin64 (b : Nat) : Prop := b % double.signWeight < double.infRung

theorem read_fin {b : Nat} (h : Fin64 b) : ∃ s m i, double.read b = .number s m i ∧ m < 2 ^ 53 ∧ double.leastPlace ≤ i ∧ i ≤ double.leastPlace + 2045 ∧ (b % double.signWeight ≠ 0 → m ≠ 0) := by
  unfold Fin64 at h
  have hb : double.binade = 2 ^ 52 := rfl
  have hi : double.infRung = 2047 * 2 ^ 52 := rfl
  rw [hi] at h
  unfold Format.read
  simp only [hb, hi]
  generalize b % double.signWeight = r at h
  split
  · exact ⟨_, _, _, rfl, by omega, Int.le_refl _, by omega, fun h => h⟩
  · refine ⟨_, _, _, rfl, by omega, by omega, ?_, fun _ => by omega⟩
    have : r / 2 ^ 52 < 2047 := Nat.div_lt_of_lt_mul (by omega)
    omega

theorem order_self {b : Nat} (h : Fin64 b) : double.order b b = some .eq := by
  obtain ⟨s, m, i, e, _⟩ := read_fin h
  unfold Format.order
  rw [e]
  simp only [Datum.order]
  congr 1
  exact Std.ReflCmp.compare_self

theorem sub_self {b : Nat} (h : Fin64 b) : double.sub b b = some 0 := by
  obtain ⟨s, m, i, e, _⟩ := read_fin h
  unfold Format.sub
  rw [e]
  have : Datum.sum (.number s m i) (Datum.opposite (.number s m i)) = some (.number false 0 i) := by
    simp only [Datum.opposite, Datum.sum, Int.min_self, Int.sub_self, Int.toNat_zero, signed]
    cases s <;> simp <;> omega
  rw [this]
  rfl

theorem shl_pow (m k : Nat) : m <<< k = m * 2 ^ k := Nat.shiftLeft_eq m k

/-- The greatest finite float64, and its contrary. -/
theorem order_max {b : Nat} (h : Fin64 b) : double.order b 9218868437227405311 ≠ some .gt ∧ double.order b 18442240474082181119 ≠ some .lt := by
  obtain ⟨s, m, i, e, hm, h1, h2, _⟩ := read_fin h
  have r1 : double.read 9218868437227405311 = .number false 9007199254740991 (double.leastPlace + 2045) := by decide +kernel
  have r2 : double.read 18442240474082181119 = .number true 9007199254740991 (double.leastPlace + 2045) := by decide +kernel
  unfold Format.order
  rw [e, r1, r2]
  simp only [Datum.order]
  have hmin : min i (double.leastPlace + 2045) = i := Int.min_eq_left h2
  rw [hmin]
  have hz : (i - i).toNat = 0 := by omega
  rw [hz]
  generalize (double.leastPlace + 2045 - i).toNat = k
  have hk : 1 ≤ 2 ^ k := Nat.one_le_two_pow
  have hbig : (m : Int) ≤ ((9007199254740991 <<< k : Nat) : Int) := by
    rw [shl_pow]
    have : 9007199254740991 * 1 ≤ 9007199254740991 * 2 ^ k := Nat.mul_le_mul_left _ hk
    omega
  constructor
  · simp only [ne_eq, Option.some.injEq, Int.compare_eq_gt]
    cases s <;> simp only [signed, Nat.shiftLeft_zero, Bool.false_eq_true, if_false, if_true] <;> omega
  · simp only [ne_eq, Option.some.injEq, Int.compare_eq_lt]
    cases s <;> simp only [signed, Nat.shiftLeft_zero, Bool.false_eq_true, if_false, if_true] <;> omega

/-- A finite float64 that is not nought. -/
theorem order_zero {b : Nat} (h : Fin64 b) (hn : b % double.signWeight ≠ 0) : double.order b 0 ≠ some .eq := by
  obtain ⟨s, m, i, e, hm, h1, h2, h3⟩ := read_fin h
  have r0 : double.read 0 = .number false 0 double.leastPlace := by decide +kernel
  unfold Format.order
  rw [e, r0]
  simp only [Datum.order]
  generalize (i - min i double.leastPlace).toNat = k
  have hk : 1 ≤ 2 ^ k := Nat.one_le_two_pow
  have hm0 := h3 hn
  have : 1 ≤ m * 2 ^ k := Nat.mul_pos (by omega) (by omega)
  simp only [ne_eq, Option.some.injEq, Int.compare_eq_eq]
  have hs : ((m <<< k : Nat) : Int) = ((m * 2 ^ k : Nat) : Int) := by rw [shl_pow]
  cases s <;> simp only [signed, Nat.zero_shiftLeft, Bool.false_eq_true, if_false, if_true] <;> omega

/-- The word of a NaN. -/
def Nan64 (b : Nat) : Prop := double.infRung < b % double.signWeight

theorem read_nan {b : Nat} (h : Nan64 b) : ∃ s t, double.read b = .nan s t := by
  unfold Nan64 at h
  have hb : double.binade = 2 ^ 52 := rfl
  have hi : double.infRung = 2047 * 2 ^ 52 := rfl
  rw [hi] at h
  unfold Format.read
  simp only [hb, hi]
  generalize b % double.signWeight = r at h
  split
  · omega
  · split
    · omega
    · split
      · omega
      · exact ⟨_, _, rfl⟩

theorem order_nan {b : Nat} (h : Nan64 b) (y : Nat) : double.order b y = none ∧ double.order y b = none := by
  obtain ⟨s, t, e⟩ := read_nan h
  unfold Format.order
  rw [e]
  refine ⟨rfl, ?_⟩
  cases double.read y <;> rfl

theorem sub_nan {b : Nat} (h : Nan64 b) (y : Nat) : double.sub b y = none ∧ double.sub y b = none := by
  obtain ⟨s, t, e⟩ := read_nan h
  unfold Format.sub
  rw [e]
  refine ⟨rfl, ?_⟩
  cases double.read y <;> rfl

theorem add_nan {b : Nat} (h : Nan64 b) (y : Nat) : double.add b y = none ∧ double.add y b = none := by
  obtain ⟨s, t, e⟩ := read_nan h
  unfold Format.add
  rw [e]
  refine ⟨rfl, ?_⟩
  cases double.read y <;> rfl

theorem mul_nan {b : Nat} (h : Nan64 b) (y : Nat) : double.mul b y = none ∧ double.mul y b = none := by
  obtain ⟨s, t, e⟩ := read_nan h
  unfold Format.mul
  rw [e]
  refine ⟨rfl, ?_⟩
  cases double.read y <;> rfl

theorem div_nan {b : Nat} (h : Nan64 b) (y : Nat) : double.div b y = none ∧ double.div y b = none := by
  obtain ⟨s, t, e⟩ := read_nan h
  unfold Format.div
  rw [e]
  refine ⟨rfl, ?_⟩
  cases double.read y <;> rfl
end Go.Ev
