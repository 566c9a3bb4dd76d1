/- What the evaluator's facts on floats say: finite, the absolute value, the floor, a float as a whole number. -/
import Derived.Test.YtdihaemeipdfgaaGreatDoorFInt2
import Derived.Test.YtdihaemeipdfgaaGreatDoorEvLeaf2
namespace Go.Ev
open Ieee

theorem signW : double.signWeight = 2 ^ 63 := rfl
theorem rung_num : double.infRung = 9218868437227405312 := rfl

theorem inf_read {x : Nat} (h : x % double.signWeight = double.infRung) : ∃ s, double.read x = .infinity s := by
  unfold Format.read
  simp only [h]
  exact ⟨_, rfl⟩

theorem order_inf_self {x : Nat} (h : x % double.signWeight = double.infRung) : double.order x x = some .eq := by
  obtain ⟨s, e⟩ := inf_read h
  unfold Format.order
  rw [e]
  cases s <;> rfl

theorem cmp_neq_self {x : Nat} {b : Bool} (h : fcmpV .neq .f64 x x = some (.bool b)) : b = true ↔ Nan64 x := by
  have h : (double.order x x != some .eq) = b := by
    simp only [fcmpV, Option.some.injEq, Value.bool.injEq] at h
    exact h
  rcases three x with c | c | c
  · rw [order_self c] at h
    subst h
    constructor
    · intro k; cases k
    · intro k; unfold Nan64 at k; unfold Fin64 at c; omega
  · rw [order_inf_self c] at h
    subst h
    constructor
    · intro k; cases k
    · intro k; unfold Nan64 at k; omega
  · rw [(order_nan c x).1] at h
    subst h
    exact ⟨fun _ => c, fun _ => rfl⟩

theorem abs_inf : double.order 9218868437227405312 9218868437227405311 = some .gt := by decide

theorem cmp_abs_max {x : Nat} {b : Bool} (h : fcmpV .gtr .f64 (x % 2 ^ 63) 9218868437227405311 = some (.bool b)) (hn : ¬ Nan64 x) : b = false ↔ Fin64 x := by
  have h : (double.order (x % 2 ^ 63) 9218868437227405311 == some .gt) = b := by
    simp only [fcmpV, Option.some.injEq, Value.bool.injEq] at h
    exact h
  rcases three x with c | c | c
  · have := (order_max (abs_fin c).1).1
    refine ⟨fun _ => c, fun _ => ?_⟩
    subst h
    simpa using this
  · have e : x % 2 ^ 63 = 9218868437227405312 := c
    rw [e, abs_inf] at h
    subst h
    constructor
    · intro k; cases k
    · intro k; unfold Fin64 at k; omega
  · exact (hn c).elim

theorem and_top (b : Nat) : (BitVec.ofInt 64 (b : Int) &&& ~~~BitVec.ofInt 64 9223372036854775808).toNat = b % 2 ^ 63 := by
  have e1 : ~~~BitVec.ofInt 64 9223372036854775808 = BitVec.ofNat 64 (2 ^ 63 - 1) := by decide
  have k : (BitVec.ofInt 64 (b : Int)) = BitVec.ofNat 64 b := BitVec.ofInt_ofNat 64 b
  rw [e1, k, BitVec.toNat_and, BitVec.toNat_ofNat, BitVec.toNat_ofNat, Nat.mod_eq_of_lt (a := 2 ^ 63 - 1) (by decide), Nat.and_two_pow_sub_one_eq_mod]
  omega
theorem andNot_top {b : Nat} {r : Int} (h : ibin .andNot .u64 (b : Int) 9223372036854775808 = some (.int .u64 r)) : r = ((b % 2 ^ 63 : Nat) : Int) := by
  simp only [ibin, Option.some.injEq, Value.int.injEq, true_and] at h
  subst h
  have e2 : (BitVec.ofInt IntKind.u64.bits (b : Int) &&& ~~~BitVec.ofInt IntKind.u64.bits 9223372036854775808).toNat = b % 2 ^ 63 := and_top b
  rw [e2, IntKind.wrap_u64]
  omega

theorem fbits_iv {a r : Value} (ha : a = .float .f64 (fv a)) (h : extRel .fbits [a] r) : iv r = (fv a : Nat) := by
  rw [ha] at h
  have h : r = .int .u64 (fv a : Nat) := h
  rw [h]; rfl
theorem ffrom_fv {a r : Value} (ha : a = .int .u64 (iv a)) (h : extRel .ffrom [a] r) : fv r = (iv a).toNat := by
  rw [ha] at h
  have h : r = .float .f64 (iv a).toNat := h
  rw [h]; rfl
/-- The absolute value. -/
theorem abs_of {x a b r : Value} (hx : x = .float .f64 (fv x)) (h1 : extRel .fbits [x] a) (h2 : ibin .andNot IntKind.u64 (iv a) 9223372036854775808 = some (.int IntKind.u64 (iv b))) (hb : b = .int .u64 (iv b)) (h3 : extRel .ffrom [b] r) : fv r = fv x % 2 ^ 63 := by
  have e1 := fbits_iv hx h1
  rw [e1] at h2
  have e2 := andNot_top h2
  have e3 := ffrom_fv hb h3
  rw [e3, e2]
  rfl

theorem floor_fv {x r : Value} (hx : x = .float .f64 (fv x)) (h : extRel .floor [x] r) (hf : Fin64 (fv x)) (h1 : -(2 ^ 53) < flr (fv x)) (h2 : flr (fv x) < 2 ^ 53) : Fin64 (fv r) ∧ sv (fv r) = flr (fv x) * KK := by
  rw [hx] at h
  obtain ⟨b, rfl, hb⟩ : ∃ b, r = .float .f64 b ∧ _ := h
  have hb := hb (not_nan hf)
  have k := integral_fin hf .down (toInt_down hf) h1 h2
  rw [← hb] at k
  exact k

theorem f2i_iv {y : Nat} {r n : Int} (h : (∃ n, (FloatKind.f64.decode y).toInt .zero = some n ∧ IntKind.i64.min ≤ n ∧ n ≤ IntKind.i64.max ∧ r = n) ∨ (∀ n, (FloatKind.f64.decode y).toInt .zero = some n → ¬ (IntKind.i64.min ≤ n ∧ n ≤ IntKind.i64.max)))
    (hf : Fin64 y) (e : (sv y).tdiv KK = n) (h1 : -(2 ^ 62) ≤ n) (h2 : n ≤ 2 ^ 62) : r = n := by
  have k := toInt_zero hf
  rw [e] at k
  have m1 : IntKind.i64.min = -(2 ^ 63) := rfl
  have m2 : IntKind.i64.max = 2 ^ 63 - 1 := rfl
  rcases h with ⟨m, a1, _, _, rfl⟩ | h
  · rw [k] at a1; exact (Option.some.inj a1).symm
  · exact absurd ⟨by rw [m1]; omega, by rw [m2]; omega⟩ (h n k)

theorem tdiv_KK (n : Int) : (n * KK).tdiv KK = n := Int.mul_tdiv_cancel n (by have := KK_pos; omega)

/-- The float of a whole number, by its bits. -/
theorem num_bits {n : Int} {b : Nat} (h1 : -(2 ^ 53) ≤ n) (h2 : n ≤ 2 ^ 53) (e : FloatKind.f64.nearest n = b) : Fin64 b ∧ sv b = n * KK := by
  rw [← e]; exact nearest_int h1 h2

theorem le_flr {n : Int} {x : Nat} : n ≤ flr x ↔ n * KK ≤ sv x := Int.le_ediv_iff_mul_le KK_pos
theorem flr_lt {n : Int} {x : Nat} : flr x < n ↔ sv x < n * KK := Int.ediv_lt_iff_lt_mul KK_pos

theorem flr_of {x : Nat} {n : Int} (h : sv x = n * KK) : flr x = n := by
  have a : n ≤ flr x := le_flr.2 (by omega)
  have b : flr x < n + 1 := flr_lt.2 (by rw [Int.add_mul]; have := KK_pos; omega)
  omega

theorem cmp_lt {a b : Int} : compare a b = .lt ↔ a < b := Int.compare_eq_lt
theorem cmp_gt {a b : Int} : compare a b = .gt ↔ b < a := Int.compare_eq_gt
end Go.Ev
