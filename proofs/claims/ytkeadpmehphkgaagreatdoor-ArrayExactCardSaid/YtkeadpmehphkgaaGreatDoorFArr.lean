/- Operators of two numbers: what is reckoned once, and powers of 2 by squaring. -/
import Derived.Test.YtkeadpmehphkgaaGreatDoorFPow
import Derived.Test.YtkeadpmehphkgaaGreatDoorFDivN
import Derived.Test.YtkeadpmehphkgaaGreatDoorEvCut
namespace Go.Ev
open Ieee
def RK (z : Nat) (k : Int) (x : Nat) (e : Int) : Prop := (Fin64 z ∧ k = 1 ∧ x = (if sv z = 0 then 0 else z) ∧ e = 0) ∨ (¬ Fin64 z ∧ k = 4 ∧ x = 0 ∧ e = 6)
def FarR (op : BinOp) (x y z : Nat) : Prop := farV op .f64 x y = some (some z) ∨ farV op .f64 x y = some none ∧ Nan64 z
theorem nan_not {z : Nat} (h : Nan64 z) : ¬ Fin64 z := fun f => by unfold Fin64 at f; unfold Nan64 at h; omega
theorem far_one {op : BinOp} {x y z v : Nat} (h : FarR op x y z) (h' : FarR op x y v) : z = v ∨ (¬ Fin64 z ∧ ¬ Fin64 v) := by
  rcases h with h | ⟨h, n⟩ <;> rcases h' with h' | ⟨h', n'⟩
  · rw [h] at h'; simp only [Option.some.injEq] at h'; exact .inl h'
  · rw [h] at h'; cases h'
  · rw [h] at h'; cases h'
  · exact .inr ⟨nan_not n, nan_not n'⟩
theorem rk_one {op : BinOp} {x y z v : Nat} {k k' : Int} {a a' : Nat} {e e' : Int} (h : FarR op x y z) (h' : FarR op x y v) (r : RK z k a e) (r' : RK v k' a' e') : k = k' ∧ a = a' ∧ e = e' := by
  rcases far_one h h' with c | ⟨c, c'⟩
  · subst c
    rcases r with ⟨f, r1, r2, r3⟩ | ⟨f, r1, r2, r3⟩ <;> rcases r' with ⟨g, s1, s2, s3⟩ | ⟨g, s1, s2, s3⟩
    · exact ⟨by omega, by rw [r2, s2], by omega⟩
    · exact (g f).elim
    · exact (f g).elim
    · exact ⟨by omega, by omega, by omega⟩
  · rcases r with ⟨f, r1, r2, r3⟩ | ⟨f, r1, r2, r3⟩ <;> rcases r' with ⟨g, s1, s2, s3⟩ | ⟨g, s1, s2, s3⟩
    · exact (c f).elim
    · exact (c f).elim
    · exact (c' g).elim
    · exact ⟨by omega, by omega, by omega⟩
theorem and_one {a r : Int} (h0 : 0 ≤ a) (h1 : a < 2 ^ 64) (h : ibin .and .u64 a 1 = some (.int .u64 r)) : r = a % 2 := by
  obtain ⟨n, rfl⟩ : ∃ n : Nat, a = n := ⟨a.toNat, by omega⟩
  simp only [ibin, Option.some.injEq, Value.int.injEq, true_and] at h
  rw [← h]
  have hn : n < 2 ^ 64 := by omega
  have e1 : (BitVec.ofInt 64 (n : Int)).toNat = n := by simp; omega
  have e2 : (BitVec.ofInt 64 (1 : Int)).toNat = 1 := by decide
  have e : (BitVec.ofInt 64 (n : Int) &&& BitVec.ofInt 64 1).toNat = n % 2 := by
    rw [BitVec.toNat_and, e1, e2, Nat.and_one_is_mod]
  show IntKind.u64.wrap ((BitVec.ofInt 64 (n : Int) &&& BitVec.ofInt 64 1).toNat : Int) = _
  rw [e]
  unfold IntKind.wrap
  simp [IntKind.bits, IntKind.signed]
  omega
def powAt (n : Int) (p : Nat) (k : Int) : Prop := 0 ≤ n ∧ n ≤ 1023 ∧ -1 ≤ k ∧ k ≤ 10 ∧ p = PW (1022 + n.toNat / 2 ^ (k + 1).toNat)
theorem pow_start {n : Int} (h0 : 0 ≤ n) (h1 : n ≤ 1023) : powAt n 4607182418800017408 10 := by
  refine ⟨h0, h1, by decide, by decide, ?_⟩
  have : n.toNat / 2 ^ ((10 : Int) + 1).toNat = 0 := Nat.div_eq_of_lt (by show n.toNat < 2048; omega)
  rw [this]; decide
theorem far_val {op : BinOp} {x y z w : Nat} (h : FarR op x y z) (e : farV op .f64 x y = some (some w)) : z = w := by
  rcases h with h | ⟨h, _⟩
  · rw [e] at h; simp only [Option.some.injEq] at h; exact h.symm
  · rw [e] at h; cases h
theorem pow_step {n k : Int} {p q : Nat} {s b : Int} (I : powAt n p k) (hk : 0 ≤ k) (h : FarR .mul p p q) (hs : s = n.fdiv (2 ^ min k.toNat 64)) (hb : ibin .and .u64 s 1 = some (.int .u64 b)) :
    (b = 1 → ∀ r, FarR .mul q 4611686018427387904 r → powAt n r (k - 1)) ∧ (b ≠ 1 → powAt n q (k - 1)) := by
  obtain ⟨i1, i2, i3, i4, i5⟩ := I
  have hK : (k + 1).toNat = k.toNat + 1 := by omega
  have hK1 : (k - 1 + 1).toNat = k.toNat := by omega
  rw [hK, Nat.pow_succ, ← Nat.div_div_eq_div_mul] at i5
  have hX : n.toNat / 2 ^ k.toNat ≤ 1023 := Nat.le_trans (Nat.div_le_self _ _) (by omega)
  have hs' : s = ((n.toNat / 2 ^ k.toNat : Nat) : Int) := by
    rw [hs, show min k.toNat 64 = k.toNat by omega, Int.fdiv_eq_ediv_of_nonneg _ (Int.le_of_lt (Int.pow_pos (by decide)))]
    obtain ⟨N, rfl⟩ : ∃ N : Nat, n = N := ⟨n.toNat, by omega⟩
    simp
  generalize hXe : n.toNat / 2 ^ k.toNat = X at *
  have hb' : b = s % 2 := and_one (by omega) (by omega) hb
  have hq : q = PW (1022 + 2 * (X / 2)) := by
    refine far_val h (congrArg some ?_)
    rw [i5]
    have := PW_mul (a := 1022 + X / 2) (b := 1022 + X / 2) (by omega) (by omega) (by omega) (by omega)
    rw [show 1022 + 2 * (X / 2) = 1022 + X / 2 + (1022 + X / 2) - 1022 by omega]
    exact this
  refine ⟨fun hb1 r hr => ?_, fun hb0 => ?_⟩
  · refine ⟨i1, i2, by omega, by omega, ?_⟩
    rw [hK1, hXe]
    refine far_val hr (congrArg some ?_)
    rw [hq]
    have e2 : PW 1023 = 4611686018427387904 := by decide
    have := PW_mul (a := 1022 + 2 * (X / 2)) (b := 1023) (by omega) (by omega) (by omega) (by omega)
    rw [e2] at this
    rw [show 1022 + X = 1022 + 2 * (X / 2) + 1023 - 1022 by omega]
    exact this
  · refine ⟨i1, i2, by omega, by omega, ?_⟩
    rw [hK1, hXe, hq]
    congr 1
    omega
theorem rk_pow {q : Nat} (hq : q < 2046) {k : Int} {x : Nat} {e : Int} (h : RK (PW q) k x e) : k = 1 ∧ x = PW q ∧ e = 0 := by
  obtain ⟨f, s⟩ := PW_sv hq
  have hne : sv (PW q) ≠ 0 := by
    rw [s]
    have : 0 < 2 ^ 52 * 2 ^ q := Nat.mul_pos (Nat.two_pow_pos _) (Nat.two_pow_pos _)
    omega
  rcases h with ⟨_, h1, h2, h3⟩ | ⟨g, _⟩
  · rw [if_neg hne] at h2; exact ⟨h1, h2, h3⟩
  · exact (g f).elim
theorem pow_end {n k : Int} {p : Nat} (I : powAt n p k) (hk : k < 0) : p = PW (1022 + n.toNat) := by
  obtain ⟨_, _, i3, _, i5⟩ := I
  rw [show (k + 1).toNat = 0 by omega, Nat.pow_zero, Nat.div_one] at i5
  exact i5
theorem pow_plus {n k : Int} {p x : Nat} {kd e : Int} (I : powAt n p k) (hk : k < 0) (r : RK p kd x e) : kd = 1 ∧ x = PW (n + 1022).toNat ∧ e = 0 := by
  have hn := I.2.1
  have h0 := I.1
  rw [pow_end I hk] at r
  rw [show (n + 1022).toNat = 1022 + n.toNat by omega]
  exact rk_pow (by omega) r
theorem pow_minus {n k y : Int} {p z x : Nat} {kd e : Int} (I : powAt n p k) (hk : k < 0) (hn : n = 0 - y) (hy : -1022 ≤ y) (hy2 : y < 0) (h : FarR .quo 4607182418800017408 p z) (r : RK z kd x e) : kd = 1 ∧ x = PW (y + 1022).toNat ∧ e = 0 := by
  have e1 : PW 1022 = 4607182418800017408 := by decide
  have hz : z = PW (2044 - (1022 + n.toNat)) := by
    refine far_val h (congrArg some ?_)
    rw [pow_end I hk]
    have := PW_inv (q := 1022 + n.toNat) (by omega)
    rw [e1] at this
    exact this
  rw [hz, show 2044 - (1022 + n.toNat) = (y + 1022).toNat by omega] at r
  exact rk_pow (by omega) r
end Go.Ev
