/- Rounded to places: what comes of it, and where it lies. -/
import Derived.Test.YtgfoocnnidhepaaGreatDoorFRnd
import Derived.Test.YtgfoocnnidhepaaGreatDoorEvCut
namespace Go.Ev
open Ieee
theorem shiftUp {c m q a b k : Nat} (hk : b = a + k) (h : c * 2 ^ a = m * 2 ^ q) : c * 2 ^ b = m * 2 ^ (q + k) := by
  rw [hk, Nat.pow_add, ← Nat.mul_assoc, h, Nat.mul_assoc, ← Nat.pow_add]
theorem KK_nat : ((2 ^ 1074 : Nat) : Int) = KK := Int.natCast_pow 2 1074
theorem rdiv {a P c : Nat} (ha : a ≠ 0) (h1 : a < 2 ^ 46) (hP0 : P ≠ 0) (hP : P ≤ 1000) (hc : c ≠ 0) (hc2 : c ≤ 2 ^ 31) : ∃ r, double.div (FloatKind.f64.nearest a) (FloatKind.f64.nearest P) = some r ∧ r < 2 ^ 64 ∧ Fin64 r ∧ 0 ≤ sv r ∧ sv r ≤ a * KK ∧
    (a * 64 ≤ c * P → sv r ≤ c * K68) ∧ (c * P ≤ a * 64 → c * K68 ≤ sv r) := by
  obtain ⟨mag, place, e, hp, _, hB⟩ := div_both ha hP0 (by omega) (by omega)
  have hla : a.log2 < 46 := log2_lt ha h1
  obtain ⟨m1, q1, i1, i2, i3, i4⟩ := int_norm ha (by omega)
  obtain ⟨m2, q2, j1, j2, j3, j4⟩ := norm64 hc (by omega)
  have hPp : a * 2 ^ 0 ≤ a * P := by rw [Nat.pow_zero]; exact Nat.mul_le_mul_left a (by omega)
  have u1 := (hB 0 a (by omega)).1 hPp
  rw [shiftUp (b := 2148 - 0) (k := 1074) rfl i4] at u1
  have hv : mag * 2 ^ (place + 2148).toNat = ((mag * 2 ^ (place + 2148).toNat : Nat) : Int).natAbs := by rw [Int.natAbs_natCast]
  have f' := up_of (neg := false) hp hv i1 i2 i3 (by rw [← hv]; exact u1)
  have f := f'.1
  have ka : ((m1 * 2 ^ q1 : Nat) : Int) = a * KK := by rw [← i4, Int.natCast_mul, KK_nat]
  have pos := (pos_read (nearest_le mag place) f).2
  have kc : ((m2 * 2 ^ q2 : Nat) : Int) = c * K68 := by rw [← j4, Int.natCast_mul, K68_nat]
  refine ⟨_, e, nearest_lt _ _ _, f, pos, by have := f'.2; omega, fun h => ?_, fun h => ?_⟩
  · have u := (hB 6 c (by omega)).1 (by rw [Nat.mul_comm] at h ⊢; omega)
    rw [shiftUp (b := 2148 - 6) (k := 1074) rfl j4] at u
    have g := (up_of (neg := false) hp hv j1 j2 j3 (by rw [← hv]; exact u)).2
    rw [← kc]
    omega
  · have u := (hB 6 c (by omega)).2 (by rw [Nat.mul_comm] at h ⊢; omega)
    rw [shiftUp (b := 2148 - 6) (k := 1074) rfl j4] at u
    have hnn : (0 : Int) ≤ ((mag * 2 ^ (place + 2148).toNat : Nat) : Int) := Int.natCast_nonneg _
    have g := down_of (neg := false) hp hv (fun _ => (decide_eq_false (by omega)).symm) j1 j2 (by rw [← hv]; exact u)
    rw [← kc]
    rcases g with ⟨_, g | g⟩ | g
    · exact g.2
    · omega
    · exfalso
      rw [g] at f
      unfold Fin64 at f
      have : ∀ b : Bool, double.word b double.infRung % double.signWeight = double.infRung := by decide
      rw [this] at f
      omega
def P64 (x : Nat) (m : Int) : Prop := Fin64 x ∧ sv x * 64 = m * KK ∧ -(2 ^ 31) ≤ m ∧ m ≤ 2 ^ 31 ∧ (sv x = 0 → x = 0)
def tenN (p : Int) : Nat := if p = 0 then 1 else if p = 1 then 10 else if p = 2 then 100 else 1000
theorem tenN_bd (p : Int) : tenN p ≠ 0 ∧ tenN p ≤ 1000 := by unfold tenN; split; omega; split; omega; split <;> omega
def kRo (n : Int) : Int := (n + 32) / 64
def kUp (n : Int) : Int := (n + 63) / 64
def kDn (n : Int) : Int := n / 64
def qsv (k : Int) (P : Nat) (s : Int) : Prop := (k = 0 ∧ s = 0) ∨ (k ≠ 0 ∧ ∃ w, double.div (FloatKind.f64.nearest k) (FloatKind.f64.nearest P) = some w ∧ s = sv w)
theorem qsv_one {k : Int} {P : Nat} {s t : Int} (h : qsv k P s) (h' : qsv k P t) : s = t := by
  rcases h with ⟨h1, h2⟩ | ⟨h1, w, h2, h3⟩ <;> rcases h' with ⟨g1, g2⟩ | ⟨g1, v, g2, g3⟩
  · omega
  · omega
  · omega
  · rw [h2] at g2; cases g2; omega
def resR (k : Int → Int) (x : Nat) (p : Int) (r : Nat) : Prop :=
  ∃ m s : Int, P64 x m ∧ qsv (k (m.natAbs * tenN p)) (tenN p) s ∧ Fin64 r ∧ sv r = if m < 0 then -s else s
theorem m_one {x : Nat} {m n : Int} (h : P64 x m) (h' : P64 x n) : m = n := by
  have := h.2.1.symm.trans h'.2.1
  exact Int.eq_of_mul_eq_mul_right (Int.ne_of_gt KK_pos) this
theorem law_eq {x : Nat} {p : Int} {a u d : Nat} (ha : resR kRo x p a) (hu : resR kUp x p u) (hd : resR kDn x p d) : Fin64 a ∧ Fin64 u ∧ Fin64 d ∧ (sv a = sv u ∨ sv a = sv d) := by
  obtain ⟨m, s, a1, a2, a3, a4⟩ := ha
  obtain ⟨m', t, b1, b2, b3, b4⟩ := hu
  obtain ⟨m'', v, c1, c2, c3, c4⟩ := hd
  have e1 := m_one a1 b1
  have e2 := m_one a1 c1
  subst e1; subst e2
  refine ⟨a3, b3, c3, ?_⟩
  generalize ((m.natAbs : Nat) : Int) * tenN p = N at *
  have hk : kRo N = kUp N ∨ kRo N = kDn N := by unfold kRo kUp kDn; omega
  rcases hk with hk | hk
  · rw [hk] at a2
    have := qsv_one a2 b2
    subst this
    exact .inl (a4.trans b4.symm)
  · rw [hk] at a2
    have := qsv_one a2 c2
    subst this
    exact .inr (a4.trans c4.symm)
theorem P64_abs {x : Nat} {m : Int} (h : P64 x m) : (if sv x < 0 then - sv x else sv x) = m.natAbs * K68 := by
  rw [of64 h.2.1]
  have := K68_pos
  rcases (show m < 0 ∨ 0 ≤ m by omega) with c | c
  · have : m * K68 < 0 := Int.mul_neg_of_neg_of_pos c this
    rw [if_pos this, ← Int.neg_mul]; congr 1; omega
  · have : 0 ≤ m * K68 := Int.mul_nonneg c (by omega)
    rw [if_neg (by omega)]; congr 1; omega
theorem qsv_nonneg {N : Int} {c P : Nat} {k s : Int} (hP0 : P ≠ 0) (hP : P ≤ 1000) (hN : N = c * P) (hc : c ≤ 2 ^ 31) (h0 : 0 ≤ k) (hk : k ≤ (N + 63) / 64) (h : qsv k P s) :
    0 ≤ s ∧ s ≤ k * KK ∧ (k = N / 64 → s ≤ c * K68) ∧ (k = (N + 63) / 64 → c * K68 ≤ s) := by
  have hcP : c * P ≤ 2 ^ 31 * 1000 := Nat.mul_le_mul hc hP
  have hN' : N = ((c * P : Nat) : Int) := by rw [hN, Int.natCast_mul]
  have hcn : (0 : Int) ≤ c * K68 := Int.mul_nonneg (by omega) (Int.le_of_lt K68_pos)
  have c0 : c = 0 → N = 0 := fun e => by rw [hN, e]; simp
  rcases h with ⟨h1, h2⟩ | ⟨h1, w, h2, h3⟩
  · subst h2
    refine ⟨Int.le_refl 0, by rw [h1]; simp, fun _ => hcn, fun e => ?_⟩
    have : c * P = 0 := by omega
    have : c = 0 := by rcases Nat.mul_eq_zero.1 this with e | e; exact e; exact (hP0 e).elim
    rw [this]; simp
  · have hcc : c ≠ 0 := fun e => by have := c0 e; omega
    obtain ⟨a, rfl⟩ : ∃ a : Nat, k = a := ⟨k.toNat, by omega⟩
    obtain ⟨r, e, _, _, r3, r6, r4, r5⟩ := rdiv (a := a) (P := P) (c := c) (by omega) (by omega) hP0 hP hcc hc
    rw [e] at h2; cases h2
    subst h3
    exact ⟨r3, r6, fun e => r4 (by omega), fun e => r5 (by omega)⟩
theorem k_bd (N : Int) (h : 0 ≤ N) : (0 ≤ kUp N ∧ kUp N ≤ (N + 63) / 64) ∧ (0 ≤ kDn N ∧ kDn N ≤ (N + 63) / 64) := by unfold kUp kDn; omega
theorem abs_if (m s : Int) (h : 0 ≤ s) : (if (if m < 0 then -s else s) < 0 then -(if m < 0 then -s else s) else (if m < 0 then -s else s)) = s := by
  split <;> split <;> omega
theorem law_dn {x : Nat} {p : Int} {d : Nat} (h : resR kDn x p d) : Fin64 x ∧ Fin64 d ∧ (if sv d < 0 then - sv d else sv d) ≤ (if sv x < 0 then - sv x else sv x) := by
  obtain ⟨m, s, a1, a2, a3, a4⟩ := h
  have hb := tenN_bd p
  have hn : (0 : Int) ≤ (m.natAbs : Int) * (tenN p : Nat) := Int.mul_nonneg (by omega) (by omega)
  obtain ⟨b1, _, b2, _⟩ := qsv_nonneg (N := (m.natAbs : Int) * (tenN p : Nat)) hb.1 hb.2 rfl (by have := a1.2.2; omega) (k_bd _ hn).2.1 (k_bd _ hn).2.2 a2
  refine ⟨a1.1, a3, ?_⟩
  rw [P64_abs a1, a4, abs_if m s b1]
  exact b2 rfl
theorem law_up {x : Nat} {p : Int} {u : Nat} (h : resR kUp x p u) : Fin64 x ∧ Fin64 u ∧ (if sv x < 0 then - sv x else sv x) ≤ (if sv u < 0 then - sv u else sv u) ∧ (if sv u < 0 then - sv u else sv u) ≤ 2 ^ 46 * KK := by
  obtain ⟨m, s, a1, a2, a3, a4⟩ := h
  have hb := tenN_bd p
  have hn : (0 : Int) ≤ (m.natAbs : Int) * (tenN p : Nat) := Int.mul_nonneg (by omega) (by omega)
  obtain ⟨b1, b3, _, b2⟩ := qsv_nonneg (N := (m.natAbs : Int) * (tenN p : Nat)) hb.1 hb.2 rfl (by have := a1.2.2; omega) (k_bd _ hn).1.1 (k_bd _ hn).1.2 a2
  refine ⟨a1.1, a3, ?_⟩
  rw [P64_abs a1, a4, abs_if m s b1]
  refine ⟨b2 rfl, Int.le_trans b3 (Int.mul_le_mul_of_nonneg_right ?_ (Int.le_of_lt KK_pos))⟩
  have hc : m.natAbs ≤ 2 ^ 31 := by have := a1.2.2; omega
  have hcP : m.natAbs * tenN p ≤ 2 ^ 31 * 1000 := Nat.mul_le_mul hc hb.2
  have e : (m.natAbs : Int) * (tenN p : Nat) = ((m.natAbs * tenN p : Nat) : Int) := (Int.natCast_mul _ _).symm
  rw [e]
  unfold kUp
  omega
end Go.Ev
