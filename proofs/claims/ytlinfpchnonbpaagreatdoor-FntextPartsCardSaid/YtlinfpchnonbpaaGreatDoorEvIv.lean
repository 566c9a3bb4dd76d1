/- Numbers within bounds: their sums and products within bounds; floats that are whole numbers, reckoned with as such. -/
import Derived.Test.YtlinfpchnonbpaaGreatDoorEvSplit
import Derived.Test.YtlinfpchnonbpaaGreatDoorFDivN
namespace Go.Ev
open Go.RowKit (Below)
theorem wrap_in {k : IntKind} {n : Int} (h1 : k.min ≤ n) (h2 : n ≤ k.max) : k.wrap n = n := by
  cases k <;> simp only [IntKind.min, IntKind.max, IntKind.wrap, IntKind.signed, IntKind.bits] at * <;> simp at * <;> omega
def ivRaw (op : BinOp) (lx hx ly hy : Int) : Option (Int × Int) :=
  match op with
  | .add => some (lx + ly, hx + hy)
  | .sub => some (lx - hy, hx - ly)
  | .mul => bif decide (0 ≤ lx) && decide (0 ≤ ly) then some (lx * ly, hx * hy) else
    let m : Int := (max lx.natAbs hx.natAbs * max ly.natAbs hy.natAbs : Nat)
    some (-m, m)
  | .quo => bif decide (0 < ly) then (bif decide (0 ≤ lx) then some (lx / hy, hx / ly) else some (lx, bif decide (hx ≤ 0) then 0 else hx)) else none
  | .rem => bif decide (0 < ly) then (bif decide (0 ≤ lx) then some (0, min hx (hy - 1)) else some (-(hy - 1), bif decide (hx ≤ 0) then 0 else hy - 1)) else none
  | .shl => bif decide (0 ≤ ly) && (decide (ly = hy) && decide (ly < 64)) then some (lx * 2 ^ ly.toNat, hx * 2 ^ ly.toNat) else none
  | .shr => bif decide (0 ≤ ly) && (decide (ly = hy) && decide (ly < 64)) then some (lx / 2 ^ ly.toNat, hx / 2 ^ ly.toNat) else none
  | _ => none
theorem abs_bd {a l h : Int} (h1 : l ≤ a) (h2 : a ≤ h) : a.natAbs ≤ max l.natAbs h.natAbs := by omega
theorem tdiv_pos_bd {a b lx hx ly hy : Int} (h1 : lx ≤ a) (h2 : a ≤ hx) (h3 : ly ≤ b) (h4 : b ≤ hy) (hp : 0 < ly) (hl : 0 ≤ lx) : lx / hy ≤ a.tdiv b ∧ a.tdiv b ≤ hx / ly := by
  rw [Int.tdiv_eq_ediv_of_nonneg (by omega)]
  have hb : 0 < b := by omega
  have e1 : a / b ≤ a / ly := by
    rw [Int.le_ediv_iff_mul_le hp]
    exact Int.le_trans (Int.mul_le_mul_of_nonneg_left h3 (Int.ediv_nonneg (by omega) (by omega))) (Int.ediv_mul_le a (by omega))
  have e2 : a / hy ≤ a / b := by
    rw [Int.le_ediv_iff_mul_le hb]
    exact Int.le_trans (Int.mul_le_mul_of_nonneg_left h4 (Int.ediv_nonneg (by omega) (by omega))) (Int.ediv_mul_le a (by omega))
  exact ⟨Int.le_trans (Int.ediv_le_ediv (by omega) h1) e2, Int.le_trans e1 (Int.ediv_le_ediv hp h2)⟩
theorem tdiv_any_bd {a b lx hx : Int} (h1 : lx ≤ a) (h2 : a ≤ hx) (hb : 0 < b) (hl : lx < 0) : lx ≤ a.tdiv b ∧ a.tdiv b ≤ max 0 hx := by
  have ha := Int.natAbs_tdiv_le_natAbs a b
  rcases Int.lt_or_le a 0 with c | c
  · have : a.tdiv b ≤ 0 := by
      have := Int.tdiv_nonneg (a := -a) (b := b) (by omega) (by omega)
      rw [Int.neg_tdiv] at this; omega
    omega
  · have := Int.tdiv_nonneg (a := a) (b := b) c (by omega)
    omega
theorem tmod_bd {a b : Int} (hb : 0 < b) : -b < a.tmod b ∧ a.tmod b < b ∧ (0 ≤ a → 0 ≤ a.tmod b ∧ a.tmod b ≤ a) ∧ (a ≤ 0 → a.tmod b ≤ 0) := by
  refine ⟨Int.lt_tmod_of_pos a hb, Int.tmod_lt_of_pos a hb, fun h => ?_, fun h => ?_⟩
  · rw [Int.tmod_eq_emod_of_nonneg h]
    refine ⟨Int.emod_nonneg a (by omega), ?_⟩
    have h1 := Int.mul_ediv_add_emod a b
    have h2 : 0 ≤ b * (a / b) := Int.mul_nonneg (by omega) (Int.ediv_nonneg h (by omega))
    omega
  · have : 0 ≤ (-a).tmod b := by rw [Int.tmod_eq_emod_of_nonneg (by omega)]; exact Int.emod_nonneg _ (by omega)
    rw [Int.neg_tmod] at this; omega
theorem ivRaw_ok {op : BinOp} {lx hx ly hy lo hi a b : Int} (h : ivRaw op lx hx ly hy = some (lo, hi)) (h1 : lx ≤ a) (h2 : a ≤ hx) (h3 : ly ≤ b) (h4 : b ≤ hy) :
    ∃ c, intxV op a b = some c ∧ lo ≤ c ∧ c ≤ hi := by
  cases op <;> simp only [ivRaw, reduceCtorEq] at h
  case add => simp only [Option.some.injEq, Prod.mk.injEq] at h; exact ⟨_, rfl, by omega, by omega⟩
  case sub => simp only [Option.some.injEq, Prod.mk.injEq] at h; exact ⟨_, rfl, by omega, by omega⟩
  case mul =>
    refine ⟨_, rfl, ?_⟩
    cases hc : decide (0 ≤ lx) && decide (0 ≤ ly) with
    | true =>
      rw [hc] at h
      simp only [Bool.and_eq_true, decide_eq_true_eq] at hc
      simp only [cond_true, Option.some.injEq, Prod.mk.injEq] at h
      obtain ⟨rfl, rfl⟩ := h
      exact ⟨Int.mul_le_mul h1 h3 hc.2 (by omega), Int.mul_le_mul h2 h4 (by omega) (by omega)⟩
    | false =>
      rw [hc] at h
      simp only [cond_false, Option.some.injEq, Prod.mk.injEq] at h
      obtain ⟨rfl, rfl⟩ := h
      have k1 := Nat.mul_le_mul (abs_bd h1 h2) (abs_bd h3 h4)
      rw [← Int.natAbs_mul] at k1
      omega
  case quo =>
    cases hc : decide (0 < ly) with
    | false => rw [hc] at h; cases h
    | true =>
      rw [hc] at h
      simp only [decide_eq_true_eq] at hc
      simp only [cond_true] at h
      refine ⟨a.tdiv b, by simp only [intxV]; rw [if_neg (by omega)], ?_⟩
      cases hd : decide (0 ≤ lx) with
      | true =>
        rw [hd] at h
        simp only [decide_eq_true_eq] at hd
        simp only [cond_true, Option.some.injEq, Prod.mk.injEq] at h
        obtain ⟨rfl, rfl⟩ := h
        exact tdiv_pos_bd h1 h2 h3 h4 hc hd
      | false =>
        rw [hd] at h
        simp only [decide_eq_false_iff_not] at hd
        simp only [cond_false, Option.some.injEq, Prod.mk.injEq] at h
        obtain ⟨rfl, rfl⟩ := h
        have := tdiv_any_bd h1 h2 (show 0 < b by omega) (by omega)
        cases he : decide (hx ≤ 0) with
        | true => simp only [decide_eq_true_eq] at he; simp only [cond_true]; omega
        | false => simp only [decide_eq_false_iff_not] at he; simp only [cond_false]; omega
  case rem =>
    cases hc : decide (0 < ly) with
    | false => rw [hc] at h; cases h
    | true =>
      rw [hc] at h
      simp only [decide_eq_true_eq] at hc
      simp only [cond_true] at h
      refine ⟨a.tmod b, by simp only [intxV]; rw [if_neg (by omega)], ?_⟩
      obtain ⟨t1, t2, t3, t4⟩ := tmod_bd (a := a) (show 0 < b by omega)
      cases hd : decide (0 ≤ lx) with
      | true =>
        rw [hd] at h
        simp only [decide_eq_true_eq] at hd
        simp only [cond_true, Option.some.injEq, Prod.mk.injEq] at h
        obtain ⟨rfl, rfl⟩ := h
        have := t3 (by omega)
        omega
      | false =>
        rw [hd] at h
        simp only [cond_false, Option.some.injEq, Prod.mk.injEq] at h
        obtain ⟨rfl, rfl⟩ := h
        cases he : decide (hx ≤ 0) with
        | true => simp only [decide_eq_true_eq] at he; simp only [cond_true]; have := t4 (by omega); omega
        | false => simp only [cond_false]; omega
  case shl =>
    cases hc : decide (0 ≤ ly) && (decide (ly = hy) && decide (ly < 64)) with
    | false => rw [hc] at h; cases h
    | true =>
      rw [hc] at h
      simp only [Bool.and_eq_true, decide_eq_true_eq] at hc
      obtain ⟨c1, rfl, c3⟩ := hc
      simp only [cond_true, Option.some.injEq, Prod.mk.injEq] at h
      obtain ⟨rfl, rfl⟩ := h
      have hb : b = ly := by omega
      subst hb
      refine ⟨a * 2 ^ b.toNat, by simp only [intxV]; rw [if_neg (by omega)], ?_⟩
      have hp : (0 : Int) ≤ 2 ^ b.toNat := Int.le_of_lt (pow_pos_int _)
      exact ⟨Int.mul_le_mul_of_nonneg_right h1 hp, Int.mul_le_mul_of_nonneg_right h2 hp⟩
  case shr =>
    cases hc : decide (0 ≤ ly) && (decide (ly = hy) && decide (ly < 64)) with
    | false => rw [hc] at h; cases h
    | true =>
      rw [hc] at h
      simp only [Bool.and_eq_true, decide_eq_true_eq] at hc
      obtain ⟨c1, rfl, c3⟩ := hc
      simp only [cond_true, Option.some.injEq, Prod.mk.injEq] at h
      obtain ⟨rfl, rfl⟩ := h
      have hb : b = ly := by omega
      subst hb
      have hp : (0 : Int) < 2 ^ b.toNat := pow_pos_int _
      refine ⟨a.fdiv (2 ^ b.toNat), by simp only [intxV]; rw [if_neg (by omega)], ?_⟩
      rw [Int.fdiv_eq_ediv_of_nonneg _ (Int.le_of_lt hp)]
      exact ⟨Int.ediv_le_ediv hp h1, Int.ediv_le_ediv hp h2⟩
def ivRes (op : BinOp) (k : IntKind) (lx hx ly hy : Int) : Option (Int × Int) :=
  match ivRaw op lx hx ly hy with
  | some (lo, hi) => bif decide (k.min ≤ lo) && (decide (hi ≤ k.max) && decide (ly < k.bits)) || (!isShift op && (decide (k.min ≤ lo) && decide (hi ≤ k.max))) then some (lo, hi) else none
  | none => none
theorem ivRes_ok {op : BinOp} {k k' : IntKind} {lx hx ly hy lo hi a b : Int} (h : ivRes op k lx hx ly hy = some (lo, hi)) (h1 : lx ≤ a) (h2 : a ≤ hx) (h3 : ly ≤ b) (h4 : b ≤ hy) (hk : isShift op = true ∨ k' = k) :
    ∃ c, intxV op a b = some c ∧ lo ≤ c ∧ c ≤ hi ∧ intV op k a k' b = some (.int k c) := by
  unfold ivRes at h
  split at h
  case h_2 => cases h
  rename_i l u hraw
  cases hc : decide (k.min ≤ l) && (decide (u ≤ k.max) && decide (ly < k.bits)) || (!isShift op && (decide (k.min ≤ l) && decide (u ≤ k.max))) with
  | false => rw [hc] at h; cases h
  | true =>
    rw [hc] at h
    simp only [cond_true, Option.some.injEq, Prod.mk.injEq] at h
    obtain ⟨rfl, rfl⟩ := h
    obtain ⟨c, e1, e2, e3⟩ := ivRaw_ok hraw h1 h2 h3 h4
    have hr : k.min ≤ l ∧ u ≤ k.max ∧ (isShift op = true → ly < k.bits) := by
      simp only [Bool.or_eq_true, Bool.and_eq_true, decide_eq_true_eq, Bool.not_eq_true'] at hc
      rcases hc with ⟨a, b, c⟩ | ⟨a, b, c⟩
      · exact ⟨a, b, fun _ => c⟩
      · exact ⟨b, c, fun h => by rw [a] at h; cases h⟩
    have hw : k.wrap c = c := wrap_in (by omega) (by omega)
    refine ⟨c, e1, e2, e3, ?_⟩
    cases op <;> simp only [intxV, reduceCtorEq, Option.some.injEq] at e1
    case add =>
      subst e1
      rcases hk with hk | rfl
      · cases hk
      · simp only [intV, if_true, ibin, hw]
    case sub =>
      subst e1
      rcases hk with hk | rfl
      · cases hk
      · simp only [intV, if_true, ibin, hw]
    case mul =>
      subst e1
      rcases hk with hk | rfl
      · cases hk
      · simp only [intV, if_true, ibin, hw]
    case quo =>
      split at e1
      · cases e1
      · rename_i hb
        simp only [Option.some.injEq] at e1; subst e1
        rcases hk with hk | rfl
        · cases hk
        · simp only [intV, if_true, ibin, if_neg hb, hw]
    case rem =>
      split at e1
      · cases e1
      · rename_i hb
        simp only [Option.some.injEq] at e1; subst e1
        rcases hk with hk | rfl
        · cases hk
        · simp only [intV, if_true, ibin, if_neg hb]
    case shl =>
      split at e1
      · cases e1
      · rename_i hb
        simp only [Option.some.injEq] at e1; subst e1
        have hl := hr.2.2 rfl
        have hly : ly = b := by
          simp only [ivRaw] at hraw
          cases hc : decide (0 ≤ ly) && (decide (ly = hy) && decide (ly < 64)) with
          | false => rw [hc] at hraw; cases hraw
          | true => simp only [Bool.and_eq_true, decide_eq_true_eq] at hc; omega
        have hm : min b.toNat k.bits = b.toNat := by omega
        simp only [intV, ishift, if_neg hb, hm, hw]
    case shr =>
      split at e1
      · cases e1
      · rename_i hb
        simp only [Option.some.injEq] at e1; subst e1
        have hl := hr.2.2 rfl
        have hly : ly = b := by
          simp only [ivRaw] at hraw
          cases hc : decide (0 ≤ ly) && (decide (ly = hy) && decide (ly < 64)) with
          | false => rw [hc] at hraw; cases hraw
          | true => simp only [Bool.and_eq_true, decide_eq_true_eq] at hc; omega
        have hm : min b.toNat k.bits = b.toNat := by omega
        simp only [intV, ishift, if_neg hb, hm]
theorem bound_intx (op : BinOp) (k : IntKind) : Bound (.intx op k) := bound_fun fun _ _ _ => rfl
theorem bound_i2ix (k : IntKind) : Bound (.i2ix k) := bound_fun fun _ _ _ => rfl
section
variable {B G : Nat} {w0 : Start} {E : Env} {S : St} {w : World} {P : Program}
def ivVal (S : St) (k : IntKind) (lo hi : Int) (op : SOp) (args : List SV) : SV × St :=
  bif decide (lo = hi) then (.val (.int k lo), S) else known S (.intIn k (some lo) (some hi)) op args
theorem ivVal_ok (hr : Rel B G w0 E S w) {k : IntKind} {lo hi c : Int} {op : SOp} {args : List SV} {vs : List Value} (hb : Bound op) (ha : SV.denL E args = some vs) (h1 : lo ≤ c) (h2 : c ≤ hi) (hf : op.rel w0 vs (.int k c)) :
    ∃ F, E.le F ∧ Rel B G w0 F (ivVal S k lo hi op args).2 w ∧ (ivVal S k lo hi op args).1.den F = some (.int k c) := by
  unfold ivVal
  cases hc : decide (lo = hi) with
  | true =>
    simp only [decide_eq_true_eq] at hc
    have : c = lo := by omega
    subst this
    exact ⟨E, E.le_refl, hr, by simp only [cond_true, SV.den]⟩
  | false => exact known_ok hr hb ha ⟨c, rfl, fun a e => by cases e; exact h1, fun a e => by cases e; exact h2⟩ hf
def bdOf (S : St) (x : SV) : Option (IntKind × Int × Int) :=
  match intOf S x with
  | some (k, some lo, some hi) => some (k, lo, hi)
  | _ => none
theorem bdOf_ok (hr : ERel E S) {x : SV} {k : IntKind} {lo hi : Int} {v : Value} (h : bdOf S x = some (k, lo, hi)) (hx : x.den E = some v) : ∃ n, v = .int k n ∧ lo ≤ n ∧ n ≤ hi := by
  unfold bdOf at h
  split at h
  · rename_i k' lo' hi' hio
    simp only [Option.some.injEq, Prod.mk.injEq] at h
    obtain ⟨rfl, rfl, rfl⟩ := h
    obtain ⟨n, e1, e2, e3⟩ := intOf_ok hr hio hx
    exact ⟨n, e1, e2 _ rfl, e3 _ rfl⟩
  · cases h
def ivArith (S : St) (op : BinOp) (x y : SV) : Option (SV × St) :=
  match bdOf S x, bdOf S y with
  | some (k, lx, hx), some (k', ly, hy) => bif isShift op || decide (k = k') then
      (match ivRes op k lx hx ly hy with
      | some (lo, hi) => some (ivVal S k lo hi (.intx op k) [x, y])
      | none => none) else none
  | _, _ => none
theorem ivArith_ok (hr : Rel B G w0 E S w) {op : BinOp} {x y sv : SV} {S' : St} {vx vy : Value} (h : ivArith S op x y = some (sv, S')) (hx : x.den E = some vx) (hy : y.den E = some vy) :
    ∃ k a k' b c F, vx = .int k a ∧ vy = .int k' b ∧ intV op k a k' b = some (.int k c) ∧ intxV op a b = some c ∧ E.le F ∧ Rel B G w0 F S' w ∧ sv.den F = some (.int k c) := by
  unfold ivArith at h
  split at h
  case h_2 => cases h
  rename_i k lx ux k' ly uy h1 h2
  obtain ⟨a, rfl, a1, a2⟩ := bdOf_ok hr.env h1 hx
  obtain ⟨b, rfl, b1, b2⟩ := bdOf_ok hr.env h2 hy
  cases hc : isShift op || decide (k = k') with
  | false => rw [hc] at h; cases h
  | true =>
    rw [hc] at h
    simp only [cond_true] at h
    simp only [Bool.or_eq_true, decide_eq_true_eq] at hc
    split at h
    case h_2 => cases h
    rename_i lo hi hres
    simp only [Option.some.injEq] at h
    obtain ⟨c, e1, e2, e3, e4⟩ := ivRes_ok hres a1 a2 b1 b2 (hc.imp id Eq.symm)
    obtain ⟨F, f1, f2, f3⟩ := ivVal_ok hr (k := k) (bound_intx op k) (denL_mk hx (denL_mk hy (r := []) rfl)) e2 e3 (by show sopFun (.intx op k) _ = _; simp only [sopFun, if_true, e1, Option.map_some])
    rw [h] at f2 f3
    exact ⟨k, a, k', b, c, F, rfl, rfl, e4, e1, f1, f2, f3⟩
def ivKind (S : St) (k : IntKind) (x : SV) : Option (SV × St) :=
  match bdOf S x with
  | some (k', lo, hi) => bif decide (k.min ≤ lo) && decide (hi ≤ k.max) then
      (bif decide (k' = k) then some (x, S) else some (ivVal S k lo hi (.i2ix k) [x])) else none
  | none => none
theorem ivKind_ok (hr : Rel B G w0 E S w) {k : IntKind} {x sv : SV} {S' : St} {v : Value} (h : ivKind S k x = some (sv, S')) (hx : x.den E = some v) :
    ∃ k' n F, v = .int k' n ∧ k.min ≤ n ∧ n ≤ k.max ∧ E.le F ∧ Rel B G w0 F S' w ∧ sv.den F = some (.int k n) := by
  unfold ivKind at h
  split at h
  case h_2 => cases h
  rename_i k' lo hi h1
  obtain ⟨n, rfl, a1, a2⟩ := bdOf_ok hr.env h1 hx
  cases hc : decide (k.min ≤ lo) && decide (hi ≤ k.max) with
  | false => rw [hc] at h; cases h
  | true =>
    rw [hc] at h
    simp only [Bool.and_eq_true, decide_eq_true_eq] at hc
    simp only [cond_true] at h
    cases hk : decide (k' = k) with
    | true =>
      rw [hk] at h
      simp only [cond_true, Option.some.injEq, Prod.mk.injEq] at h
      obtain ⟨rfl, rfl⟩ := h
      simp only [decide_eq_true_eq] at hk; subst hk
      exact ⟨k', n, E, rfl, by omega, by omega, E.le_refl, hr, hx⟩
    | false =>
      rw [hk] at h
      simp only [cond_false, Option.some.injEq] at h
      obtain ⟨F, f1, f2, f3⟩ := ivVal_ok hr (k := k) (bound_i2ix k) (denL_mk hx (r := []) rfl) a1 a2 (by show sopFun (.i2ix k) _ = _; rfl)
      rw [h] at f2 f3
      exact ⟨k', n, F, rfl, by omega, by omega, f1, f2, f3⟩
theorem ordAns_ok {op : BinOp} {lx hx ly hy : Option Int} {b : Bool} {n m : Int} (k : IntKind) (h : ordAns op lx hx ly hy = some b) (hn1 : ∀ a, lx = some a → a ≤ n) (hn2 : ∀ a, hx = some a → n ≤ a) (hm1 : ∀ a, ly = some a → a ≤ m) (hm2 : ∀ a, hy = some a → m ≤ a) :
    ibin op k n m = some (.bool b) := by
  have lt1 : ltO hx ly = true → n < m := fun h => by
    obtain ⟨p, q, rfl, rfl, hpq⟩ := ltO_ok h
    have := hn2 _ rfl; have := hm1 _ rfl; omega
  have lt2 : ltO hy lx = true → m < n := fun h => by
    obtain ⟨p, q, rfl, rfl, hpq⟩ := ltO_ok h
    have := hm2 _ rfl; have := hn1 _ rfl; omega
  have le1 : leO hx ly = true → n ≤ m := fun h => by
    obtain ⟨p, q, rfl, rfl, hpq⟩ := leO_ok h
    have := hn2 _ rfl; have := hm1 _ rfl; omega
  have le2 : leO hy lx = true → m ≤ n := fun h => by
    obtain ⟨p, q, rfl, rfl, hpq⟩ := leO_ok h
    have := hm2 _ rfl; have := hn1 _ rfl; omega
  have ne : (ltO hx ly || ltO hy lx) = true → (n == m) = false := fun h => by
    simp only [Bool.or_eq_true] at h
    have : n ≠ m := by rcases h with h | h
                       · have := lt1 h; omega
                       · have := lt2 h; omega
    simpa using this
  cases op <;> simp only [ordAns, reduceCtorEq] at h <;> rcases twoWays_ok h with ⟨rfl, h'⟩ | ⟨rfl, h'⟩
  all_goals simp only [ibin, Option.some.injEq, Value.bool.injEq]
  all_goals first
    | (cases h'; done)
    | exact ne h'
    | (have := ne h'; simp only [bne, this]; rfl)
    | (have := lt1 h'; simp; omega)
    | (have := lt2 h'; simp; omega)
    | (have := le1 h'; simp; omega)
    | (have := le2 h'; simp; omega)
end
end Go.Ev
