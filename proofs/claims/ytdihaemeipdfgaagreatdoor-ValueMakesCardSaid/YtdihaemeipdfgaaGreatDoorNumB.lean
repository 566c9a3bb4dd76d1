/- The number package's dates: FromDate, ToDate, Weekday. -/
import Derived.Test.YtdihaemeipdfgaaGreatDoorNumA
import Derived.Test.YtdihaemeipdfgaaGreatDoorFLaw
namespace Go.Proofs.Num
open Go.Ev Go.Dates Go.RowKit
set_option maxRecDepth 1000000

def okD (y m d : Int) : Prop := 1 ≤ y ∧ y ≤ 9999 ∧ 1 ≤ m ∧ m ≤ 12 ∧ 1 ≤ d ∧ d ≤ monI y m
def fromR : List Value → Prop
  | [y, m, d, x, e] => (okD (iv y) (iv m) (iv d) ∧ iv e = 0 ∧ fv x = FloatKind.f64.nearest (dayI (iv y) (iv m) (iv d) - 693593)) ∨ (¬ okD (iv y) (iv m) (iv d) ∧ iv e = 81 ∧ fv x = 0)
  | _ => False
/-- A number that is a day. -/
def dayR (x : Nat) : Prop := Fin64 x ∧ -693593 ≤ flr x ∧ flr x ≤ 2958465
def toR : List Value → Prop
  | [x, y, m, d, e] => (¬ Fin64 (fv x) ∧ iv e = 80 ∧ iv y = 0 ∧ iv m = 0 ∧ iv d = 0) ∨ ((Fin64 (fv x) ∧ (flr (fv x) < -693593 ∨ 2958465 < flr (fv x))) ∧ iv e = 81 ∧ iv y = 0 ∧ iv m = 0 ∧ iv d = 0)
      ∨ (Fin64 (fv x) ∧ iv e = 0 ∧ IsDate (flr (fv x) + 693593) (iv y) (iv m) (iv d))
  | _ => False
def wdR : List Value → Prop
  | [x, w, e] => (¬ Fin64 (fv x) ∧ iv e = 80 ∧ iv w = 0) ∨ ((Fin64 (fv x) ∧ (flr (fv x) < -693593 ∨ 2958465 < flr (fv x))) ∧ iv e = 81 ∧ iv w = 0)
      ∨ (dayR (fv x) ∧ iv e = 0 ∧ iv w = (flr (fv x) + 693594) % 7 + 1)
  | _ => False
abbrev f64S : Sh := .sc (.float .f64)
def fromC : Con := { f := 7, ins := [i64S, i64S, i64S], out := .tup [f64S, i64S], id := "fromR", rel := fromR }
def toC : Con := { f := 6, ins := [f64S], out := .tup [i64S, i64S, i64S, i64S], id := "toR", rel := toR }
def wdC : Con := { f := 9, ins := [f64S], out := .tup [i64S, i64S], id := "wdR", rel := wdR }
theorem fv_flo (k : FloatKind) (n : Nat) : fv (.float k n) = n := rfl

def from_L0 : Prop := ∀ σ : Nat → Value,
    (σ 0 = .int .i64 (iv (σ 0))) →
    (σ 1 = .int .i64 (iv (σ 1))) →
    (σ 2 = .int .i64 (iv (σ 2))) →
    (iv (σ 0) < 1) →
    fromR [σ 0, σ 1, σ 2, (Value.float .f64 0), (Value.int .i64 81)]

def from_L1 : Prop := ∀ σ : Nat → Value,
    (σ 0 = .int .i64 (iv (σ 0))) →
    (σ 1 = .int .i64 (iv (σ 1))) →
    (σ 2 = .int .i64 (iv (σ 2))) →
    (9999 < iv (σ 0)) →
    (1 ≤ iv (σ 0)) →
    fromR [σ 0, σ 1, σ 2, (Value.float .f64 0), (Value.int .i64 81)]

def from_L2 : Prop := ∀ σ : Nat → Value,
    (σ 0 = .int .i64 (iv (σ 0))) →
    (σ 1 = .int .i64 (iv (σ 1))) →
    (σ 2 = .int .i64 (iv (σ 2))) →
    (iv (σ 1) < 1) →
    (iv (σ 0) ≤ 9999) →
    (1 ≤ iv (σ 0)) →
    fromR [σ 0, σ 1, σ 2, (Value.float .f64 0), (Value.int .i64 81)]

def from_L3 : Prop := ∀ σ : Nat → Value,
    (σ 0 = .int .i64 (iv (σ 0))) →
    (σ 1 = .int .i64 (iv (σ 1))) →
    (σ 2 = .int .i64 (iv (σ 2))) →
    (12 < iv (σ 1)) →
    (1 ≤ iv (σ 1)) →
    (iv (σ 0) ≤ 9999) →
    (1 ≤ iv (σ 0)) →
    fromR [σ 0, σ 1, σ 2, (Value.float .f64 0), (Value.int .i64 81)]

def from_L4 : Prop := ∀ σ : Nat → Value,
    (σ 0 = .int .i64 (iv (σ 0))) →
    (σ 1 = .int .i64 (iv (σ 1))) →
    (σ 2 = .int .i64 (iv (σ 2))) →
    (iv (σ 2) < 1) →
    (iv (σ 1) ≤ 12) →
    (1 ≤ iv (σ 1)) →
    (iv (σ 0) ≤ 9999) →
    (1 ≤ iv (σ 0)) →
    fromR [σ 0, σ 1, σ 2, (Value.float .f64 0), (Value.int .i64 81)]

def from_L5 : Prop := ∀ σ : Nat → Value,
    (σ 0 = .int .i64 (iv (σ 0))) →
    (σ 1 = .int .i64 (iv (σ 1))) →
    (σ 2 = .int .i64 (iv (σ 2))) →
    (σ 8 = .int .i64 (iv (σ 8))) →
    (monthR [σ 0, σ 1, σ 8]) →
    (iv (σ 8) < iv (σ 2)) →
    (1 ≤ iv (σ 2)) →
    (iv (σ 1) ≤ 12) →
    (1 ≤ iv (σ 1)) →
    (iv (σ 0) ≤ 9999) →
    (1 ≤ iv (σ 0)) →
    fromR [σ 0, σ 1, σ 2, (Value.float .f64 0), (Value.int .i64 81)]

def from_L6 : Prop := ∀ σ : Nat → Value,
    (σ 0 = .int .i64 (iv (σ 0))) →
    (σ 1 = .int .i64 (iv (σ 1))) →
    (σ 2 = .int .i64 (iv (σ 2))) →
    (σ 8 = .int .i64 (iv (σ 8))) →
    (σ 10 = .int .i64 (iv (σ 10))) →
    (σ 11 = .int .i64 (iv (σ 11))) →
    (σ 12 = .int .i64 (iv (σ 12))) →
    (σ 13 = .float .f64 (fv (σ 13))) →
    (monthR [σ 0, σ 1, σ 8]) →
    (daysR [σ 0, σ 1, σ 2, σ 10]) →
    (beginR [σ 11]) →
    (iv (σ 12) = IntKind.i64.wrap (iv (σ 10) - iv (σ 11))) →
    (fv (σ 13) = FloatKind.f64.nearest (iv (σ 12))) →
    (iv (σ 2) ≤ iv (σ 8)) →
    (1 ≤ iv (σ 2)) →
    (iv (σ 1) ≤ 12) →
    (1 ≤ iv (σ 1)) →
    (iv (σ 0) ≤ 9999) →
    (1 ≤ iv (σ 0)) →
    fromR [σ 0, σ 1, σ 2, σ 13, (Value.int .i64 0)]

def from_L7 : Prop := ∀ σ : Nat → Value,
    (σ 0 = .int .i64 (iv (σ 0))) →
    (σ 1 = .int .i64 (iv (σ 1))) →
    (σ 2 = .int .i64 (iv (σ 2))) →
    (σ 8 = .int .i64 (iv (σ 8))) →
    (monthR [σ 0, σ 1, σ 8]) →
    (¬ daysRPre [σ 0, σ 1, σ 2]) →
    (iv (σ 2) ≤ iv (σ 8)) →
    (1 ≤ iv (σ 2)) →
    (iv (σ 1) ≤ 12) →
    (1 ≤ iv (σ 1)) →
    (iv (σ 0) ≤ 9999) →
    (1 ≤ iv (σ 0)) →
    False

theorem from_tie : fromC.goals (cfgC Tryz.prog (entersOf Tryz.prog) X [monthC, daysC, beginC]) [] 2000 = (from_L0 ∧ from_L1 ∧ from_L2 ∧ from_L3 ∧ from_L4 ∧ from_L5 ∧ from_L6 ∧ from_L7 ∧ True) := by kernel_rfl
theorem from_ok {cond : World → Prop} (hs : Keeps cond) : fromC.ok Tryz.prog cond := by
  refine by_tie from_tie (by kernel_rfl) hs (all_cons (month_ok hs) (all_cons (days_ok hs) (all_cons (begin_ok hs) all_nil))) ⟨?_, ?_, ?_, ?_, ?_, ?_, ?_, ?_, trivial⟩ <;>
  · intro σ; intros; (simp only [monthR, daysRPre, daysR, beginR, fromR, okD, iv_int, fv_flo] at *)
    have c := monI_pos (iv (σ 0)) (iv (σ 1))
    have c1 := cum_bd (iv (σ 0)) (iv (σ 1))
    first
    | omega
    | (right; exact ⟨by omega, rfl, rfl⟩)
    | (right; exact ⟨by omega, trivial, trivial⟩)
    | (have c2 := yr_bd (y := iv (σ 0)) (by omega) (by omega)
       have c3 : dayI (iv (σ 0)) (iv (σ 1)) (iv (σ 2)) = yr (iv (σ 0)) + cum (iv (σ 0)) (iv (σ 1)) + iv (σ 2) - 1 := rfl
       (repeat (simp (disch := omega) only [IntWalk.i64_in] at *))
       have e : iv (σ 12) = dayI (iv (σ 0)) (iv (σ 1)) (iv (σ 2)) - 693593 := by omega
       simp only [e] at *
       left; exact ⟨by omega, trivial, ‹_›⟩)


def to_L0 : Prop := ∀ σ : Nat → Value,
    (σ 0 = .float .f64 (fv (σ 0))) →
    (σ 1 = .bool (bv (σ 1))) →
    (σ 3 = .int .u64 (iv (σ 3))) →
    (σ 4 = .int .u64 (iv (σ 4))) →
    (σ 5 = .float .f64 (fv (σ 5))) →
    (σ 6 = .bool (bv (σ 6))) →
    (σ 7 = .bool (bv (σ 7))) →
    (fcmpV .neq .f64 (fv (σ 0)) (fv (σ 0)) = some (.bool (bv (σ 1)))) →
    (extRel .fbits [σ 0] (σ 3)) →
    (ibin .andNot IntKind.u64 (iv (σ 3)) (9223372036854775808) = some (.int IntKind.u64 (iv (σ 4)))) →
    (extRel .ffrom [σ 4] (σ 5)) →
    (fcmpV .gtr .f64 (fv (σ 5)) (9218868437227405311) = some (.bool (bv (σ 6)))) →
    (bv (σ 7) = !(bv (σ 6))) →
    (bv (σ 7) = !true) →
    (bv (σ 1) = !true) →
    toR [σ 0, (Value.int .i64 0), (Value.int .i64 0), (Value.int .i64 0), (Value.int .i64 80)]

def to_L1 : Prop := ∀ σ : Nat → Value,
    (σ 0 = .float .f64 (fv (σ 0))) →
    (σ 1 = .bool (bv (σ 1))) →
    (σ 3 = .int .u64 (iv (σ 3))) →
    (σ 4 = .int .u64 (iv (σ 4))) →
    (σ 5 = .float .f64 (fv (σ 5))) →
    (σ 6 = .bool (bv (σ 6))) →
    (σ 7 = .bool (bv (σ 7))) →
    (σ 9 = .int .u64 (iv (σ 9))) →
    (σ 10 = .int .u64 (iv (σ 10))) →
    (σ 11 = .float .f64 (fv (σ 11))) →
    (fcmpV .neq .f64 (fv (σ 0)) (fv (σ 0)) = some (.bool (bv (σ 1)))) →
    (extRel .fbits [σ 0] (σ 3)) →
    (ibin .andNot IntKind.u64 (iv (σ 3)) (9223372036854775808) = some (.int IntKind.u64 (iv (σ 4)))) →
    (extRel .ffrom [σ 4] (σ 5)) →
    (fcmpV .gtr .f64 (fv (σ 5)) (9218868437227405311) = some (.bool (bv (σ 6)))) →
    (bv (σ 7) = !(bv (σ 6))) →
    (extRel .fbits [σ 0] (σ 9)) →
    (ibin .andNot IntKind.u64 (iv (σ 9)) (9223372036854775808) = some (.int IntKind.u64 (iv (σ 10)))) →
    (extRel .ffrom [σ 10] (σ 11)) →
    (ford (fv (σ 11)) (4726483295884279808) = some .gt) →
    (bv (σ 7) = !false) →
    (bv (σ 1) = !true) →
    toR [σ 0, (Value.int .i64 0), (Value.int .i64 0), (Value.int .i64 0), (Value.int .i64 81)]

def to_L2 : Prop := ∀ σ : Nat → Value,
    (σ 0 = .float .f64 (fv (σ 0))) →
    (σ 1 = .bool (bv (σ 1))) →
    (σ 3 = .int .u64 (iv (σ 3))) →
    (σ 4 = .int .u64 (iv (σ 4))) →
    (σ 5 = .float .f64 (fv (σ 5))) →
    (σ 6 = .bool (bv (σ 6))) →
    (σ 7 = .bool (bv (σ 7))) →
    (σ 9 = .int .u64 (iv (σ 9))) →
    (σ 10 = .int .u64 (iv (σ 10))) →
    (σ 11 = .float .f64 (fv (σ 11))) →
    (σ 13 = .float .f64 (fv (σ 13))) →
    (σ 14 = .int .i64 (iv (σ 14))) →
    (σ 15 = .int .i64 (iv (σ 15))) →
    (σ 16 = .int .i64 (iv (σ 16))) →
    (σ 17 = .int .i64 (iv (σ 17))) →
    (σ 18 = .bool (bv (σ 18))) →
    (fcmpV .neq .f64 (fv (σ 0)) (fv (σ 0)) = some (.bool (bv (σ 1)))) →
    (extRel .fbits [σ 0] (σ 3)) →
    (ibin .andNot IntKind.u64 (iv (σ 3)) (9223372036854775808) = some (.int IntKind.u64 (iv (σ 4)))) →
    (extRel .ffrom [σ 4] (σ 5)) →
    (fcmpV .gtr .f64 (fv (σ 5)) (9218868437227405311) = some (.bool (bv (σ 6)))) →
    (bv (σ 7) = !(bv (σ 6))) →
    (extRel .fbits [σ 0] (σ 9)) →
    (ibin .andNot IntKind.u64 (iv (σ 9)) (9223372036854775808) = some (.int IntKind.u64 (iv (σ 10)))) →
    (extRel .ffrom [σ 10] (σ 11)) →
    (extRel .floor [σ 0] (σ 13)) →
    (((∃ n, (FloatKind.f64.decode (fv (σ 13))).toInt .zero = some n ∧ IntKind.i64.min ≤ n ∧ n ≤ IntKind.i64.max ∧ iv (σ 14) = n) ∨ (∀ n, (FloatKind.f64.decode (fv (σ 13))).toInt .zero = some n → ¬ (IntKind.i64.min ≤ n ∧ n ≤ IntKind.i64.max)))) →
    (dateR [σ 14, σ 15, σ 16, σ 17, σ 18]) →
    (bv (σ 18) = !true) →
    (ford (fv (σ 11)) (4726483295884279808) ≠ some .gt) →
    (bv (σ 7) = !false) →
    (bv (σ 1) = !true) →
    toR [σ 0, (Value.int .i64 0), (Value.int .i64 0), (Value.int .i64 0), (Value.int .i64 81)]

def to_L3 : Prop := ∀ σ : Nat → Value,
    (σ 0 = .float .f64 (fv (σ 0))) →
    (σ 1 = .bool (bv (σ 1))) →
    (σ 3 = .int .u64 (iv (σ 3))) →
    (σ 4 = .int .u64 (iv (σ 4))) →
    (σ 5 = .float .f64 (fv (σ 5))) →
    (σ 6 = .bool (bv (σ 6))) →
    (σ 7 = .bool (bv (σ 7))) →
    (σ 9 = .int .u64 (iv (σ 9))) →
    (σ 10 = .int .u64 (iv (σ 10))) →
    (σ 11 = .float .f64 (fv (σ 11))) →
    (σ 13 = .float .f64 (fv (σ 13))) →
    (σ 14 = .int .i64 (iv (σ 14))) →
    (σ 15 = .int .i64 (iv (σ 15))) →
    (σ 16 = .int .i64 (iv (σ 16))) →
    (σ 17 = .int .i64 (iv (σ 17))) →
    (σ 18 = .bool (bv (σ 18))) →
    (fcmpV .neq .f64 (fv (σ 0)) (fv (σ 0)) = some (.bool (bv (σ 1)))) →
    (extRel .fbits [σ 0] (σ 3)) →
    (ibin .andNot IntKind.u64 (iv (σ 3)) (9223372036854775808) = some (.int IntKind.u64 (iv (σ 4)))) →
    (extRel .ffrom [σ 4] (σ 5)) →
    (fcmpV .gtr .f64 (fv (σ 5)) (9218868437227405311) = some (.bool (bv (σ 6)))) →
    (bv (σ 7) = !(bv (σ 6))) →
    (extRel .fbits [σ 0] (σ 9)) →
    (ibin .andNot IntKind.u64 (iv (σ 9)) (9223372036854775808) = some (.int IntKind.u64 (iv (σ 10)))) →
    (extRel .ffrom [σ 10] (σ 11)) →
    (extRel .floor [σ 0] (σ 13)) →
    (((∃ n, (FloatKind.f64.decode (fv (σ 13))).toInt .zero = some n ∧ IntKind.i64.min ≤ n ∧ n ≤ IntKind.i64.max ∧ iv (σ 14) = n) ∨ (∀ n, (FloatKind.f64.decode (fv (σ 13))).toInt .zero = some n → ¬ (IntKind.i64.min ≤ n ∧ n ≤ IntKind.i64.max)))) →
    (dateR [σ 14, σ 15, σ 16, σ 17, σ 18]) →
    (bv (σ 18) = !false) →
    (ford (fv (σ 11)) (4726483295884279808) ≠ some .gt) →
    (bv (σ 7) = !false) →
    (bv (σ 1) = !true) →
    toR [σ 0, σ 15, σ 16, σ 17, (Value.int .i64 0)]

def to_L4 : Prop := ∀ σ : Nat → Value,
    (σ 0 = .float .f64 (fv (σ 0))) →
    (σ 1 = .bool (bv (σ 1))) →
    (σ 3 = .int .u64 (iv (σ 3))) →
    (σ 4 = .int .u64 (iv (σ 4))) →
    (σ 5 = .float .f64 (fv (σ 5))) →
    (σ 6 = .bool (bv (σ 6))) →
    (σ 7 = .bool (bv (σ 7))) →
    (σ 9 = .int .u64 (iv (σ 9))) →
    (σ 10 = .int .u64 (iv (σ 10))) →
    (σ 11 = .float .f64 (fv (σ 11))) →
    (σ 13 = .float .f64 (fv (σ 13))) →
    (σ 14 = .int .i64 (iv (σ 14))) →
    (fcmpV .neq .f64 (fv (σ 0)) (fv (σ 0)) = some (.bool (bv (σ 1)))) →
    (extRel .fbits [σ 0] (σ 3)) →
    (ibin .andNot IntKind.u64 (iv (σ 3)) (9223372036854775808) = some (.int IntKind.u64 (iv (σ 4)))) →
    (extRel .ffrom [σ 4] (σ 5)) →
    (fcmpV .gtr .f64 (fv (σ 5)) (9218868437227405311) = some (.bool (bv (σ 6)))) →
    (bv (σ 7) = !(bv (σ 6))) →
    (extRel .fbits [σ 0] (σ 9)) →
    (ibin .andNot IntKind.u64 (iv (σ 9)) (9223372036854775808) = some (.int IntKind.u64 (iv (σ 10)))) →
    (extRel .ffrom [σ 10] (σ 11)) →
    (extRel .floor [σ 0] (σ 13)) →
    (((∃ n, (FloatKind.f64.decode (fv (σ 13))).toInt .zero = some n ∧ IntKind.i64.min ≤ n ∧ n ≤ IntKind.i64.max ∧ iv (σ 14) = n) ∨ (∀ n, (FloatKind.f64.decode (fv (σ 13))).toInt .zero = some n → ¬ (IntKind.i64.min ≤ n ∧ n ≤ IntKind.i64.max)))) →
    (¬ dateRPre [σ 14]) →
    (ford (fv (σ 11)) (4726483295884279808) ≠ some .gt) →
    (bv (σ 7) = !false) →
    (bv (σ 1) = !true) →
    False

def to_L5 : Prop := ∀ σ : Nat → Value,
    (σ 0 = .float .f64 (fv (σ 0))) →
    (σ 1 = .bool (bv (σ 1))) →
    (fcmpV .neq .f64 (fv (σ 0)) (fv (σ 0)) = some (.bool (bv (σ 1)))) →
    (bv (σ 1) = !false) →
    toR [σ 0, (Value.int .i64 0), (Value.int .i64 0), (Value.int .i64 0), (Value.int .i64 80)]

theorem to_tie : toC.goals (cfgC Tryz.prog (entersOf Tryz.prog) X [dateC]) [] 2000 = (to_L0 ∧ to_L1 ∧ to_L2 ∧ to_L3 ∧ to_L4 ∧ to_L5 ∧ True) := by kernel_rfl
theorem bits_1e8 : FloatKind.f64.nearest 100000000 = 4726483295884279808 := by kernel_rfl
theorem e8 : Fin64 4726483295884279808 ∧ sv 4726483295884279808 = 100000000 * KK := num_bits (by decide) (by decide) bits_1e8
theorem not_true {a b : Bool} (h : a = !b) (k : a = !true) : b = true := by cases b <;> simp_all
/-- What the two tests of 'finite' say. -/
theorem fin_tests {x y : Nat} {a b c : Bool} (h1 : fcmpV .neq .f64 x x = some (.bool a)) (ha : a = !true) (e : y = x % 2 ^ 63) (h2 : fcmpV .gtr .f64 y 9218868437227405311 = some (.bool b)) (h3 : c = !b) : c = true ↔ Fin64 x := by
  subst e
  have n : ¬ Nan64 x := fun h => by have := (cmp_neq_self h1).2 h; rw [ha] at this; cases this
  have k := cmp_abs_max h2 n
  subst h3
  cases b with
  | false => exact ⟨fun _ => k.1 rfl, fun _ => rfl⟩
  | true => exact ⟨fun h => (by cases h), fun h => (by have := k.2 h; cases this)⟩
theorem abs_gt {x y : Nat} (hf : Fin64 x) (e : y = x % 2 ^ 63) : (ford y 4726483295884279808 = some .gt ↔ (100000000 * KK < sv x ∨ sv x < -(100000000 * KK))) := by
  subst e
  obtain ⟨h1, h2⟩ := abs_fin hf
  rw [ford_fin h1 e8.1, e8.2, h2, Option.some.injEq, cmp_gt]
  split <;> omega
theorem flr_out {x : Nat} (h : 100000000 * KK < sv x ∨ sv x < -(100000000 * KK)) : flr x < -693593 ∨ 2958465 < flr x := by
  have := KK_pos
  rcases h with h | h
  · right
    have : 100000000 ≤ flr x := le_flr.2 (by omega)
    omega
  · left
    have : flr x < -100000000 := flr_lt.2 (by omega)
    omega
theorem flr_in {x : Nat} (h : ¬ (100000000 * KK < sv x ∨ sv x < -(100000000 * KK))) : -100000000 ≤ flr x ∧ flr x ≤ 100000000 := by
  have := KK_pos
  refine ⟨le_flr.2 (by omega), ?_⟩
  have : flr x < 100000001 := flr_lt.2 (by omega)
  omega
theorem to_L0_ok : to_L0 := by
  intro σ; intro s0 s1 s3 s4 s5 s6 s7; intros
  have a := abs_of s0 ‹extRel .fbits [σ 0] (σ 3)› ‹_› ‹_› ‹extRel .ffrom [σ 4] (σ 5)›
  have f := fin_tests ‹_› ‹_› a ‹_› ‹_›
  left
  refine ⟨fun h => ?_, rfl, rfl, rfl, rfl⟩
  have := f.2 h
  rw [‹bv (σ 7) = !true›] at this; cases this
theorem to_L5_ok : to_L5 := by
  intro σ; intros
  left
  refine ⟨fun h => ?_, rfl, rfl, rfl, rfl⟩
  have n := (cmp_neq_self ‹fcmpV .neq .f64 (fv (σ 0)) (fv (σ 0)) = _›).1 ‹_›
  unfold Nan64 at n; unfold Fin64 at h; omega
theorem to_L1_ok : to_L1 := by
  intro σ; intros
  have s0 := ‹σ 0 = .float .f64 (fv (σ 0))›
  have a5 := abs_of s0 ‹extRel .fbits [σ 0] (σ 3)› ‹_› ‹σ 4 = .int .u64 (iv (σ 4))› ‹extRel .ffrom [σ 4] (σ 5)›
  have f := (fin_tests ‹_› ‹_› a5 ‹_› ‹_›).1 ‹bv (σ 7) = !false›
  have a11 := abs_of s0 ‹extRel .fbits [σ 0] (σ 9)› ‹_› ‹σ 10 = .int .u64 (iv (σ 10))› ‹extRel .ffrom [σ 10] (σ 11)›
  have gt := abs_gt f a11
  right; left
  exact ⟨⟨f, flr_out (gt.1 ‹_›)⟩, rfl, rfl, rfl, rfl⟩
theorem to_L2_ok : to_L2 := by
  intro σ; intros
  have s0 := ‹σ 0 = .float .f64 (fv (σ 0))›
  have a5 := abs_of s0 ‹extRel .fbits [σ 0] (σ 3)› ‹_› ‹σ 4 = .int .u64 (iv (σ 4))› ‹extRel .ffrom [σ 4] (σ 5)›
  have f := (fin_tests ‹_› ‹_› a5 ‹_› ‹_›).1 ‹bv (σ 7) = !false›
  have a11 := abs_of s0 ‹extRel .fbits [σ 0] (σ 9)› ‹_› ‹σ 10 = .int .u64 (iv (σ 10))› ‹extRel .ffrom [σ 10] (σ 11)›
  have gt := abs_gt f a11
  have r := flr_in (fun h => ‹ford (fv (σ 11)) (4726483295884279808) ≠ some .gt› (gt.2 h))
  have k := floor_fv s0 ‹extRel .floor [σ 0] (σ 13)› f (by omega) (by omega)
  have n14 := f2i_iv (n := flr (fv (σ 0))) ‹(∃ n, _ ∧ _) ∨ _› k.1 (by rw [k.2]; exact tdiv_KK _) (by omega) (by omega)
  have d := ‹dateR _›
  simp only [dateR] at d
  rw [‹bv (σ 18) = !true›, n14] at d
  rcases d with ⟨h, _⟩ | ⟨_, h⟩
  · cases h
  · right; left
    exact ⟨⟨f, by omega⟩, rfl, rfl, rfl, rfl⟩
theorem to_L3_ok : to_L3 := by
  intro σ; intros
  have s0 := ‹σ 0 = .float .f64 (fv (σ 0))›
  have a5 := abs_of s0 ‹extRel .fbits [σ 0] (σ 3)› ‹_› ‹σ 4 = .int .u64 (iv (σ 4))› ‹extRel .ffrom [σ 4] (σ 5)›
  have f := (fin_tests ‹_› ‹_› a5 ‹_› ‹_›).1 ‹bv (σ 7) = !false›
  have a11 := abs_of s0 ‹extRel .fbits [σ 0] (σ 9)› ‹_› ‹σ 10 = .int .u64 (iv (σ 10))› ‹extRel .ffrom [σ 10] (σ 11)›
  have gt := abs_gt f a11
  have r := flr_in (fun h => ‹ford (fv (σ 11)) (4726483295884279808) ≠ some .gt› (gt.2 h))
  have k := floor_fv s0 ‹extRel .floor [σ 0] (σ 13)› f (by omega) (by omega)
  have n14 := f2i_iv (n := flr (fv (σ 0))) ‹(∃ n, _ ∧ _) ∨ _› k.1 (by rw [k.2]; exact tdiv_KK _) (by omega) (by omega)
  have d := ‹dateR _›
  simp only [dateR] at d
  rw [‹bv (σ 18) = !false›, n14] at d
  rcases d with ⟨_, h⟩ | ⟨h, _⟩
  · right; right
    exact ⟨f, rfl, h⟩
  · cases h
theorem to_L4_ok : to_L4 := by
  intro σ; intros
  have s0 := ‹σ 0 = .float .f64 (fv (σ 0))›
  have a5 := abs_of s0 ‹extRel .fbits [σ 0] (σ 3)› ‹_› ‹σ 4 = .int .u64 (iv (σ 4))› ‹extRel .ffrom [σ 4] (σ 5)›
  have f := (fin_tests ‹_› ‹_› a5 ‹_› ‹_›).1 ‹bv (σ 7) = !false›
  have a11 := abs_of s0 ‹extRel .fbits [σ 0] (σ 9)› ‹_› ‹σ 10 = .int .u64 (iv (σ 10))› ‹extRel .ffrom [σ 10] (σ 11)›
  have gt := abs_gt f a11
  have r := flr_in (fun h => ‹ford (fv (σ 11)) (4726483295884279808) ≠ some .gt› (gt.2 h))
  have k := floor_fv s0 ‹extRel .floor [σ 0] (σ 13)› f (by omega) (by omega)
  have n14 := f2i_iv (n := flr (fv (σ 0))) ‹(∃ n, _ ∧ _) ∨ _› k.1 (by rw [k.2]; exact tdiv_KK _) (by omega) (by omega)
  have d := ‹¬ dateRPre _›
  simp only [dateRPre] at d
  omega
theorem to_ok {cond : World → Prop} (hs : Keeps cond) : toC.ok Tryz.prog cond :=
  by_tie to_tie (by kernel_rfl) hs (all_cons (date_ok hs) all_nil) ⟨to_L0_ok, to_L1_ok, to_L2_ok, to_L3_ok, to_L4_ok, to_L5_ok, trivial⟩


def wd_L0 : Prop := ∀ σ : Nat → Value,
    (σ 0 = .float .f64 (fv (σ 0))) →
    (σ 1 = .int .i64 (iv (σ 1))) →
    (σ 2 = .int .i64 (iv (σ 2))) →
    (σ 3 = .int .i64 (iv (σ 3))) →
    (σ 4 = .int .i64 (iv (σ 4))) →
    (toR [σ 0, σ 1, σ 2, σ 3, σ 4]) →
    (iv (σ 4) ≠ 0) →
    wdR [σ 0, (Value.int .i64 0), σ 4]

def wd_L1 : Prop := ∀ σ : Nat → Value,
    (σ 0 = .float .f64 (fv (σ 0))) →
    (σ 1 = .int .i64 (iv (σ 1))) →
    (σ 2 = .int .i64 (iv (σ 2))) →
    (σ 3 = .int .i64 (iv (σ 3))) →
    (σ 4 = .int .i64 (iv (σ 4))) →
    (σ 6 = .int .i64 (iv (σ 6))) →
    (σ 7 = .int .i64 (iv (σ 7))) →
    (σ 8 = .int .i64 (iv (σ 8))) →
    (σ 9 = .int .i64 (iv (σ 9))) →
    (toR [σ 0, σ 1, σ 2, σ 3, σ 4]) →
    (daysR [σ 1, σ 2, σ 3, σ 6]) →
    (iv (σ 7) = IntKind.i64.wrap (iv (σ 6) + 1)) →
    (iv (σ 8) = (iv (σ 7) : Int).tmod (7)) →
    (iv (σ 9) = IntKind.i64.wrap (iv (σ 8) + 1)) →
    (iv (σ 4) = 0) →
    wdR [σ 0, σ 9, (Value.int .i64 0)]

def wd_L2 : Prop := ∀ σ : Nat → Value,
    (σ 0 = .float .f64 (fv (σ 0))) →
    (σ 1 = .int .i64 (iv (σ 1))) →
    (σ 2 = .int .i64 (iv (σ 2))) →
    (σ 3 = .int .i64 (iv (σ 3))) →
    (σ 4 = .int .i64 (iv (σ 4))) →
    (toR [σ 0, σ 1, σ 2, σ 3, σ 4]) →
    (¬ daysRPre [σ 1, σ 2, σ 3]) →
    (iv (σ 4) = 0) →
    False

theorem wd_tie : wdC.goals (cfgC Tryz.prog (entersOf Tryz.prog) X [toC, daysC]) [] 2000 = (wd_L0 ∧ wd_L1 ∧ wd_L2 ∧ True) := by kernel_rfl
theorem IsDate.pre {n y m d : Int} (h : IsDate n y m d) : 1 ≤ y ∧ y ≤ 10000 ∧ 1 ≤ m ∧ m ≤ 12 ∧ -100000 ≤ d ∧ d ≤ 100000 := by
  have := monI_pos y m
  have := h.y1; have := h.y2; have := h.m1; have := h.m2; have := h.d1; have := h.d2
  omega
theorem wd_L0_ok : wd_L0 := by
  intro σ; intros; (simp only [toR, wdR, iv_int] at *)
  rcases ‹_ ∨ _› with ⟨a, b, _⟩ | ⟨a, b, _⟩ | ⟨a, b, _⟩
  · left; exact ⟨a, b, trivial⟩
  · right; left; exact ⟨a, b, trivial⟩
  · omega
theorem wd_L1_ok : wd_L1 := by
  intro σ; intros; (simp only [daysR, toR, wdR, iv_int] at *)
  rcases ‹_ ∨ _› with ⟨a, b, _⟩ | ⟨a, b, _⟩ | ⟨a, b, c⟩
  · omega
  · omega
  · have d := c.day
    have r := c.range
    have e : iv (σ 6) = flr (fv (σ 0)) + 693593 := by omega
    (repeat (simp (disch := omega) only [IntWalk.i64_in, tmod_nn] at *))
    right; right
    refine ⟨⟨a, by omega, by omega⟩, trivial, by omega⟩
theorem wd_L2_ok : wd_L2 := by
  intro σ; intros; (simp only [daysRPre, toR] at *)
  rcases ‹_ ∨ _› with ⟨a, b, _⟩ | ⟨a, b, _⟩ | ⟨a, b, c⟩
  · omega
  · omega
  · have := IsDate.pre c
    omega
theorem wd_ok {cond : World → Prop} (hs : Keeps cond) : wdC.ok Tryz.prog cond :=
  by_tie wd_tie (by kernel_rfl) hs (all_cons (to_ok hs) (all_cons (days_ok hs) all_nil)) ⟨wd_L0_ok, wd_L1_ok, wd_L2_ok, trivial⟩

end Go.Proofs.Num
