/- The reference's calendar: month, ahead, Day, FromDate, date. -/
import Derived.Test.YtdihaemeipdfgaaGreatDoorNumB
import Derived.Test.YtdihaemeipdfgaaGreatDoorNumM
import Derived.Test.YtdihaemeipdfgaaGreatDoorFClock
import Derived.Test.YtdihaemeipdfgaaGreatDoorNumL
namespace Go.Proofs.Num
open Go.Ev Go.Dates Go.RowKit
set_option maxRecDepth 1000000
def rmonthRPre : List Value → Prop | [y, m] => 1 ≤ iv y ∧ iv y ≤ 10000 ∧ 1 ≤ iv m ∧ iv m ≤ 12 | _ => False
def rmonthR : List Value → Prop | [y, m, r] => iv r = monI (iv y) (iv m) | _ => False
def raheadRPre : List Value → Prop | [y] => 1 ≤ iv y ∧ iv y ≤ 10000 | _ => False
def raheadR : List Value → Prop | [y, r] => iv r = yr (iv y) - 693593 | _ => False
def rDayR : List Value → Prop
  | [y, m, d, n, ok] => (okD (iv y) (iv m) (iv d) ∧ bv ok = true ∧ iv n = dayI (iv y) (iv m) (iv d) - 693593) ∨ (¬ okD (iv y) (iv m) (iv d) ∧ bv ok = false ∧ iv n = 0)
  | _ => False
def rDayI (l : List Value) : Prop := 1 ≤ g l 12 ∧ g l 12 ≤ g l 1 ∧ g l 11 = yr (g l 0) - 693593 + cum (g l 0) (g l 12)
def rDayIM (l : List Value) : Nat := (g l 1 - g l 12).toNat
def rDayI_ : LSpec := ⟨"rDayI", rDayI, rDayIM⟩
def rdateRPre : List Value → Prop | [n] => -693593 ≤ iv n ∧ iv n ≤ 2958465 | _ => False
def rdateR : List Value → Prop | [n, y, m, d] => IsDate (iv n + 693593) (iv y) (iv m) (iv d) | _ => False
def pw (s : Int) : Prop := s = 0 ∨ s = 1 ∨ s = 2 ∨ s = 4 ∨ s = 8 ∨ s = 16 ∨ s = 32 ∨ s = 64 ∨ s = 128 ∨ s = 256 ∨ s = 512 ∨ s = 1024 ∨ s = 2048 ∨ s = 4096 ∨ s = 8192
def topS (s : Int) : Int := if s = 0 then 1 else 2 * s
def Tst (n y t : Int) : Prop := 9999 < y + t ∨ n < yr (y + t) - 693593
theorem pw_half {s : Int} (h : pw s) (hs : 0 < s) : pw (s / 2) ∧ topS (s / 2) = s ∧ 0 ≤ s / 2 ∧ s / 2 < s ∧ s ≤ 8192 ∧ topS s = 2 * s := by
  unfold pw at h
  rcases h with rfl | rfl | rfl | rfl | rfl | rfl | rfl | rfl | rfl | rfl | rfl | rfl | rfl | rfl | rfl <;> first | omega | (unfold pw topS; decide)
theorem Tst_shift {n y s : Int} (h : Tst n y (2 * s)) : Tst n (y + s) s := by
  unfold Tst at *
  rw [show y + s + s = y + 2 * s by omega]
  exact h
def rstepI (l : List Value) : Prop := 1 ≤ g l 1 ∧ g l 1 ≤ 9999 ∧ yr (g l 1) - 693593 ≤ g l 0 ∧ pw (g l 2) ∧ Tst (g l 0) (g l 1) (topS (g l 2))
def rstepIM (l : List Value) : Nat := (g l 2).toNat
def rstepI_ : LSpec := ⟨"rstepI", rstepI, rstepIM⟩
def rmonI (l : List Value) : Prop := 1 ≤ g l 26 ∧ g l 26 ≤ 12 ∧ 0 ≤ g l 25 ∧ g l 25 + cum (g l 1) (g l 26) = g l 0 - (yr (g l 1) - 693593)
def rmonIM (l : List Value) : Nat := (13 - g l 26).toNat
def rmonI_ : LSpec := ⟨"rmonI", rmonI, rmonIM⟩
def rmonthC : Con := { f := 57, ins := [i64S, i64S], out := i64S, id := "rmonthR", pre := rmonthRPre, asks := true, rel := rmonthR }
def raheadC : Con := { f := 58, ins := [i64S], out := i64S, id := "raheadR", pre := raheadRPre, asks := true, rel := raheadR }
def rDayC : Con := { f := 38, ins := [i64S, i64S, i64S], out := .tup [i64S, .sc .bool], id := "rDayR", rel := rDayR }
def rFromC : Con := { f := 11, ins := [i64S, i64S, i64S], out := .tup [f64S, i64S], id := "fromR", rel := fromR }
def rdateC : Con := { f := 42, ins := [i64S], out := .tup [i64S, i64S, i64S], id := "rdateR", pre := rdateRPre, asks := true, rel := rdateR }

def rmonth_L0 : Prop := ∀ σ : Nat → Value,
    (σ 0 = .int .i64 (iv (σ 0))) →
    (σ 1 = .int .i64 (iv (σ 1))) →
    (σ 3 = .int .i64 (iv (σ 3))) →
    (σ 5 = .int .i64 (iv (σ 5))) →
    (rmonthRPre [σ 0, σ 1]) →
    (iv (σ 3) = (iv (σ 0) : Int).tmod (4)) →
    (iv (σ 5) = (iv (σ 0) : Int).tmod (100)) →
    (iv (σ 5) ≠ 0) →
    (iv (σ 3) = 0) →
    (iv (σ 1) = 2) →
    rmonthR [σ 0, σ 1, (Value.int .i64 29)]

def rmonth_L1 : Prop := ∀ σ : Nat → Value,
    (σ 0 = .int .i64 (iv (σ 0))) →
    (σ 1 = .int .i64 (iv (σ 1))) →
    (σ 3 = .int .i64 (iv (σ 3))) →
    (σ 5 = .int .i64 (iv (σ 5))) →
    (σ 7 = .int .i64 (iv (σ 7))) →
    (rmonthRPre [σ 0, σ 1]) →
    (iv (σ 3) = (iv (σ 0) : Int).tmod (4)) →
    (iv (σ 5) = (iv (σ 0) : Int).tmod (100)) →
    (iv (σ 7) = (iv (σ 0) : Int).tmod (400)) →
    (iv (σ 7) = 0) →
    (iv (σ 5) = 0) →
    (iv (σ 3) = 0) →
    (iv (σ 1) = 2) →
    rmonthR [σ 0, σ 1, (Value.int .i64 29)]

def rmonth_L2 : Prop := ∀ σ : Nat → Value,
    (σ 0 = .int .i64 (iv (σ 0))) →
    (σ 1 = .int .i64 (iv (σ 1))) →
    (σ 3 = .int .i64 (iv (σ 3))) →
    (σ 5 = .int .i64 (iv (σ 5))) →
    (σ 7 = .int .i64 (iv (σ 7))) →
    (rmonthRPre [σ 0, σ 1]) →
    (iv (σ 3) = (iv (σ 0) : Int).tmod (4)) →
    (iv (σ 5) = (iv (σ 0) : Int).tmod (100)) →
    (iv (σ 7) = (iv (σ 0) : Int).tmod (400)) →
    (iv (σ 1) = 0) →
    (iv (σ 7) ≠ 0) →
    (iv (σ 5) = 0) →
    (iv (σ 3) = 0) →
    (iv (σ 1) = 2) →
    rmonthR [σ 0, σ 1, (Value.int .i64 0)]

def rmonth_L3 : Prop := ∀ σ : Nat → Value,
    (σ 0 = .int .i64 (iv (σ 0))) →
    (σ 1 = .int .i64 (iv (σ 1))) →
    (σ 3 = .int .i64 (iv (σ 3))) →
    (σ 5 = .int .i64 (iv (σ 5))) →
    (σ 7 = .int .i64 (iv (σ 7))) →
    (rmonthRPre [σ 0, σ 1]) →
    (iv (σ 3) = (iv (σ 0) : Int).tmod (4)) →
    (iv (σ 5) = (iv (σ 0) : Int).tmod (100)) →
    (iv (σ 7) = (iv (σ 0) : Int).tmod (400)) →
    (iv (σ 1) = 1) →
    (iv (σ 1) ≠ 0) →
    (iv (σ 7) ≠ 0) →
    (iv (σ 5) = 0) →
    (iv (σ 3) = 0) →
    (iv (σ 1) = 2) →
    rmonthR [σ 0, σ 1, (Value.int .i64 31)]

def rmonth_L4 : Prop := ∀ σ : Nat → Value,
    (σ 0 = .int .i64 (iv (σ 0))) →
    (σ 1 = .int .i64 (iv (σ 1))) →
    (σ 3 = .int .i64 (iv (σ 3))) →
    (σ 5 = .int .i64 (iv (σ 5))) →
    (σ 7 = .int .i64 (iv (σ 7))) →
    (rmonthRPre [σ 0, σ 1]) →
    (iv (σ 3) = (iv (σ 0) : Int).tmod (4)) →
    (iv (σ 5) = (iv (σ 0) : Int).tmod (100)) →
    (iv (σ 7) = (iv (σ 0) : Int).tmod (400)) →
    (iv (σ 1) ≠ 1) →
    (iv (σ 1) ≠ 0) →
    (iv (σ 7) ≠ 0) →
    (iv (σ 5) = 0) →
    (iv (σ 3) = 0) →
    (iv (σ 1) = 2) →
    rmonthR [σ 0, σ 1, (Value.int .i64 28)]

def rmonth_L5 : Prop := ∀ σ : Nat → Value,
    (σ 0 = .int .i64 (iv (σ 0))) →
    (σ 1 = .int .i64 (iv (σ 1))) →
    (σ 3 = .int .i64 (iv (σ 3))) →
    (rmonthRPre [σ 0, σ 1]) →
    (iv (σ 3) = (iv (σ 0) : Int).tmod (4)) →
    (iv (σ 1) = 0) →
    (iv (σ 3) ≠ 0) →
    (iv (σ 1) = 2) →
    rmonthR [σ 0, σ 1, (Value.int .i64 0)]

def rmonth_L6 : Prop := ∀ σ : Nat → Value,
    (σ 0 = .int .i64 (iv (σ 0))) →
    (σ 1 = .int .i64 (iv (σ 1))) →
    (σ 3 = .int .i64 (iv (σ 3))) →
    (rmonthRPre [σ 0, σ 1]) →
    (iv (σ 3) = (iv (σ 0) : Int).tmod (4)) →
    (iv (σ 1) = 1) →
    (iv (σ 1) ≠ 0) →
    (iv (σ 3) ≠ 0) →
    (iv (σ 1) = 2) →
    rmonthR [σ 0, σ 1, (Value.int .i64 31)]

def rmonth_L7 : Prop := ∀ σ : Nat → Value,
    (σ 0 = .int .i64 (iv (σ 0))) →
    (σ 1 = .int .i64 (iv (σ 1))) →
    (σ 3 = .int .i64 (iv (σ 3))) →
    (rmonthRPre [σ 0, σ 1]) →
    (iv (σ 3) = (iv (σ 0) : Int).tmod (4)) →
    (iv (σ 1) ≠ 1) →
    (iv (σ 1) ≠ 0) →
    (iv (σ 3) ≠ 0) →
    (iv (σ 1) = 2) →
    rmonthR [σ 0, σ 1, (Value.int .i64 28)]

def rmonth_L8 : Prop := ∀ σ : Nat → Value,
    (σ 0 = .int .i64 (iv (σ 0))) →
    (σ 1 = .int .i64 (iv (σ 1))) →
    (rmonthRPre [σ 0, σ 1]) →
    (iv (σ 1) = 0) →
    (iv (σ 1) ≠ 2) →
    rmonthR [σ 0, σ 1, (Value.int .i64 0)]

def rmonth_L9 : Prop := ∀ σ : Nat → Value,
    (σ 0 = .int .i64 (iv (σ 0))) →
    (σ 1 = .int .i64 (iv (σ 1))) →
    (rmonthRPre [σ 0, σ 1]) →
    (iv (σ 1) = 1) →
    (iv (σ 1) ≠ 0) →
    (iv (σ 1) ≠ 2) →
    rmonthR [σ 0, σ 1, (Value.int .i64 31)]

def rmonth_L10 : Prop := ∀ σ : Nat → Value,
    (σ 0 = .int .i64 (iv (σ 0))) →
    (σ 1 = .int .i64 (iv (σ 1))) →
    (rmonthRPre [σ 0, σ 1]) →
    (iv (σ 1) = 3) →
    (iv (σ 1) ≠ 1) →
    (iv (σ 1) ≠ 0) →
    (iv (σ 1) ≠ 2) →
    rmonthR [σ 0, σ 1, (Value.int .i64 31)]

def rmonth_L11 : Prop := ∀ σ : Nat → Value,
    (σ 0 = .int .i64 (iv (σ 0))) →
    (σ 1 = .int .i64 (iv (σ 1))) →
    (rmonthRPre [σ 0, σ 1]) →
    (iv (σ 1) = 4) →
    (iv (σ 1) ≠ 3) →
    (iv (σ 1) ≠ 1) →
    (iv (σ 1) ≠ 0) →
    (iv (σ 1) ≠ 2) →
    rmonthR [σ 0, σ 1, (Value.int .i64 30)]

def rmonth_L12 : Prop := ∀ σ : Nat → Value,
    (σ 0 = .int .i64 (iv (σ 0))) →
    (σ 1 = .int .i64 (iv (σ 1))) →
    (rmonthRPre [σ 0, σ 1]) →
    (iv (σ 1) = 5) →
    (iv (σ 1) ≠ 4) →
    (iv (σ 1) ≠ 3) →
    (iv (σ 1) ≠ 1) →
    (iv (σ 1) ≠ 0) →
    (iv (σ 1) ≠ 2) →
    rmonthR [σ 0, σ 1, (Value.int .i64 31)]

def rmonth_L13 : Prop := ∀ σ : Nat → Value,
    (σ 0 = .int .i64 (iv (σ 0))) →
    (σ 1 = .int .i64 (iv (σ 1))) →
    (rmonthRPre [σ 0, σ 1]) →
    (iv (σ 1) = 6) →
    (iv (σ 1) ≠ 5) →
    (iv (σ 1) ≠ 4) →
    (iv (σ 1) ≠ 3) →
    (iv (σ 1) ≠ 1) →
    (iv (σ 1) ≠ 0) →
    (iv (σ 1) ≠ 2) →
    rmonthR [σ 0, σ 1, (Value.int .i64 30)]

def rmonth_L14 : Prop := ∀ σ : Nat → Value,
    (σ 0 = .int .i64 (iv (σ 0))) →
    (σ 1 = .int .i64 (iv (σ 1))) →
    (rmonthRPre [σ 0, σ 1]) →
    (iv (σ 1) = 7) →
    (iv (σ 1) ≠ 6) →
    (iv (σ 1) ≠ 5) →
    (iv (σ 1) ≠ 4) →
    (iv (σ 1) ≠ 3) →
    (iv (σ 1) ≠ 1) →
    (iv (σ 1) ≠ 0) →
    (iv (σ 1) ≠ 2) →
    rmonthR [σ 0, σ 1, (Value.int .i64 31)]

def rmonth_L15 : Prop := ∀ σ : Nat → Value,
    (σ 0 = .int .i64 (iv (σ 0))) →
    (σ 1 = .int .i64 (iv (σ 1))) →
    (rmonthRPre [σ 0, σ 1]) →
    (iv (σ 1) = 8) →
    (iv (σ 1) ≠ 7) →
    (iv (σ 1) ≠ 6) →
    (iv (σ 1) ≠ 5) →
    (iv (σ 1) ≠ 4) →
    (iv (σ 1) ≠ 3) →
    (iv (σ 1) ≠ 1) →
    (iv (σ 1) ≠ 0) →
    (iv (σ 1) ≠ 2) →
    rmonthR [σ 0, σ 1, (Value.int .i64 31)]

def rmonth_L16 : Prop := ∀ σ : Nat → Value,
    (σ 0 = .int .i64 (iv (σ 0))) →
    (σ 1 = .int .i64 (iv (σ 1))) →
    (rmonthRPre [σ 0, σ 1]) →
    (iv (σ 1) = 9) →
    (iv (σ 1) ≠ 8) →
    (iv (σ 1) ≠ 7) →
    (iv (σ 1) ≠ 6) →
    (iv (σ 1) ≠ 5) →
    (iv (σ 1) ≠ 4) →
    (iv (σ 1) ≠ 3) →
    (iv (σ 1) ≠ 1) →
    (iv (σ 1) ≠ 0) →
    (iv (σ 1) ≠ 2) →
    rmonthR [σ 0, σ 1, (Value.int .i64 30)]

def rmonth_L17 : Prop := ∀ σ : Nat → Value,
    (σ 0 = .int .i64 (iv (σ 0))) →
    (σ 1 = .int .i64 (iv (σ 1))) →
    (rmonthRPre [σ 0, σ 1]) →
    (iv (σ 1) = 10) →
    (iv (σ 1) ≠ 9) →
    (iv (σ 1) ≠ 8) →
    (iv (σ 1) ≠ 7) →
    (iv (σ 1) ≠ 6) →
    (iv (σ 1) ≠ 5) →
    (iv (σ 1) ≠ 4) →
    (iv (σ 1) ≠ 3) →
    (iv (σ 1) ≠ 1) →
    (iv (σ 1) ≠ 0) →
    (iv (σ 1) ≠ 2) →
    rmonthR [σ 0, σ 1, (Value.int .i64 31)]

def rmonth_L18 : Prop := ∀ σ : Nat → Value,
    (σ 0 = .int .i64 (iv (σ 0))) →
    (σ 1 = .int .i64 (iv (σ 1))) →
    (rmonthRPre [σ 0, σ 1]) →
    (iv (σ 1) = 11) →
    (iv (σ 1) ≠ 10) →
    (iv (σ 1) ≠ 9) →
    (iv (σ 1) ≠ 8) →
    (iv (σ 1) ≠ 7) →
    (iv (σ 1) ≠ 6) →
    (iv (σ 1) ≠ 5) →
    (iv (σ 1) ≠ 4) →
    (iv (σ 1) ≠ 3) →
    (iv (σ 1) ≠ 1) →
    (iv (σ 1) ≠ 0) →
    (iv (σ 1) ≠ 2) →
    rmonthR [σ 0, σ 1, (Value.int .i64 30)]

def rmonth_L19 : Prop := ∀ σ : Nat → Value,
    (σ 0 = .int .i64 (iv (σ 0))) →
    (σ 1 = .int .i64 (iv (σ 1))) →
    (rmonthRPre [σ 0, σ 1]) →
    (iv (σ 1) = 12) →
    (iv (σ 1) ≠ 11) →
    (iv (σ 1) ≠ 10) →
    (iv (σ 1) ≠ 9) →
    (iv (σ 1) ≠ 8) →
    (iv (σ 1) ≠ 7) →
    (iv (σ 1) ≠ 6) →
    (iv (σ 1) ≠ 5) →
    (iv (σ 1) ≠ 4) →
    (iv (σ 1) ≠ 3) →
    (iv (σ 1) ≠ 1) →
    (iv (σ 1) ≠ 0) →
    (iv (σ 1) ≠ 2) →
    rmonthR [σ 0, σ 1, (Value.int .i64 31)]

def rmonth_L20 : Prop := ∀ σ : Nat → Value,
    (σ 0 = .int .i64 (iv (σ 0))) →
    (σ 1 = .int .i64 (iv (σ 1))) →
    (rmonthRPre [σ 0, σ 1]) →
    (iv (σ 1) ≠ 12) →
    (iv (σ 1) ≠ 11) →
    (iv (σ 1) ≠ 10) →
    (iv (σ 1) ≠ 9) →
    (iv (σ 1) ≠ 8) →
    (iv (σ 1) ≠ 7) →
    (iv (σ 1) ≠ 6) →
    (iv (σ 1) ≠ 5) →
    (iv (σ 1) ≠ 4) →
    (iv (σ 1) ≠ 3) →
    (iv (σ 1) ≠ 1) →
    (iv (σ 1) ≠ 0) →
    (iv (σ 1) ≠ 2) →
    False

theorem rmonth_tie : rmonthC.goals (cfgC Tryz.prog (entersOf Tryz.prog) X []) [] 2000 = (rmonth_L0 ∧ rmonth_L1 ∧ rmonth_L2 ∧ rmonth_L3 ∧ rmonth_L4 ∧ rmonth_L5 ∧ rmonth_L6 ∧ rmonth_L7 ∧ rmonth_L8 ∧ rmonth_L9 ∧ rmonth_L10 ∧ rmonth_L11 ∧ rmonth_L12 ∧ rmonth_L13 ∧ rmonth_L14 ∧ rmonth_L15 ∧ rmonth_L16 ∧ rmonth_L17 ∧ rmonth_L18 ∧ rmonth_L19 ∧ rmonth_L20 ∧ True) := by kernel_rfl
theorem rmonth_ok {cond : World → Prop} (hs : Keeps cond) : rmonthC.ok Tryz.prog cond := by
  refine by_tie rmonth_tie (by kernel_rfl) hs all_nil ⟨?_, ?_, ?_, ?_, ?_, ?_, ?_, ?_, ?_, ?_, ?_, ?_, ?_, ?_, ?_, ?_, ?_, ?_, ?_, ?_, ?_, trivial⟩ <;>
  · intro σ; intros; (simp only [rmonthRPre, rmonthR, iv_int] at *)
    (repeat (simp (disch := omega) only [tmod_nn] at *))
    try simp only [monI, lp, leapI]
    first | omega | (split <;> omega) | (split <;> split <;> omega) | (split <;> split <;> split <;> omega)


def rahead_L0 : Prop := ∀ σ : Nat → Value,
    (σ 0 = .int .i64 (iv (σ 0))) →
    (σ 1 = .int .i64 (iv (σ 1))) →
    (σ 2 = .int .i64 (iv (σ 2))) →
    (σ 3 = .int .i64 (iv (σ 3))) →
    (σ 4 = .int .i64 (iv (σ 4))) →
    (σ 5 = .int .i64 (iv (σ 5))) →
    (σ 6 = .int .i64 (iv (σ 6))) →
    (σ 7 = .int .i64 (iv (σ 7))) →
    (σ 8 = .int .i64 (iv (σ 8))) →
    (σ 9 = .int .i64 (iv (σ 9))) →
    (raheadRPre [σ 0]) →
    (iv (σ 1) = IntKind.i64.wrap (iv (σ 0) - 1)) →
    (iv (σ 2) = IntKind.i64.wrap (365 * iv (σ 1))) →
    (iv (σ 3) = IntKind.i64.wrap ((iv (σ 1)).tdiv (4))) →
    (iv (σ 4) = IntKind.i64.wrap (iv (σ 2) + iv (σ 3))) →
    (iv (σ 5) = IntKind.i64.wrap ((iv (σ 1)).tdiv (100))) →
    (iv (σ 6) = IntKind.i64.wrap (iv (σ 4) - iv (σ 5))) →
    (iv (σ 7) = IntKind.i64.wrap ((iv (σ 1)).tdiv (400))) →
    (iv (σ 8) = IntKind.i64.wrap (iv (σ 6) + iv (σ 7))) →
    (iv (σ 9) = IntKind.i64.wrap (iv (σ 8) - 693593)) →
    raheadR [σ 0, σ 9]

theorem rahead_tie : raheadC.goals (cfgC Tryz.prog (entersOf Tryz.prog) X []) [] 2000 = (rahead_L0 ∧ True) := by kernel_rfl
theorem rahead_ok {cond : World → Prop} (hs : Keeps cond) : raheadC.ok Tryz.prog cond := by
  refine by_tie rahead_tie (by kernel_rfl) hs all_nil ⟨?_, trivial⟩
  intro σ; intros; (simp only [raheadRPre, raheadR] at *)
  (repeat (simp (disch := omega) only [IntWalk.i64_in, tdiv_nn] at *))
  have e : iv (σ 1) = iv (σ 0) - 1 := by omega
  simp only [e] at *
  unfold yr
  omega


def rDay_L0 : Prop := ∀ σ : Nat → Value,
    (σ 0 = .int .i64 (iv (σ 0))) →
    (σ 1 = .int .i64 (iv (σ 1))) →
    (σ 2 = .int .i64 (iv (σ 2))) →
    (iv (σ 0) < 1) →
    rDayR [σ 0, σ 1, σ 2, (Value.int .i64 0), (Value.bool false)]

def rDay_L1 : Prop := ∀ σ : Nat → Value,
    (σ 0 = .int .i64 (iv (σ 0))) →
    (σ 1 = .int .i64 (iv (σ 1))) →
    (σ 2 = .int .i64 (iv (σ 2))) →
    (9999 < iv (σ 0)) →
    (1 ≤ iv (σ 0)) →
    rDayR [σ 0, σ 1, σ 2, (Value.int .i64 0), (Value.bool false)]

def rDay_L2 : Prop := ∀ σ : Nat → Value,
    (σ 0 = .int .i64 (iv (σ 0))) →
    (σ 1 = .int .i64 (iv (σ 1))) →
    (σ 2 = .int .i64 (iv (σ 2))) →
    (iv (σ 1) < 1) →
    (iv (σ 0) ≤ 9999) →
    (1 ≤ iv (σ 0)) →
    rDayR [σ 0, σ 1, σ 2, (Value.int .i64 0), (Value.bool false)]

def rDay_L3 : Prop := ∀ σ : Nat → Value,
    (σ 0 = .int .i64 (iv (σ 0))) →
    (σ 1 = .int .i64 (iv (σ 1))) →
    (σ 2 = .int .i64 (iv (σ 2))) →
    (12 < iv (σ 1)) →
    (1 ≤ iv (σ 1)) →
    (iv (σ 0) ≤ 9999) →
    (1 ≤ iv (σ 0)) →
    rDayR [σ 0, σ 1, σ 2, (Value.int .i64 0), (Value.bool false)]

def rDay_L4 : Prop := ∀ σ : Nat → Value,
    (σ 0 = .int .i64 (iv (σ 0))) →
    (σ 1 = .int .i64 (iv (σ 1))) →
    (σ 2 = .int .i64 (iv (σ 2))) →
    (iv (σ 2) < 1) →
    (iv (σ 1) ≤ 12) →
    (1 ≤ iv (σ 1)) →
    (iv (σ 0) ≤ 9999) →
    (1 ≤ iv (σ 0)) →
    rDayR [σ 0, σ 1, σ 2, (Value.int .i64 0), (Value.bool false)]

def rDay_L5 : Prop := ∀ σ : Nat → Value,
    (σ 0 = .int .i64 (iv (σ 0))) →
    (σ 1 = .int .i64 (iv (σ 1))) →
    (σ 2 = .int .i64 (iv (σ 2))) →
    (σ 8 = .int .i64 (iv (σ 8))) →
    (rmonthR [σ 0, σ 1, σ 8]) →
    (iv (σ 8) < iv (σ 2)) →
    (1 ≤ iv (σ 2)) →
    (iv (σ 1) ≤ 12) →
    (1 ≤ iv (σ 1)) →
    (iv (σ 0) ≤ 9999) →
    (1 ≤ iv (σ 0)) →
    rDayR [σ 0, σ 1, σ 2, (Value.int .i64 0), (Value.bool false)]

def rDay_L6 : Prop := ∀ σ : Nat → Value,
    (σ 0 = .int .i64 (iv (σ 0))) →
    (σ 1 = .int .i64 (iv (σ 1))) →
    (σ 2 = .int .i64 (iv (σ 2))) →
    (σ 8 = .int .i64 (iv (σ 8))) →
    (σ 10 = .int .i64 (iv (σ 10))) →
    (rmonthR [σ 0, σ 1, σ 8]) →
    (raheadR [σ 0, σ 10]) →
    ((fitsL [.any, .any, .any, .any, .any, .any, .any, .any, .any, .any, .any, .int .i64, .int .i64, .any, .any, .any, .any, .any, .any, .any, .any, .any, .any] [σ 0, σ 1, σ 2, σ 3, σ 4, σ 5, σ 6, σ 7, σ 8, σ 9, σ 10, σ 10, (Value.int .i64 1), (Value.tuple #[]), (Value.tuple #[]), (Value.tuple #[]), (Value.tuple #[]), (Value.tuple #[]), (Value.tuple #[]), (Value.tuple #[]), (Value.tuple #[]), (Value.tuple #[]), (Value.tuple #[])] → ¬ rDayI [σ 0, σ 1, σ 2, σ 3, σ 4, σ 5, σ 6, σ 7, σ 8, σ 9, σ 10, σ 10, (Value.int .i64 1), (Value.tuple #[]), (Value.tuple #[]), (Value.tuple #[]), (Value.tuple #[]), (Value.tuple #[]), (Value.tuple #[]), (Value.tuple #[]), (Value.tuple #[]), (Value.tuple #[]), (Value.tuple #[])])) →
    (iv (σ 2) ≤ iv (σ 8)) →
    (1 ≤ iv (σ 2)) →
    (iv (σ 1) ≤ 12) →
    (1 ≤ iv (σ 1)) →
    (iv (σ 0) ≤ 9999) →
    (1 ≤ iv (σ 0)) →
    False

def rDay_L7 : Prop := ∀ σ : Nat → Value,
    (σ 0 = .int .i64 (iv (σ 0))) →
    (σ 1 = .int .i64 (iv (σ 1))) →
    (σ 2 = .int .i64 (iv (σ 2))) →
    (σ 8 = .int .i64 (iv (σ 8))) →
    (σ 10 = .int .i64 (iv (σ 10))) →
    (σ 11 = .int .i64 (iv (σ 11))) →
    (σ 12 = .int .i64 (iv (σ 12))) →
    (σ 24 = .int .i64 (iv (σ 24))) →
    (σ 25 = .int .i64 (iv (σ 25))) →
    (σ 26 = .int .i64 (iv (σ 26))) →
    (rmonthR [σ 0, σ 1, σ 8]) →
    (raheadR [σ 0, σ 10]) →
    (rDayI [σ 0, σ 1, σ 2, σ 3, σ 4, σ 5, σ 6, σ 7, σ 8, σ 9, σ 10, σ 11, σ 12, σ 13, σ 14, σ 15, σ 16, σ 17, σ 18, σ 19, σ 20, σ 21, σ 22]) →
    (rmonthR [σ 0, σ 12, σ 24]) →
    (iv (σ 25) = IntKind.i64.wrap (iv (σ 11) + iv (σ 24))) →
    (iv (σ 26) = IntKind.i64.wrap (iv (σ 12) + 1)) →
    ((fitsL [.any, .any, .any, .any, .any, .any, .any, .any, .any, .any, .any, .int .i64, .int .i64, .any, .any, .any, .any, .any, .any, .any, .any, .any, .any] [σ 0, σ 1, σ 2, σ 3, σ 4, σ 5, σ 6, σ 7, σ 8, σ 9, σ 10, σ 25, σ 26, σ 12, σ 1, σ 23, σ 12, σ 26, σ 11, σ 0, σ 12, σ 24, σ 25] → rDayI [σ 0, σ 1, σ 2, σ 3, σ 4, σ 5, σ 6, σ 7, σ 8, σ 9, σ 10, σ 25, σ 26, σ 12, σ 1, σ 23, σ 12, σ 26, σ 11, σ 0, σ 12, σ 24, σ 25] → ¬ rDayIM [σ 0, σ 1, σ 2, σ 3, σ 4, σ 5, σ 6, σ 7, σ 8, σ 9, σ 10, σ 25, σ 26, σ 12, σ 1, σ 23, σ 12, σ 26, σ 11, σ 0, σ 12, σ 24, σ 25] < rDayIM [σ 0, σ 1, σ 2, σ 3, σ 4, σ 5, σ 6, σ 7, σ 8, σ 9, σ 10, σ 11, σ 12, σ 13, σ 14, σ 15, σ 16, σ 17, σ 18, σ 19, σ 20, σ 21, σ 22])) →
    (iv (σ 12) < iv (σ 1)) →
    (iv (σ 2) ≤ iv (σ 8)) →
    (1 ≤ iv (σ 2)) →
    (iv (σ 1) ≤ 12) →
    (1 ≤ iv (σ 1)) →
    (iv (σ 0) ≤ 9999) →
    (1 ≤ iv (σ 0)) →
    False

def rDay_L8 : Prop := ∀ σ : Nat → Value,
    (σ 0 = .int .i64 (iv (σ 0))) →
    (σ 1 = .int .i64 (iv (σ 1))) →
    (σ 2 = .int .i64 (iv (σ 2))) →
    (σ 8 = .int .i64 (iv (σ 8))) →
    (σ 10 = .int .i64 (iv (σ 10))) →
    (σ 11 = .int .i64 (iv (σ 11))) →
    (σ 12 = .int .i64 (iv (σ 12))) →
    (rmonthR [σ 0, σ 1, σ 8]) →
    (raheadR [σ 0, σ 10]) →
    (rDayI [σ 0, σ 1, σ 2, σ 3, σ 4, σ 5, σ 6, σ 7, σ 8, σ 9, σ 10, σ 11, σ 12, σ 13, σ 14, σ 15, σ 16, σ 17, σ 18, σ 19, σ 20, σ 21, σ 22]) →
    (¬ rmonthRPre [σ 0, σ 12]) →
    (iv (σ 12) < iv (σ 1)) →
    (iv (σ 2) ≤ iv (σ 8)) →
    (1 ≤ iv (σ 2)) →
    (iv (σ 1) ≤ 12) →
    (1 ≤ iv (σ 1)) →
    (iv (σ 0) ≤ 9999) →
    (1 ≤ iv (σ 0)) →
    False

def rDay_L9 : Prop := ∀ σ : Nat → Value,
    (σ 0 = .int .i64 (iv (σ 0))) →
    (σ 1 = .int .i64 (iv (σ 1))) →
    (σ 2 = .int .i64 (iv (σ 2))) →
    (σ 8 = .int .i64 (iv (σ 8))) →
    (σ 10 = .int .i64 (iv (σ 10))) →
    (σ 11 = .int .i64 (iv (σ 11))) →
    (σ 12 = .int .i64 (iv (σ 12))) →
    (σ 24 = .int .i64 (iv (σ 24))) →
    (σ 25 = .int .i64 (iv (σ 25))) →
    (rmonthR [σ 0, σ 1, σ 8]) →
    (raheadR [σ 0, σ 10]) →
    (rDayI [σ 0, σ 1, σ 2, σ 3, σ 4, σ 5, σ 6, σ 7, σ 8, σ 9, σ 10, σ 11, σ 12, σ 13, σ 14, σ 15, σ 16, σ 17, σ 18, σ 19, σ 20, σ 21, σ 22]) →
    (iv (σ 24) = IntKind.i64.wrap (iv (σ 11) + iv (σ 2))) →
    (iv (σ 25) = IntKind.i64.wrap (iv (σ 24) - 1)) →
    (iv (σ 1) ≤ iv (σ 12)) →
    (iv (σ 2) ≤ iv (σ 8)) →
    (1 ≤ iv (σ 2)) →
    (iv (σ 1) ≤ 12) →
    (1 ≤ iv (σ 1)) →
    (iv (σ 0) ≤ 9999) →
    (1 ≤ iv (σ 0)) →
    rDayR [σ 0, σ 1, σ 2, σ 25, (Value.bool true)]

def rDay_L10 : Prop := ∀ σ : Nat → Value,
    (σ 0 = .int .i64 (iv (σ 0))) →
    (σ 1 = .int .i64 (iv (σ 1))) →
    (σ 2 = .int .i64 (iv (σ 2))) →
    (σ 8 = .int .i64 (iv (σ 8))) →
    (rmonthR [σ 0, σ 1, σ 8]) →
    (¬ raheadRPre [σ 0]) →
    (iv (σ 2) ≤ iv (σ 8)) →
    (1 ≤ iv (σ 2)) →
    (iv (σ 1) ≤ 12) →
    (1 ≤ iv (σ 1)) →
    (iv (σ 0) ≤ 9999) →
    (1 ≤ iv (σ 0)) →
    False

def rDay_L11 : Prop := ∀ σ : Nat → Value,
    (σ 0 = .int .i64 (iv (σ 0))) →
    (σ 1 = .int .i64 (iv (σ 1))) →
    (σ 2 = .int .i64 (iv (σ 2))) →
    (¬ rmonthRPre [σ 0, σ 1]) →
    (1 ≤ iv (σ 2)) →
    (iv (σ 1) ≤ 12) →
    (1 ≤ iv (σ 1)) →
    (iv (σ 0) ≤ 9999) →
    (1 ≤ iv (σ 0)) →
    False

theorem rDay_tie : rDayC.goals (cfgC Tryz.prog (entersOf Tryz.prog) X [rmonthC, raheadC]) [(38, 5, rDayI_)] 2000 = (rDay_L0 ∧ rDay_L1 ∧ rDay_L2 ∧ rDay_L3 ∧ rDay_L4 ∧ rDay_L5 ∧ rDay_L6 ∧ rDay_L7 ∧ rDay_L8 ∧ rDay_L9 ∧ rDay_L10 ∧ rDay_L11 ∧ True) := by kernel_rfl
theorem rDay_L6_ok : rDay_L6 := by
  intro σ; intros
  have H := ‹fitsL _ _ → ¬ rDayI _› (by (simp only [fitsL, Sort_.fits]; repeat' (first | exact True.intro | (with_reducible refine And.intro ?_ ?_) | exact ⟨_, ‹_›⟩ | exact ⟨_, rfl⟩)))
  refine H ?_
  (simp only [rmonthR, raheadR, rDayI, g0, gs, iv_int] at *)
  have c := cum_one (iv (σ 0))
  omega
theorem rDay_L7_ok : rDay_L7 := by
  intro σ; intros
  have H := ‹fitsL _ _ → rDayI _ → ¬ (_ : Nat) < _› (by (simp only [fitsL, Sort_.fits]; repeat' (first | exact True.intro | (with_reducible refine And.intro ?_ ?_) | exact ⟨_, ‹_›⟩ | exact ⟨_, rfl⟩)))
  have y0 : 1 ≤ iv (σ 0) ∧ iv (σ 0) ≤ 9999 := by omega
  have I := ‹rDayI _›
  simp only [rDayI, g0, gs] at I
  have c := cum_succ (iv (σ 0)) (iv (σ 12)) (by omega) (by omega)
  have c1 := monI_pos (iv (σ 0)) (iv (σ 12))
  have c2 := cum_bd (iv (σ 0)) (iv (σ 12))
  have c3 := yr_bd (y := iv (σ 0)) (by omega) (by omega)
  refine H ?_ ?_
  · simp only [rDayI, g0, gs]
    clear H
    (simp only [rmonthR, raheadR, rDayI, rDayIM, g0, gs] at *)
    (repeat (simp (disch := omega) only [IntWalk.i64_in] at *))
    have e : iv (σ 26) = iv (σ 12) + 1 := by omega
    simp only [e] at *
    omega
  · simp only [rDayIM, g0, gs]
    clear H
    (simp only [rmonthR, raheadR, rDayI, rDayIM, g0, gs] at *)
    (repeat (simp (disch := omega) only [IntWalk.i64_in] at *))
    omega
theorem rDay_L9_ok : rDay_L9 := by
  intro σ; intros
  have y0 : 1 ≤ iv (σ 0) ∧ iv (σ 0) ≤ 9999 := by omega
  (simp only [rmonthR, raheadR, rDayR, rDayI, okD, g0, gs, bv_bool] at *)
  have c2 := cum_bd (iv (σ 0)) (iv (σ 12))
  have c3 := yr_bd (y := iv (σ 0)) (by omega) (by omega)
  have c1 := monI_pos (iv (σ 0)) (iv (σ 1))
  have e : iv (σ 12) = iv (σ 1) := by omega
  simp only [e] at *
  (repeat (simp (disch := omega) only [IntWalk.i64_in] at *))
  left
  refine ⟨by omega, trivial, ?_⟩
  unfold dayI
  omega
theorem rDay_ok {cond : World → Prop} (hs : Keeps cond) : rDayC.ok Tryz.prog cond := by
  refine by_tie rDay_tie (by kernel_rfl) hs (all_cons (rmonth_ok hs) (all_cons (rahead_ok hs) all_nil)) ⟨?_, ?_, ?_, ?_, ?_, ?_, rDay_L6_ok, rDay_L7_ok, ?_, rDay_L9_ok, ?_, ?_, trivial⟩ <;>
  · intro σ; intros; (simp only [rmonthRPre, rmonthR, raheadRPre, raheadR, rDayR, rDayI, okD, g0, gs, iv_int, bv_bool] at *)
    first | omega | (right; exact ⟨by omega, trivial, trivial⟩)


def rFrom_L0 : Prop := ∀ σ : Nat → Value,
    (σ 0 = .int .i64 (iv (σ 0))) →
    (σ 1 = .int .i64 (iv (σ 1))) →
    (σ 2 = .int .i64 (iv (σ 2))) →
    (σ 3 = .int .i64 (iv (σ 3))) →
    (σ 4 = .bool (bv (σ 4))) →
    (rDayR [σ 0, σ 1, σ 2, σ 3, σ 4]) →
    (bv (σ 4) = !true) →
    fromR [σ 0, σ 1, σ 2, (Value.float .f64 0), (Value.int .i64 81)]

def rFrom_L1 : Prop := ∀ σ : Nat → Value,
    (σ 0 = .int .i64 (iv (σ 0))) →
    (σ 1 = .int .i64 (iv (σ 1))) →
    (σ 2 = .int .i64 (iv (σ 2))) →
    (σ 3 = .int .i64 (iv (σ 3))) →
    (σ 4 = .bool (bv (σ 4))) →
    (σ 6 = .float .f64 (fv (σ 6))) →
    (rDayR [σ 0, σ 1, σ 2, σ 3, σ 4]) →
    (fv (σ 6) = FloatKind.f64.nearest (iv (σ 3))) →
    (bv (σ 4) = !false) →
    fromR [σ 0, σ 1, σ 2, σ 6, (Value.int .i64 0)]

theorem rFrom_tie : rFromC.goals (cfgC Tryz.prog (entersOf Tryz.prog) X [rDayC]) [] 2000 = (rFrom_L0 ∧ rFrom_L1 ∧ True) := by kernel_rfl
theorem rFrom_ok {cond : World → Prop} (hs : Keeps cond) : rFromC.ok Tryz.prog cond := by
  refine by_tie rFrom_tie (by kernel_rfl) hs (all_cons (rDay_ok hs) all_nil) ⟨?_, ?_, trivial⟩
  · intro σ; intros
    have d := ‹rDayR _›
    simp only [rDayR, ‹bv (σ 4) = !true›] at d
    rcases d with ⟨_, h, _⟩ | ⟨h, _, _⟩
    · cases h
    · exact .inr ⟨h, rfl, rfl⟩
  · intro σ; intros
    have d := ‹rDayR _›
    simp only [rDayR, ‹bv (σ 4) = !false›] at d
    rcases d with ⟨h, _, e⟩ | ⟨_, h, _⟩
    · refine .inl ⟨h, rfl, ?_⟩
      rw [← e]; exact ‹fv (σ 6) = _›
    · cases h


def rdate_L0 : Prop := ∀ σ : Nat → Value,
    (σ 0 = .int .i64 (iv (σ 0))) →
    (rdateRPre [σ 0]) →
    ((fitsL [.any, .int .i64, .int .i64, .any, .any, .any, .any, .any, .any, .any, .any, .any, .any, .any, .any, .any, .any, .any, .any, .any, .any, .any] [σ 0, (Value.int .i64 1), (Value.int .i64 8192), (Value.tuple #[]), (Value.tuple #[]), (Value.tuple #[]), (Value.tuple #[]), (Value.tuple #[]), (Value.tuple #[]), (Value.tuple #[]), (Value.tuple #[]), (Value.tuple #[]), (Value.tuple #[]), (Value.tuple #[]), (Value.tuple #[]), (Value.tuple #[]), (Value.tuple #[]), (Value.tuple #[]), (Value.tuple #[]), (Value.tuple #[]), (Value.tuple #[]), (Value.tuple #[])] → ¬ rstepI [σ 0, (Value.int .i64 1), (Value.int .i64 8192), (Value.tuple #[]), (Value.tuple #[]), (Value.tuple #[]), (Value.tuple #[]), (Value.tuple #[]), (Value.tuple #[]), (Value.tuple #[]), (Value.tuple #[]), (Value.tuple #[]), (Value.tuple #[]), (Value.tuple #[]), (Value.tuple #[]), (Value.tuple #[]), (Value.tuple #[]), (Value.tuple #[]), (Value.tuple #[]), (Value.tuple #[]), (Value.tuple #[]), (Value.tuple #[])])) →
    False

def rdate_L1 : Prop := ∀ σ : Nat → Value,
    (σ 0 = .int .i64 (iv (σ 0))) →
    (σ 1 = .int .i64 (iv (σ 1))) →
    (σ 2 = .int .i64 (iv (σ 2))) →
    (σ 23 = .int .i64 (iv (σ 23))) →
    (σ 25 = .int .i64 (iv (σ 25))) →
    (σ 27 = .int .i64 (iv (σ 27))) →
    (rdateRPre [σ 0]) →
    (rstepI [σ 0, σ 1, σ 2, σ 3, σ 4, σ 5, σ 6, σ 7, σ 8, σ 9, σ 10, σ 11, σ 12, σ 13, σ 14, σ 15, σ 16, σ 17, σ 18, σ 19, σ 20, σ 21]) →
    (iv (σ 23) = IntKind.i64.wrap (iv (σ 1) + iv (σ 2))) →
    (raheadR [σ 23, σ 25]) →
    (iv (σ 27) = IntKind.i64.wrap ((iv (σ 2)).tdiv (2))) →
    ((fitsL [.any, .int .i64, .int .i64, .any, .any, .any, .any, .any, .any, .any, .any, .any, .any, .any, .any, .any, .any, .any, .any, .any, .any, .any] [σ 0, σ 23, σ 27, σ 2, σ 22, σ 2, σ 27, σ 1, σ 2, σ 23, σ 24, σ 24, σ 1, σ 2, σ 23, σ 25, σ 0, σ 26, σ 26, σ 1, σ 2, σ 23] → rstepI [σ 0, σ 23, σ 27, σ 2, σ 22, σ 2, σ 27, σ 1, σ 2, σ 23, σ 24, σ 24, σ 1, σ 2, σ 23, σ 25, σ 0, σ 26, σ 26, σ 1, σ 2, σ 23] → ¬ rstepIM [σ 0, σ 23, σ 27, σ 2, σ 22, σ 2, σ 27, σ 1, σ 2, σ 23, σ 24, σ 24, σ 1, σ 2, σ 23, σ 25, σ 0, σ 26, σ 26, σ 1, σ 2, σ 23] < rstepIM [σ 0, σ 1, σ 2, σ 3, σ 4, σ 5, σ 6, σ 7, σ 8, σ 9, σ 10, σ 11, σ 12, σ 13, σ 14, σ 15, σ 16, σ 17, σ 18, σ 19, σ 20, σ 21])) →
    (iv (σ 25) ≤ iv (σ 0)) →
    (iv (σ 23) ≤ 9999) →
    (0 < iv (σ 2)) →
    False

def rdate_L2 : Prop := ∀ σ : Nat → Value,
    (σ 0 = .int .i64 (iv (σ 0))) →
    (σ 1 = .int .i64 (iv (σ 1))) →
    (σ 2 = .int .i64 (iv (σ 2))) →
    (σ 23 = .int .i64 (iv (σ 23))) →
    (σ 25 = .int .i64 (iv (σ 25))) →
    (σ 27 = .int .i64 (iv (σ 27))) →
    (rdateRPre [σ 0]) →
    (rstepI [σ 0, σ 1, σ 2, σ 3, σ 4, σ 5, σ 6, σ 7, σ 8, σ 9, σ 10, σ 11, σ 12, σ 13, σ 14, σ 15, σ 16, σ 17, σ 18, σ 19, σ 20, σ 21]) →
    (iv (σ 23) = IntKind.i64.wrap (iv (σ 1) + iv (σ 2))) →
    (raheadR [σ 23, σ 25]) →
    (iv (σ 27) = IntKind.i64.wrap ((iv (σ 2)).tdiv (2))) →
    ((fitsL [.any, .int .i64, .int .i64, .any, .any, .any, .any, .any, .any, .any, .any, .any, .any, .any, .any, .any, .any, .any, .any, .any, .any, .any] [σ 0, σ 1, σ 27, σ 2, σ 22, σ 2, σ 27, σ 1, σ 2, σ 23, σ 24, σ 24, σ 1, σ 2, σ 23, σ 25, σ 0, σ 26, σ 26, σ 19, σ 20, σ 21] → rstepI [σ 0, σ 1, σ 27, σ 2, σ 22, σ 2, σ 27, σ 1, σ 2, σ 23, σ 24, σ 24, σ 1, σ 2, σ 23, σ 25, σ 0, σ 26, σ 26, σ 19, σ 20, σ 21] → ¬ rstepIM [σ 0, σ 1, σ 27, σ 2, σ 22, σ 2, σ 27, σ 1, σ 2, σ 23, σ 24, σ 24, σ 1, σ 2, σ 23, σ 25, σ 0, σ 26, σ 26, σ 19, σ 20, σ 21] < rstepIM [σ 0, σ 1, σ 2, σ 3, σ 4, σ 5, σ 6, σ 7, σ 8, σ 9, σ 10, σ 11, σ 12, σ 13, σ 14, σ 15, σ 16, σ 17, σ 18, σ 19, σ 20, σ 21])) →
    (iv (σ 0) < iv (σ 25)) →
    (iv (σ 23) ≤ 9999) →
    (0 < iv (σ 2)) →
    False

def rdate_L3 : Prop := ∀ σ : Nat → Value,
    (σ 0 = .int .i64 (iv (σ 0))) →
    (σ 1 = .int .i64 (iv (σ 1))) →
    (σ 2 = .int .i64 (iv (σ 2))) →
    (σ 23 = .int .i64 (iv (σ 23))) →
    (rdateRPre [σ 0]) →
    (rstepI [σ 0, σ 1, σ 2, σ 3, σ 4, σ 5, σ 6, σ 7, σ 8, σ 9, σ 10, σ 11, σ 12, σ 13, σ 14, σ 15, σ 16, σ 17, σ 18, σ 19, σ 20, σ 21]) →
    (iv (σ 23) = IntKind.i64.wrap (iv (σ 1) + iv (σ 2))) →
    (¬ raheadRPre [σ 23]) →
    (iv (σ 23) ≤ 9999) →
    (0 < iv (σ 2)) →
    False

def rdate_L4 : Prop := ∀ σ : Nat → Value,
    (σ 0 = .int .i64 (iv (σ 0))) →
    (σ 1 = .int .i64 (iv (σ 1))) →
    (σ 2 = .int .i64 (iv (σ 2))) →
    (σ 23 = .int .i64 (iv (σ 23))) →
    (σ 25 = .int .i64 (iv (σ 25))) →
    (rdateRPre [σ 0]) →
    (rstepI [σ 0, σ 1, σ 2, σ 3, σ 4, σ 5, σ 6, σ 7, σ 8, σ 9, σ 10, σ 11, σ 12, σ 13, σ 14, σ 15, σ 16, σ 17, σ 18, σ 19, σ 20, σ 21]) →
    (iv (σ 23) = IntKind.i64.wrap (iv (σ 1) + iv (σ 2))) →
    (iv (σ 25) = IntKind.i64.wrap ((iv (σ 2)).tdiv (2))) →
    ((fitsL [.any, .int .i64, .int .i64, .any, .any, .any, .any, .any, .any, .any, .any, .any, .any, .any, .any, .any, .any, .any, .any, .any, .any, .any] [σ 0, σ 1, σ 25, σ 2, σ 22, σ 2, σ 25, σ 1, σ 2, σ 23, σ 24, σ 24, (Value.tuple #[]), (Value.tuple #[]), (Value.tuple #[]), (Value.tuple #[]), (Value.tuple #[]), (Value.tuple #[]), (Value.bool false), σ 19, σ 20, σ 21] → rstepI [σ 0, σ 1, σ 25, σ 2, σ 22, σ 2, σ 25, σ 1, σ 2, σ 23, σ 24, σ 24, (Value.tuple #[]), (Value.tuple #[]), (Value.tuple #[]), (Value.tuple #[]), (Value.tuple #[]), (Value.tuple #[]), (Value.bool false), σ 19, σ 20, σ 21] → ¬ rstepIM [σ 0, σ 1, σ 25, σ 2, σ 22, σ 2, σ 25, σ 1, σ 2, σ 23, σ 24, σ 24, (Value.tuple #[]), (Value.tuple #[]), (Value.tuple #[]), (Value.tuple #[]), (Value.tuple #[]), (Value.tuple #[]), (Value.bool false), σ 19, σ 20, σ 21] < rstepIM [σ 0, σ 1, σ 2, σ 3, σ 4, σ 5, σ 6, σ 7, σ 8, σ 9, σ 10, σ 11, σ 12, σ 13, σ 14, σ 15, σ 16, σ 17, σ 18, σ 19, σ 20, σ 21])) →
    (9999 < iv (σ 23)) →
    (0 < iv (σ 2)) →
    False

def rdate_L5 : Prop := ∀ σ : Nat → Value,
    (σ 0 = .int .i64 (iv (σ 0))) →
    (σ 1 = .int .i64 (iv (σ 1))) →
    (σ 2 = .int .i64 (iv (σ 2))) →
    (σ 23 = .int .i64 (iv (σ 23))) →
    (σ 24 = .int .i64 (iv (σ 24))) →
    (rdateRPre [σ 0]) →
    (rstepI [σ 0, σ 1, σ 2, σ 3, σ 4, σ 5, σ 6, σ 7, σ 8, σ 9, σ 10, σ 11, σ 12, σ 13, σ 14, σ 15, σ 16, σ 17, σ 18, σ 19, σ 20, σ 21]) →
    (raheadR [σ 1, σ 23]) →
    (iv (σ 24) = IntKind.i64.wrap (iv (σ 0) - iv (σ 23))) →
    ((fitsL [.any, .any, .any, .any, .any, .any, .any, .any, .any, .any, .any, .any, .any, .any, .any, .any, .any, .any, .any, .any, .any, .any, .any, .any, .any, .int .i64, .int .i64, .any, .any, .any, .any, .any, .any, .any, .any, .any, .any, .any, .any] [σ 0, σ 1, σ 2, σ 3, σ 4, σ 5, σ 6, σ 7, σ 8, σ 9, σ 10, σ 11, σ 12, σ 13, σ 14, σ 15, σ 16, σ 17, σ 18, σ 19, σ 20, σ 21, σ 22, σ 23, σ 24, σ 24, (Value.int .i64 1), (Value.tuple #[]), (Value.tuple #[]), (Value.tuple #[]), (Value.tuple #[]), (Value.tuple #[]), (Value.tuple #[]), (Value.tuple #[]), (Value.tuple #[]), (Value.tuple #[]), (Value.tuple #[]), (Value.tuple #[]), (Value.tuple #[])] → ¬ rmonI [σ 0, σ 1, σ 2, σ 3, σ 4, σ 5, σ 6, σ 7, σ 8, σ 9, σ 10, σ 11, σ 12, σ 13, σ 14, σ 15, σ 16, σ 17, σ 18, σ 19, σ 20, σ 21, σ 22, σ 23, σ 24, σ 24, (Value.int .i64 1), (Value.tuple #[]), (Value.tuple #[]), (Value.tuple #[]), (Value.tuple #[]), (Value.tuple #[]), (Value.tuple #[]), (Value.tuple #[]), (Value.tuple #[]), (Value.tuple #[]), (Value.tuple #[]), (Value.tuple #[]), (Value.tuple #[])])) →
    (iv (σ 2) ≤ 0) →
    False

def rdate_L6 : Prop := ∀ σ : Nat → Value,
    (σ 0 = .int .i64 (iv (σ 0))) →
    (σ 1 = .int .i64 (iv (σ 1))) →
    (σ 2 = .int .i64 (iv (σ 2))) →
    (σ 23 = .int .i64 (iv (σ 23))) →
    (σ 24 = .int .i64 (iv (σ 24))) →
    (σ 25 = .int .i64 (iv (σ 25))) →
    (σ 26 = .int .i64 (iv (σ 26))) →
    (σ 39 = .int .i64 (iv (σ 39))) →
    (σ 41 = .int .i64 (iv (σ 41))) →
    (σ 42 = .int .i64 (iv (σ 42))) →
    (σ 43 = .int .i64 (iv (σ 43))) →
    (rdateRPre [σ 0]) →
    (rstepI [σ 0, σ 1, σ 2, σ 3, σ 4, σ 5, σ 6, σ 7, σ 8, σ 9, σ 10, σ 11, σ 12, σ 13, σ 14, σ 15, σ 16, σ 17, σ 18, σ 19, σ 20, σ 21]) →
    (raheadR [σ 1, σ 23]) →
    (iv (σ 24) = IntKind.i64.wrap (iv (σ 0) - iv (σ 23))) →
    (rmonI [σ 0, σ 1, σ 2, σ 3, σ 4, σ 5, σ 6, σ 7, σ 8, σ 9, σ 10, σ 11, σ 12, σ 13, σ 14, σ 15, σ 16, σ 17, σ 18, σ 19, σ 20, σ 21, σ 22, σ 23, σ 24, σ 25, σ 26, σ 27, σ 28, σ 29, σ 30, σ 31, σ 32, σ 33, σ 34, σ 35, σ 36, σ 37, σ 38]) →
    (rmonthR [σ 1, σ 26, σ 39]) →
    (rmonthR [σ 1, σ 26, σ 41]) →
    (iv (σ 42) = IntKind.i64.wrap (iv (σ 25) - iv (σ 41))) →
    (iv (σ 43) = IntKind.i64.wrap (iv (σ 26) + 1)) →
    ((fitsL [.any, .any, .any, .any, .any, .any, .any, .any, .any, .any, .any, .any, .any, .any, .any, .any, .any, .any, .any, .any, .any, .any, .any, .any, .any, .int .i64, .int .i64, .any, .any, .any, .any, .any, .any, .any, .any, .any, .any, .any, .any] [σ 0, σ 1, σ 2, σ 3, σ 4, σ 5, σ 6, σ 7, σ 8, σ 9, σ 10, σ 11, σ 12, σ 13, σ 14, σ 15, σ 16, σ 17, σ 18, σ 19, σ 20, σ 21, σ 22, σ 23, σ 24, σ 42, σ 43, σ 25, σ 1, σ 26, σ 39, σ 40, σ 25, σ 1, σ 26, σ 41, σ 42, σ 26, σ 43] → rmonI [σ 0, σ 1, σ 2, σ 3, σ 4, σ 5, σ 6, σ 7, σ 8, σ 9, σ 10, σ 11, σ 12, σ 13, σ 14, σ 15, σ 16, σ 17, σ 18, σ 19, σ 20, σ 21, σ 22, σ 23, σ 24, σ 42, σ 43, σ 25, σ 1, σ 26, σ 39, σ 40, σ 25, σ 1, σ 26, σ 41, σ 42, σ 26, σ 43] → ¬ rmonIM [σ 0, σ 1, σ 2, σ 3, σ 4, σ 5, σ 6, σ 7, σ 8, σ 9, σ 10, σ 11, σ 12, σ 13, σ 14, σ 15, σ 16, σ 17, σ 18, σ 19, σ 20, σ 21, σ 22, σ 23, σ 24, σ 42, σ 43, σ 25, σ 1, σ 26, σ 39, σ 40, σ 25, σ 1, σ 26, σ 41, σ 42, σ 26, σ 43] < rmonIM [σ 0, σ 1, σ 2, σ 3, σ 4, σ 5, σ 6, σ 7, σ 8, σ 9, σ 10, σ 11, σ 12, σ 13, σ 14, σ 15, σ 16, σ 17, σ 18, σ 19, σ 20, σ 21, σ 22, σ 23, σ 24, σ 25, σ 26, σ 27, σ 28, σ 29, σ 30, σ 31, σ 32, σ 33, σ 34, σ 35, σ 36, σ 37, σ 38])) →
    (iv (σ 39) ≤ iv (σ 25)) →
    (iv (σ 2) ≤ 0) →
    False

def rdate_L7 : Prop := ∀ σ : Nat → Value,
    (σ 0 = .int .i64 (iv (σ 0))) →
    (σ 1 = .int .i64 (iv (σ 1))) →
    (σ 2 = .int .i64 (iv (σ 2))) →
    (σ 23 = .int .i64 (iv (σ 23))) →
    (σ 24 = .int .i64 (iv (σ 24))) →
    (σ 25 = .int .i64 (iv (σ 25))) →
    (σ 26 = .int .i64 (iv (σ 26))) →
    (σ 39 = .int .i64 (iv (σ 39))) →
    (rdateRPre [σ 0]) →
    (rstepI [σ 0, σ 1, σ 2, σ 3, σ 4, σ 5, σ 6, σ 7, σ 8, σ 9, σ 10, σ 11, σ 12, σ 13, σ 14, σ 15, σ 16, σ 17, σ 18, σ 19, σ 20, σ 21]) →
    (raheadR [σ 1, σ 23]) →
    (iv (σ 24) = IntKind.i64.wrap (iv (σ 0) - iv (σ 23))) →
    (rmonI [σ 0, σ 1, σ 2, σ 3, σ 4, σ 5, σ 6, σ 7, σ 8, σ 9, σ 10, σ 11, σ 12, σ 13, σ 14, σ 15, σ 16, σ 17, σ 18, σ 19, σ 20, σ 21, σ 22, σ 23, σ 24, σ 25, σ 26, σ 27, σ 28, σ 29, σ 30, σ 31, σ 32, σ 33, σ 34, σ 35, σ 36, σ 37, σ 38]) →
    (rmonthR [σ 1, σ 26, σ 39]) →
    (¬ rmonthRPre [σ 1, σ 26]) →
    (iv (σ 39) ≤ iv (σ 25)) →
    (iv (σ 2) ≤ 0) →
    False

def rdate_L8 : Prop := ∀ σ : Nat → Value,
    (σ 0 = .int .i64 (iv (σ 0))) →
    (σ 1 = .int .i64 (iv (σ 1))) →
    (σ 2 = .int .i64 (iv (σ 2))) →
    (σ 23 = .int .i64 (iv (σ 23))) →
    (σ 24 = .int .i64 (iv (σ 24))) →
    (σ 25 = .int .i64 (iv (σ 25))) →
    (σ 26 = .int .i64 (iv (σ 26))) →
    (σ 39 = .int .i64 (iv (σ 39))) →
    (σ 41 = .int .i64 (iv (σ 41))) →
    (rdateRPre [σ 0]) →
    (rstepI [σ 0, σ 1, σ 2, σ 3, σ 4, σ 5, σ 6, σ 7, σ 8, σ 9, σ 10, σ 11, σ 12, σ 13, σ 14, σ 15, σ 16, σ 17, σ 18, σ 19, σ 20, σ 21]) →
    (raheadR [σ 1, σ 23]) →
    (iv (σ 24) = IntKind.i64.wrap (iv (σ 0) - iv (σ 23))) →
    (rmonI [σ 0, σ 1, σ 2, σ 3, σ 4, σ 5, σ 6, σ 7, σ 8, σ 9, σ 10, σ 11, σ 12, σ 13, σ 14, σ 15, σ 16, σ 17, σ 18, σ 19, σ 20, σ 21, σ 22, σ 23, σ 24, σ 25, σ 26, σ 27, σ 28, σ 29, σ 30, σ 31, σ 32, σ 33, σ 34, σ 35, σ 36, σ 37, σ 38]) →
    (rmonthR [σ 1, σ 26, σ 39]) →
    (iv (σ 41) = IntKind.i64.wrap (iv (σ 25) + 1)) →
    (iv (σ 25) < iv (σ 39)) →
    (iv (σ 2) ≤ 0) →
    rdateR [σ 0, σ 1, σ 26, σ 41]

def rdate_L9 : Prop := ∀ σ : Nat → Value,
    (σ 0 = .int .i64 (iv (σ 0))) →
    (σ 1 = .int .i64 (iv (σ 1))) →
    (σ 2 = .int .i64 (iv (σ 2))) →
    (σ 23 = .int .i64 (iv (σ 23))) →
    (σ 24 = .int .i64 (iv (σ 24))) →
    (σ 25 = .int .i64 (iv (σ 25))) →
    (σ 26 = .int .i64 (iv (σ 26))) →
    (rdateRPre [σ 0]) →
    (rstepI [σ 0, σ 1, σ 2, σ 3, σ 4, σ 5, σ 6, σ 7, σ 8, σ 9, σ 10, σ 11, σ 12, σ 13, σ 14, σ 15, σ 16, σ 17, σ 18, σ 19, σ 20, σ 21]) →
    (raheadR [σ 1, σ 23]) →
    (iv (σ 24) = IntKind.i64.wrap (iv (σ 0) - iv (σ 23))) →
    (rmonI [σ 0, σ 1, σ 2, σ 3, σ 4, σ 5, σ 6, σ 7, σ 8, σ 9, σ 10, σ 11, σ 12, σ 13, σ 14, σ 15, σ 16, σ 17, σ 18, σ 19, σ 20, σ 21, σ 22, σ 23, σ 24, σ 25, σ 26, σ 27, σ 28, σ 29, σ 30, σ 31, σ 32, σ 33, σ 34, σ 35, σ 36, σ 37, σ 38]) →
    (¬ rmonthRPre [σ 1, σ 26]) →
    (iv (σ 2) ≤ 0) →
    False

def rdate_L10 : Prop := ∀ σ : Nat → Value,
    (σ 0 = .int .i64 (iv (σ 0))) →
    (σ 1 = .int .i64 (iv (σ 1))) →
    (σ 2 = .int .i64 (iv (σ 2))) →
    (rdateRPre [σ 0]) →
    (rstepI [σ 0, σ 1, σ 2, σ 3, σ 4, σ 5, σ 6, σ 7, σ 8, σ 9, σ 10, σ 11, σ 12, σ 13, σ 14, σ 15, σ 16, σ 17, σ 18, σ 19, σ 20, σ 21]) →
    (¬ raheadRPre [σ 1]) →
    (iv (σ 2) ≤ 0) →
    False

theorem rdate_tie : rdateC.goals (cfgC Tryz.prog (entersOf Tryz.prog) X [rmonthC, raheadC]) [(42, 3, rstepI_), (42, 9, rmonI_)] 2000 = (rdate_L0 ∧ rdate_L1 ∧ rdate_L2 ∧ rdate_L3 ∧ rdate_L4 ∧ rdate_L5 ∧ rdate_L6 ∧ rdate_L7 ∧ rdate_L8 ∧ rdate_L9 ∧ rdate_L10 ∧ True) := by kernel_rfl
theorem rdate_L0_ok : rdate_L0 := by
  intro σ; intros
  have H := ‹fitsL _ _ → ¬ rstepI _› (by (simp only [fitsL, Sort_.fits]; repeat' (first | exact True.intro | (with_reducible refine And.intro ?_ ?_) | exact ⟨_, ‹_›⟩ | exact ⟨_, rfl⟩)))
  refine H ?_
  have e := ‹rdateRPre _›
  simp only [rdateRPre, rstepI, g0, gs, iv_int] at *
  have := yr_1
  refine ⟨by omega, by omega, by omega, by unfold pw; omega, .inl (by unfold topS; decide)⟩
theorem rdate_L1_ok : rdate_L1 := by
  intro σ; intros
  have H := ‹fitsL _ _ → rstepI _ → ¬ (_ : Nat) < _› (by (simp only [fitsL, Sort_.fits]; repeat' (first | exact True.intro | (with_reducible refine And.intro ?_ ?_) | exact ⟨_, ‹_›⟩ | exact ⟨_, rfl⟩)))
  have I := ‹rstepI _›
  have P := ‹rdateRPre _›
  have A := ‹raheadR _›
  have w1 := ‹iv (σ 23) = IntKind.i64.wrap _›
  have w2 := ‹iv (σ 27) = IntKind.i64.wrap _›
  simp only [rstepI, rdateRPre, raheadR, g0, gs] at I P A
  obtain ⟨p1, p2, p3, p4, p5, p6⟩ := pw_half I.2.2.2.1 ‹_›
  rw [IntWalk.i64_in _ (by omega)] at w1
  rw [tdiv_nn (by omega), IntWalk.i64_in _ (by omega)] at w2
  have t := I.2.2.2.2
  rw [p6] at t
  refine H ?_ ?_
  · simp only [rstepI, g0, gs]
    rw [w2, p2, w1]
    rw [w1] at A
    exact ⟨by omega, by omega, by omega, p1, Tst_shift t⟩
  · simp only [rstepIM, g0, gs]
    omega
theorem rdate_L2_ok : rdate_L2 := by
  intro σ; intros
  have H := ‹fitsL _ _ → rstepI _ → ¬ (_ : Nat) < _› (by (simp only [fitsL, Sort_.fits]; repeat' (first | exact True.intro | (with_reducible refine And.intro ?_ ?_) | exact ⟨_, ‹_›⟩ | exact ⟨_, rfl⟩)))
  have I := ‹rstepI _›
  have P := ‹rdateRPre _›
  have A := ‹raheadR _›
  have w1 := ‹iv (σ 23) = IntKind.i64.wrap _›
  have w2 := ‹iv (σ 27) = IntKind.i64.wrap _›
  simp only [rstepI, rdateRPre, raheadR, g0, gs] at I P A
  obtain ⟨p1, p2, p3, p4, p5, p6⟩ := pw_half I.2.2.2.1 ‹_›
  rw [IntWalk.i64_in _ (by omega)] at w1
  rw [tdiv_nn (by omega), IntWalk.i64_in _ (by omega)] at w2
  refine H ?_ ?_
  · simp only [rstepI, g0, gs]
    rw [w2, p2]
    rw [w1] at A
    exact ⟨by omega, by omega, by omega, p1, .inr (by omega)⟩
  · simp only [rstepIM, g0, gs]
    omega
theorem rdate_L3_ok : rdate_L3 := by
  intro σ; intros
  have I := ‹rstepI _›
  have P := ‹rdateRPre _›
  have A := ‹¬ raheadRPre _›
  have w1 := ‹iv (σ 23) = IntKind.i64.wrap _›
  simp only [rstepI, rdateRPre, raheadRPre, g0, gs] at I P A
  obtain ⟨p1, p2, p3, p4, p5, p6⟩ := pw_half I.2.2.2.1 ‹_›
  rw [IntWalk.i64_in _ (by omega)] at w1
  omega
theorem rdate_L4_ok : rdate_L4 := by
  intro σ; intros
  have H := ‹fitsL _ _ → rstepI _ → ¬ (_ : Nat) < _› (by (simp only [fitsL, Sort_.fits]; repeat' (first | exact True.intro | (with_reducible refine And.intro ?_ ?_) | exact ⟨_, ‹_›⟩ | exact ⟨_, rfl⟩)))
  have I := ‹rstepI _›
  have P := ‹rdateRPre _›
  have w1 := ‹iv (σ 23) = IntKind.i64.wrap _›
  have w2 := ‹iv (σ 25) = IntKind.i64.wrap _›
  simp only [rstepI, rdateRPre, g0, gs] at I P
  obtain ⟨p1, p2, p3, p4, p5, p6⟩ := pw_half I.2.2.2.1 ‹_›
  rw [IntWalk.i64_in _ (by omega)] at w1
  rw [tdiv_nn (by omega), IntWalk.i64_in _ (by omega)] at w2
  refine H ?_ ?_
  · simp only [rstepI, g0, gs]
    rw [w2, p2]
    exact ⟨by omega, by omega, by omega, p1, .inl (by omega)⟩
  · simp only [rstepIM, g0, gs]
    omega
/-- Behind the first loop the year is the day's. -/
theorem year_found {n y s : Int} (h1 : 1 ≤ y) (h2 : y ≤ 9999) (h3 : yr y - 693593 ≤ n) (hp : pw s) (ht : Tst n y (topS s)) (hs : s ≤ 0) (hn : n ≤ 2958465) : n - (yr y - 693593) < 365 + lp y := by
  have e : s = 0 := by unfold pw at hp; omega
  subst e
  have k := yr_succ y
  have e1 : topS 0 = 1 := by decide
  rw [e1] at ht
  rcases ht with c | c
  · have : y = 9999 := by omega
    subst this
    have := yr_10000
    have e2 : yr (9999 + 1) = yr 10000 := rfl
    omega
  · omega
theorem rdate_L5_ok : rdate_L5 := by
  intro σ; intros
  have H := ‹fitsL _ _ → ¬ rmonI _› (by (simp only [fitsL, Sort_.fits]; repeat' (first | exact True.intro | (with_reducible refine And.intro ?_ ?_) | exact ⟨_, ‹_›⟩ | exact ⟨_, rfl⟩)))
  have I := ‹rstepI _›
  have P := ‹rdateRPre _›
  have A := ‹raheadR _›
  have w1 := ‹iv (σ 24) = IntKind.i64.wrap _›
  simp only [rstepI, rdateRPre, raheadR, g0, gs] at I P A
  have c3 := yr_bd (y := iv (σ 1)) (by omega) (by omega)
  rw [IntWalk.i64_in _ (by omega)] at w1
  have := cum_one (iv (σ 1))
  refine H ?_
  simp only [rmonI, g0, gs, iv_int]
  exact ⟨by omega, by omega, by omega, by omega⟩
theorem rdate_L6_ok : rdate_L6 := by
  intro σ; intros
  have H := ‹fitsL _ _ → rmonI _ → ¬ (_ : Nat) < _› (by (simp only [fitsL, Sort_.fits]; repeat' (first | exact True.intro | (with_reducible refine And.intro ?_ ?_) | exact ⟨_, ‹_›⟩ | exact ⟨_, rfl⟩)))
  have I := ‹rstepI _›
  have P := ‹rdateRPre _›
  have J := ‹rmonI _›
  have A1 := ‹rmonthR [σ 1, σ 26, σ 39]›
  have A2 := ‹rmonthR [σ 1, σ 26, σ 41]›
  have w1 := ‹iv (σ 42) = IntKind.i64.wrap _›
  have w2 := ‹iv (σ 43) = IntKind.i64.wrap _›
  simp only [rstepI, rmonI, rdateRPre, rmonthR, g0, gs] at I P A1 A2 J
  have f := year_found I.1 I.2.1 I.2.2.1 I.2.2.2.1 I.2.2.2.2 ‹_› P.2
  have c := cum_succ (iv (σ 1)) (iv (σ 26)) (by omega) (by omega)
  have mp := monI_pos (iv (σ 1)) (iv (σ 26))
  have c2 := cum_bd (iv (σ 1)) (iv (σ 26))
  have lb := lp_01 (iv (σ 1))
  rw [IntWalk.i64_in _ (by omega)] at w1 w2
  have m12 : iv (σ 26) ≠ 12 := by
    intro e
    rw [e] at c mp A1 J
    have := cum_13 (iv (σ 1))
    have e2 : cum (iv (σ 1)) (12 + 1) = cum (iv (σ 1)) 13 := rfl
    omega
  refine H ?_ ?_
  · simp only [rmonI, g0, gs]
    rw [w2]
    exact ⟨by omega, by omega, by omega, by omega⟩
  · simp only [rmonIM, g0, gs]
    omega
theorem rdate_L7_ok : rdate_L7 := by
  intro σ; intros
  (simp only [rmonthRPre, rmonthR, raheadR, rdateRPre, rstepI, rmonI, g0, gs] at *)
  omega
theorem rdate_L8_ok : rdate_L8 := by
  intro σ; intros
  have I := ‹rstepI _›
  have P := ‹rdateRPre _›
  have J := ‹rmonI _›
  have A1 := ‹rmonthR [σ 1, σ 26, σ 39]›
  have w1 := ‹iv (σ 41) = IntKind.i64.wrap _›
  simp only [rstepI, rmonI, rdateRPre, rmonthR, g0, gs] at I P A1 J
  have c := cum_succ (iv (σ 1)) (iv (σ 26)) (by omega) (by omega)
  have mp := monI_pos (iv (σ 1)) (iv (σ 26))
  rw [IntWalk.i64_in _ (by omega)] at w1
  exact date_fin (by omega) (by omega) (by omega) (by omega) (by omega) (by omega) (by omega)
theorem rdate_L9_ok : rdate_L9 := by
  intro σ; intros
  (simp only [rmonthRPre, raheadR, rdateRPre, rstepI, rmonI, g0, gs] at *)
  omega
theorem rdate_L10_ok : rdate_L10 := by
  intro σ; intros
  (simp only [raheadRPre, rdateRPre, rstepI, g0, gs] at *)
  omega
theorem rdate_ok {cond : World → Prop} (hs : Keeps cond) : rdateC.ok Tryz.prog cond :=
  by_tie rdate_tie (by kernel_rfl) hs (all_cons (rmonth_ok hs) (all_cons (rahead_ok hs) all_nil)) ⟨rdate_L0_ok, rdate_L1_ok, rdate_L2_ok, rdate_L3_ok, rdate_L4_ok, rdate_L5_ok, rdate_L6_ok, rdate_L7_ok, rdate_L8_ok, rdate_L9_ok, rdate_L10_ok, trivial⟩

end Go.Proofs.Num

namespace Go.Proofs.Num
open Go.Ev Go.Dates Go.RowKit
set_option maxRecDepth 1000000
def bigF (x : Nat) : Prop := 2 ^ 53 * KK ≤ sv x ∨ sv x ≤ -(2 ^ 53 * KK)
def rFloorR : List Value → Prop
  | [x, r] => (Fin64 (fv x) ∧ ¬ bigF (fv x) → Fin64 (fv r) ∧ sv (fv r) = flr (fv x) * KK) ∧ (Fin64 (fv x) ∧ bigF (fv x) → fv r = fv x) ∧ (fv x % 2 ^ 63 = 9218868437227405312 → fv r = fv x)
  | _ => False
def rdayR : List Value → Prop
  | [x, n, ok] => Fin64 (fv x) → (bv ok = true ∧ iv n = flr (fv x) ∧ -693593 ≤ flr (fv x) ∧ flr (fv x) ≤ 2958465) ∨ (bv ok = false ∧ (flr (fv x) < -693593 ∨ 2958465 < flr (fv x)))
  | _ => False
def rFloorC : Con := { f := 59, ins := [f64S], out := f64S, id := "rFloorR", rel := rFloorR }
def rdayC : Con := { f := 41, ins := [f64S], out := .tup [i64S, .sc .bool], id := "rdayR", rel := rdayR }
def rToC : Con := { f := 13, ins := [f64S], out := .tup [i64S, i64S, i64S, i64S], id := "toR", rel := toR }
def rWdC : Con := { f := 16, ins := [f64S], out := .tup [i64S, i64S], id := "wdR", rel := wdR }

theorem bits_p53 : FloatKind.f64.nearest 9007199254740992 = 4845873199050653696 := by kernel_rfl
theorem bits_m53 : FloatKind.f64.nearest (-9007199254740992) = 14069245235905429504 := by kernel_rfl
theorem bits_one : FloatKind.f64.nearest 1 = 4607182418800017408 := by kernel_rfl
theorem bits_last : FloatKind.f64.nearest 2958465 = 4703607666558107648 := by kernel_rfl
theorem bits_first : FloatKind.f64.nearest (-693593) = 13917577167450931200 := by kernel_rfl
theorem k53 : Fin64 4845873199050653696 ∧ sv 4845873199050653696 = 9007199254740992 * KK := num_bits (by decide) (by decide) bits_p53
theorem km53 : Fin64 14069245235905429504 ∧ sv 14069245235905429504 = -9007199254740992 * KK := num_bits (by decide) (by decide) bits_m53
theorem kone : Fin64 4607182418800017408 ∧ sv 4607182418800017408 = 1 * KK := num_bits (by decide) (by decide) bits_one
theorem klast : Fin64 4703607666558107648 ∧ sv 4703607666558107648 = 2958465 * KK := num_bits (by decide) (by decide) bits_last
theorem kfirst : Fin64 13917577167450931200 ∧ sv 13917577167450931200 = -693593 * KK := num_bits (by decide) (by decide) bits_first
theorem cmp_eq {a b : Int} : compare a b = .eq ↔ a = b := Int.compare_eq_eq
theorem ford_gt {x y : Nat} (hx : Fin64 x) (hy : Fin64 y) : ford x y = some .gt ↔ sv y < sv x := by rw [ford_fin hx hy, Option.some.injEq, cmp_gt]
theorem ford_lt {x y : Nat} (hx : Fin64 x) (hy : Fin64 y) : ford x y = some .lt ↔ sv x < sv y := by rw [ford_fin hx hy, Option.some.injEq, cmp_lt]
theorem ford_eq {x y : Nat} (hx : Fin64 x) (hy : Fin64 y) : ford x y = some .eq ↔ sv x = sv y := by rw [ford_fin hx hy, Option.some.injEq, cmp_eq]
/-- An infinity against a number. -/
theorem inf_two {x : Nat} (h : x % 2 ^ 63 = 9218868437227405312) : (∀ y, Fin64 y → ford x y = some .gt) ∨ (∀ y, Fin64 y → ford x y = some .lt) := by
  obtain ⟨s, e⟩ := inf_read (x := x) h
  cases s
  · left; intro y hy
    obtain ⟨t, m, i, e2, _⟩ := read_fin hy
    unfold ford Ieee.Format.order
    rw [e, e2]; rfl
  · right; intro y hy
    obtain ⟨t, m, i, e2, _⟩ := read_fin hy
    unfold ford Ieee.Format.order
    rw [e, e2]; rfl
theorem trunc_bd (x : Int) : (x.tdiv KK - 1) * KK < x ∧ x < (x.tdiv KK + 1) * KK := by
  have hp := KK_pos
  have h1 := Int.mul_tdiv_add_tmod x KK
  have h2 := Int.tmod_lt_of_pos x hp
  have h3 := Int.lt_tmod_of_pos x hp
  rw [Int.sub_mul, Int.add_mul, Int.one_mul, Int.mul_comm (x.tdiv KK)]
  omega
theorem abs_le53 {n : Int} (h1 : (-9007199254740992) * KK < n) (h2 : n < 9007199254740992 * KK) : -(2 ^ 53) ≤ n.tdiv KK ∧ n.tdiv KK ≤ 2 ^ 53 := by
  have hp := KK_pos
  obtain ⟨t1, t2⟩ := trunc_bd n
  have a : (-9007199254740992) * KK < (n.tdiv KK + 1) * KK := Int.lt_trans h1 t2
  have b : (n.tdiv KK - 1) * KK < 9007199254740992 * KK := Int.lt_trans t1 h2
  have a := Int.lt_of_mul_lt_mul_right a (Int.le_of_lt hp)
  have b := Int.lt_of_mul_lt_mul_right b (Int.le_of_lt hp)
  omega
/-- Ahead of the two last outcomes of Floor: x is no infinity, and if it is finite, it is small. -/
theorem floor_mid {x : Nat} (h1 : ford x 14069245235905429504 ≠ some .lt ∧ ford x 14069245235905429504 ≠ some .eq) (h2 : ford x 4845873199050653696 ≠ some .gt ∧ ford x 4845873199050653696 ≠ some .eq) :
    ¬ (x % 2 ^ 63 = 9218868437227405312) ∧ (Fin64 x → (-9007199254740992) * KK < sv x ∧ sv x < 9007199254740992 * KK) := by
  constructor
  · intro h
    rcases inf_two h with c | c
    · exact h2.1 (c _ k53.1)
    · exact h1.1 (c _ km53.1)
  · intro hf
    rw [Ne, ford_lt hf km53.1, Ne, ford_eq hf km53.1, km53.2] at h1
    rw [Ne, ford_gt hf k53.1, Ne, ford_eq hf k53.1, k53.2] at h2
    omega
theorem f2i_small {x : Nat} {r : Int} (h : (∃ n, (FloatKind.f64.decode x).toInt .zero = some n ∧ IntKind.i64.min ≤ n ∧ n ≤ IntKind.i64.max ∧ r = n) ∨ (∀ n, (FloatKind.f64.decode x).toInt .zero = some n → ¬ (IntKind.i64.min ≤ n ∧ n ≤ IntKind.i64.max))) (hf : Fin64 x)
    (h1 : (-9007199254740992) * KK < sv x) (h2 : sv x < 9007199254740992 * KK) : r = (sv x).tdiv KK := by
  have := abs_le53 h1 h2
  exact f2i_iv h hf rfl (by omega) (by omega)
theorem bigF_p {x : Nat} : bigF x ↔ (9007199254740992 * KK ≤ sv x ∨ sv x ≤ -9007199254740992 * KK) := by
  unfold bigF
  have e : (2 : Int) ^ 53 = 9007199254740992 := rfl
  rw [e, Int.neg_mul]

def rFloor_L0 : Prop := ∀ σ : Nat → Value,
    (σ 0 = .float .f64 (fv (σ 0))) →
    (ford (fv (σ 0)) (4845873199050653696) = some .gt ∨ ford (fv (σ 0)) (4845873199050653696) = some .eq) →
    rFloorR [σ 0, σ 0]

def rFloor_L1 : Prop := ∀ σ : Nat → Value,
    (σ 0 = .float .f64 (fv (σ 0))) →
    (ford (fv (σ 0)) (14069245235905429504) = some .lt ∨ ford (fv (σ 0)) (14069245235905429504) = some .eq) →
    (ford (fv (σ 0)) (4845873199050653696) ≠ some .gt ∧ ford (fv (σ 0)) (4845873199050653696) ≠ some .eq) →
    rFloorR [σ 0, σ 0]

def rFloor_L2 : Prop := ∀ σ : Nat → Value,
    (σ 0 = .float .f64 (fv (σ 0))) →
    (σ 3 = .int .i64 (iv (σ 3))) →
    (σ 4 = .float .f64 (fv (σ 4))) →
    (σ 6 = .float .f64 (fv (σ 6))) →
    (((∃ n, (FloatKind.f64.decode (fv (σ 0))).toInt .zero = some n ∧ IntKind.i64.min ≤ n ∧ n ≤ IntKind.i64.max ∧ iv (σ 3) = n) ∨ (∀ n, (FloatKind.f64.decode (fv (σ 0))).toInt .zero = some n → ¬ (IntKind.i64.min ≤ n ∧ n ≤ IntKind.i64.max)))) →
    (fv (σ 4) = FloatKind.f64.nearest (iv (σ 3))) →
    ((farV .sub .f64 (fv (σ 4)) (4607182418800017408) = some (some (fv (σ 6))) ∨ (farV .sub .f64 (fv (σ 4)) (4607182418800017408) = some none ∧ Nan64 (fv (σ 6))))) →
    (ford (fv (σ 4)) (fv (σ 0)) = some .gt) →
    (ford (fv (σ 0)) (14069245235905429504) ≠ some .lt ∧ ford (fv (σ 0)) (14069245235905429504) ≠ some .eq) →
    (ford (fv (σ 0)) (4845873199050653696) ≠ some .gt ∧ ford (fv (σ 0)) (4845873199050653696) ≠ some .eq) →
    rFloorR [σ 0, σ 6]

def rFloor_L3 : Prop := ∀ σ : Nat → Value,
    (σ 0 = .float .f64 (fv (σ 0))) →
    (σ 3 = .int .i64 (iv (σ 3))) →
    (σ 4 = .float .f64 (fv (σ 4))) →
    (((∃ n, (FloatKind.f64.decode (fv (σ 0))).toInt .zero = some n ∧ IntKind.i64.min ≤ n ∧ n ≤ IntKind.i64.max ∧ iv (σ 3) = n) ∨ (∀ n, (FloatKind.f64.decode (fv (σ 0))).toInt .zero = some n → ¬ (IntKind.i64.min ≤ n ∧ n ≤ IntKind.i64.max)))) →
    (fv (σ 4) = FloatKind.f64.nearest (iv (σ 3))) →
    (ford (fv (σ 4)) (fv (σ 0)) ≠ some .gt) →
    (ford (fv (σ 0)) (14069245235905429504) ≠ some .lt ∧ ford (fv (σ 0)) (14069245235905429504) ≠ some .eq) →
    (ford (fv (σ 0)) (4845873199050653696) ≠ some .gt ∧ ford (fv (σ 0)) (4845873199050653696) ≠ some .eq) →
    rFloorR [σ 0, σ 4]

theorem rFloor_tie : rFloorC.goals (cfgC Tryz.prog (entersOf Tryz.prog) X []) [] 2000 = (rFloor_L0 ∧ rFloor_L1 ∧ rFloor_L2 ∧ rFloor_L3 ∧ True) := by kernel_rfl
theorem rFloor_L0_ok : rFloor_L0 := by
  intro σ; intros
  have h := ‹_ ∨ _›
  refine ⟨fun k => ?_, fun _ => rfl, fun _ => rfl⟩
  exfalso
  rw [ford_gt k.1 k53.1, ford_eq k.1 k53.1, k53.2] at h
  exact k.2 (bigF_p.2 (.inl (by omega)))
theorem rFloor_L1_ok : rFloor_L1 := by
  intro σ; intros
  have h := ‹_ ∨ _›
  refine ⟨fun k => ?_, fun _ => rfl, fun _ => rfl⟩
  exfalso
  rw [ford_lt k.1 km53.1, ford_eq k.1 km53.1, km53.2] at h
  exact k.2 (bigF_p.2 (.inr (by omega)))
theorem rFloor_L2_ok : rFloor_L2 := by
  intro σ; intros
  have m := floor_mid ‹_› ‹ford (fv (σ 0)) 4845873199050653696 ≠ _ ∧ _›
  have i3 := ‹(∃ n, _ ∧ _) ∨ _›
  have e4 := ‹fv (σ 4) = _›
  have ar := ‹farV .sub .f64 (fv (σ 4)) 4607182418800017408 = some (some (fv (σ 6))) ∨ _›
  have gt := ‹ford (fv (σ 4)) (fv (σ 0)) = some .gt›
  have key : Fin64 (fv (σ 0)) → Fin64 (fv (σ 6)) ∧ sv (fv (σ 6)) = flr (fv (σ 0)) * KK := by
    intro hf
    obtain ⟨b1, b2⟩ := m.2 hf
    have hp := KK_pos
    have t := abs_le53 b1 b2
    obtain ⟨u1, u2⟩ := trunc_bd (sv (fv (σ 0)))
    rw [f2i_small i3 hf b1 b2] at e4
    generalize (sv (fv (σ 0))).tdiv KK = T at *
    have n4 := nearest_int (n := T) (by omega) (by omega)
    rw [← e4] at n4
    rw [ford_gt n4.1 hf, n4.2] at gt
    have T1 : T ≠ -9007199254740992 := by intro e; rw [e] at gt; omega
    obtain ⟨r, s1, s2, s3⟩ := sub_int n4.1 kone.1 n4.2 kone.2 (by omega) (by omega)
    have e : farV .sub .f64 (fv (σ 4)) 4607182418800017408 = some (some r) := by
      show some (Ieee.double.sub _ _) = _
      rw [s1]
    have er : fv (σ 6) = r := by
      rcases ar with a | ⟨a, _⟩
      · rw [e] at a; simpa using a.symm
      · rw [e] at a; cases a
    rw [er]
    refine ⟨s2, ?_⟩
    have f1 : T - 1 ≤ flr (fv (σ 0)) := le_flr.2 (by omega)
    have f2 : flr (fv (σ 0)) < T := flr_lt.2 gt
    rw [s3, show flr (fv (σ 0)) = T - 1 by omega]
  refine ⟨fun k => key k.1, fun k => ?_, fun k => (m.1 k).elim⟩
  have := m.2 k.1
  have := bigF_p.1 k.2
  omega
theorem rFloor_L3_ok : rFloor_L3 := by
  intro σ; intros
  have m := floor_mid ‹_› ‹ford (fv (σ 0)) 4845873199050653696 ≠ _ ∧ _›
  have i3 := ‹(∃ n, _ ∧ _) ∨ _›
  have e4 := ‹fv (σ 4) = _›
  have gt := ‹ford (fv (σ 4)) (fv (σ 0)) ≠ some .gt›
  have key : Fin64 (fv (σ 0)) → Fin64 (fv (σ 4)) ∧ sv (fv (σ 4)) = flr (fv (σ 0)) * KK := by
    intro hf
    obtain ⟨b1, b2⟩ := m.2 hf
    have hp := KK_pos
    have t := abs_le53 b1 b2
    obtain ⟨u1, u2⟩ := trunc_bd (sv (fv (σ 0)))
    rw [f2i_small i3 hf b1 b2] at e4
    generalize (sv (fv (σ 0))).tdiv KK = T at *
    have n4 := nearest_int (n := T) (by omega) (by omega)
    rw [← e4] at n4
    rw [Ne, ford_gt n4.1 hf, n4.2] at gt
    refine ⟨n4.1, ?_⟩
    have f1 : T ≤ flr (fv (σ 0)) := le_flr.2 (by omega)
    have f2 : flr (fv (σ 0)) < T + 1 := flr_lt.2 u2
    rw [n4.2, show flr (fv (σ 0)) = T by omega]
  refine ⟨fun k => key k.1, fun k => ?_, fun k => (m.1 k).elim⟩
  have := m.2 k.1
  have := bigF_p.1 k.2
  omega
theorem rFloor_ok {cond : World → Prop} (hs : Keeps cond) : rFloorC.ok Tryz.prog cond :=
  by_tie rFloor_tie (by kernel_rfl) hs all_nil ⟨rFloor_L0_ok, rFloor_L1_ok, rFloor_L2_ok, rFloor_L3_ok, trivial⟩


def rday_L0 : Prop := ∀ σ : Nat → Value,
    (σ 0 = .float .f64 (fv (σ 0))) →
    (σ 1 = .float .f64 (fv (σ 1))) →
    (σ 3 = .bool (bv (σ 3))) →
    (rFloorR [σ 0, σ 1]) →
    (fcmpV .leq .f64 (fv (σ 1)) (4703607666558107648) = some (.bool (bv (σ 3)))) →
    (bv (σ 3) = !true) →
    (ford (fv (σ 1)) (13917577167450931200) = some .gt ∨ ford (fv (σ 1)) (13917577167450931200) = some .eq) →
    rdayR [σ 0, (Value.int .i64 0), (Value.bool false)]

def rday_L1 : Prop := ∀ σ : Nat → Value,
    (σ 0 = .float .f64 (fv (σ 0))) →
    (σ 1 = .float .f64 (fv (σ 1))) →
    (σ 3 = .bool (bv (σ 3))) →
    (σ 5 = .int .i64 (iv (σ 5))) →
    (rFloorR [σ 0, σ 1]) →
    (fcmpV .leq .f64 (fv (σ 1)) (4703607666558107648) = some (.bool (bv (σ 3)))) →
    (((∃ n, (FloatKind.f64.decode (fv (σ 1))).toInt .zero = some n ∧ IntKind.i64.min ≤ n ∧ n ≤ IntKind.i64.max ∧ iv (σ 5) = n) ∨ (∀ n, (FloatKind.f64.decode (fv (σ 1))).toInt .zero = some n → ¬ (IntKind.i64.min ≤ n ∧ n ≤ IntKind.i64.max)))) →
    (bv (σ 3) = !false) →
    (ford (fv (σ 1)) (13917577167450931200) = some .gt ∨ ford (fv (σ 1)) (13917577167450931200) = some .eq) →
    rdayR [σ 0, σ 5, (Value.bool true)]

def rday_L2 : Prop := ∀ σ : Nat → Value,
    (σ 0 = .float .f64 (fv (σ 0))) →
    (σ 1 = .float .f64 (fv (σ 1))) →
    (rFloorR [σ 0, σ 1]) →
    (ford (fv (σ 1)) (13917577167450931200) ≠ some .gt ∧ ford (fv (σ 1)) (13917577167450931200) ≠ some .eq) →
    rdayR [σ 0, (Value.int .i64 0), (Value.bool false)]

theorem rday_tie : rdayC.goals (cfgC Tryz.prog (entersOf Tryz.prog) X [rFloorC]) [] 2000 = (rday_L0 ∧ rday_L1 ∧ rday_L2 ∧ True) := by kernel_rfl
/-- What Floor gives, against a whole number. -/
theorem floor_num {x r : Value} (h : rFloorR [x, r]) (hf : Fin64 (fv x)) : Fin64 (fv r) ∧ (¬ bigF (fv x) → sv (fv r) = flr (fv x) * KK) ∧ (bigF (fv x) → fv r = fv x) := by
  obtain ⟨h1, h2, _⟩ := h
  by_cases b : bigF (fv x)
  · have e := h2 ⟨hf, b⟩
    exact ⟨by rw [e]; exact hf, fun k => (k b).elim, fun _ => e⟩
  · exact ⟨(h1 ⟨hf, b⟩).1, fun _ => (h1 ⟨hf, b⟩).2, fun k => (b k).elim⟩
theorem floor_le {x r : Value} {n : Int} (h : rFloorR [x, r]) (hf : Fin64 (fv x)) (h1 : -9007199254740992 < n) (h2 : n < 9007199254740992) : (sv (fv r) ≤ n * KK ↔ flr (fv x) ≤ n) ∧ (n * KK ≤ sv (fv r) ↔ n ≤ flr (fv x)) := by
  obtain ⟨k1, k2, k3⟩ := floor_num h hf
  have hp := KK_pos
  by_cases b : bigF (fv x)
  · rw [k3 b]
    have b' := bigF_p.1 b
    refine ⟨?_, le_flr.symm⟩
    have e : flr (fv x) ≤ n ↔ flr (fv x) < n + 1 := by omega
    rw [e, flr_lt, Int.add_mul, Int.one_mul]
    constructor
    · intro c; omega
    · intro c
      rcases b' with b' | b'
      · have : (n + 1) * KK ≤ 9007199254740992 * KK := Int.mul_le_mul_of_nonneg_right (by omega) (by omega)
        rw [Int.add_mul, Int.one_mul] at this
        omega
      · have : -9007199254740992 * KK ≤ n * KK := Int.mul_le_mul_of_nonneg_right (by omega) (by omega)
        omega
  · rw [k2 b]
    constructor
    · constructor
      · intro c; exact Int.le_of_mul_le_mul_right c hp
      · intro c; exact Int.mul_le_mul_of_nonneg_right c (by omega)
    · constructor
      · intro c; exact Int.le_of_mul_le_mul_right c hp
      · intro c; exact Int.mul_le_mul_of_nonneg_right c (by omega)
theorem small_not_big {x : Nat} {n : Int} (h : flr x = n) (h1 : -9007199254740992 < n) (h2 : n < 9007199254740991) : ¬ bigF x := by
  intro b
  have hp := KK_pos
  rcases bigF_p.1 b with c | c
  · have := le_flr.2 c; omega
  · have : flr x < n := flr_lt.2 (Int.lt_of_le_of_lt c (Int.mul_lt_mul_of_pos_right h1 hp))
    omega
theorem leq_true {x y : Nat} {b : Bool} (hx : Fin64 x) (hy : Fin64 y) (h : fcmpV .leq .f64 x y = some (.bool b)) : b = true ↔ sv x ≤ sv y := by
  have h : (Ieee.double.order x y == some .lt || Ieee.double.order x y == some .eq) = b := by
    simp only [fcmpV, Option.some.injEq, Value.bool.injEq] at h
    exact h
  have e : Ieee.double.order x y = ford x y := rfl
  rw [e] at h
  subst h
  rw [Bool.or_eq_true, beq_iff_eq, beq_iff_eq, ford_lt hx hy, ford_eq hx hy]
  omega
theorem rday_L0_ok : rday_L0 := by
  intro σ; intros
  intro hf
  have R := ‹rFloorR _›
  have k := floor_num R hf
  have l := leq_true k.1 klast.1 ‹fcmpV .leq .f64 (fv (σ 1)) 4703607666558107648 = _›
  rw [klast.2, (floor_le R hf (by omega) (by omega)).1] at l
  right
  refine ⟨rfl, .inr ?_⟩
  rcases Int.lt_or_le 2958465 (flr (fv (σ 0))) with c | c
  · exact c
  · have := l.2 c
    rw [‹bv (σ 3) = !true›] at this; cases this
theorem rday_L1_ok : rday_L1 := by
  intro σ; intros
  intro hf
  have R := ‹rFloorR _›
  have k := floor_num R hf
  have l := leq_true k.1 klast.1 ‹fcmpV .leq .f64 (fv (σ 1)) 4703607666558107648 = _›
  rw [klast.2, (floor_le R hf (by omega) (by omega)).1] at l
  have l2 := l.1 ‹bv (σ 3) = !false›
  have o := ‹ford (fv (σ 1)) 13917577167450931200 = some .gt ∨ _›
  rw [ford_gt k.1 kfirst.1, ford_eq k.1 kfirst.1, kfirst.2] at o
  have o2 : -693593 ≤ flr (fv (σ 0)) := (floor_le R hf (by omega) (by omega)).2.1 (by omega)
  left
  have nb := small_not_big (n := flr (fv (σ 0))) rfl (by omega) (by omega)
  have e := k.2.1 nb
  refine ⟨rfl, f2i_iv ‹(∃ n, _ ∧ _) ∨ _› k.1 (by rw [e]; exact tdiv_KK _) (by omega) (by omega), o2, l2⟩
theorem rday_L2_ok : rday_L2 := by
  intro σ; intros
  intro hf
  have R := ‹rFloorR _›
  have k := floor_num R hf
  have o := ‹ford (fv (σ 1)) 13917577167450931200 ≠ some .gt ∧ _›
  rw [Ne, ford_gt k.1 kfirst.1, Ne, ford_eq k.1 kfirst.1, kfirst.2] at o
  right
  refine ⟨rfl, .inl ?_⟩
  rcases Int.lt_or_le (flr (fv (σ 0))) (-693593) with c | c
  · exact c
  · have := (floor_le R hf (n := -693593) (by omega) (by omega)).2.2 c
    omega
theorem rday_ok {cond : World → Prop} (hs : Keeps cond) : rdayC.ok Tryz.prog cond :=
  by_tie rday_tie (by kernel_rfl) hs (all_cons (rFloor_ok hs) all_nil) ⟨rday_L0_ok, rday_L1_ok, rday_L2_ok, trivial⟩


def rTo_L0 : Prop := ∀ σ : Nat → Value,
    (σ 0 = .float .f64 (fv (σ 0))) →
    (σ 1 = .float .f64 (fv (σ 1))) →
    (σ 2 = .bool (bv (σ 2))) →
    ((farV .sub .f64 (fv (σ 0)) (fv (σ 0)) = some (some (fv (σ 1))) ∨ (farV .sub .f64 (fv (σ 0)) (fv (σ 0)) = some none ∧ Nan64 (fv (σ 1))))) →
    (fcmpV .eql .f64 (fv (σ 1)) (0) = some (.bool (bv (σ 2)))) →
    (bv (σ 2) = !true) →
    toR [σ 0, (Value.int .i64 0), (Value.int .i64 0), (Value.int .i64 0), (Value.int .i64 80)]

def rTo_L1 : Prop := ∀ σ : Nat → Value,
    (σ 0 = .float .f64 (fv (σ 0))) →
    (σ 1 = .float .f64 (fv (σ 1))) →
    (σ 2 = .bool (bv (σ 2))) →
    (σ 4 = .int .i64 (iv (σ 4))) →
    (σ 5 = .bool (bv (σ 5))) →
    ((farV .sub .f64 (fv (σ 0)) (fv (σ 0)) = some (some (fv (σ 1))) ∨ (farV .sub .f64 (fv (σ 0)) (fv (σ 0)) = some none ∧ Nan64 (fv (σ 1))))) →
    (fcmpV .eql .f64 (fv (σ 1)) (0) = some (.bool (bv (σ 2)))) →
    (rdayR [σ 0, σ 4, σ 5]) →
    (bv (σ 5) = !true) →
    (bv (σ 2) = !false) →
    toR [σ 0, (Value.int .i64 0), (Value.int .i64 0), (Value.int .i64 0), (Value.int .i64 81)]

def rTo_L2 : Prop := ∀ σ : Nat → Value,
    (σ 0 = .float .f64 (fv (σ 0))) →
    (σ 1 = .float .f64 (fv (σ 1))) →
    (σ 2 = .bool (bv (σ 2))) →
    (σ 4 = .int .i64 (iv (σ 4))) →
    (σ 5 = .bool (bv (σ 5))) →
    (σ 7 = .int .i64 (iv (σ 7))) →
    (σ 8 = .int .i64 (iv (σ 8))) →
    (σ 9 = .int .i64 (iv (σ 9))) →
    ((farV .sub .f64 (fv (σ 0)) (fv (σ 0)) = some (some (fv (σ 1))) ∨ (farV .sub .f64 (fv (σ 0)) (fv (σ 0)) = some none ∧ Nan64 (fv (σ 1))))) →
    (fcmpV .eql .f64 (fv (σ 1)) (0) = some (.bool (bv (σ 2)))) →
    (rdayR [σ 0, σ 4, σ 5]) →
    (rdateR [σ 4, σ 7, σ 8, σ 9]) →
    (bv (σ 5) = !false) →
    (bv (σ 2) = !false) →
    toR [σ 0, σ 7, σ 8, σ 9, (Value.int .i64 0)]

def rTo_L3 : Prop := ∀ σ : Nat → Value,
    (σ 0 = .float .f64 (fv (σ 0))) →
    (σ 1 = .float .f64 (fv (σ 1))) →
    (σ 2 = .bool (bv (σ 2))) →
    (σ 4 = .int .i64 (iv (σ 4))) →
    (σ 5 = .bool (bv (σ 5))) →
    ((farV .sub .f64 (fv (σ 0)) (fv (σ 0)) = some (some (fv (σ 1))) ∨ (farV .sub .f64 (fv (σ 0)) (fv (σ 0)) = some none ∧ Nan64 (fv (σ 1))))) →
    (fcmpV .eql .f64 (fv (σ 1)) (0) = some (.bool (bv (σ 2)))) →
    (rdayR [σ 0, σ 4, σ 5]) →
    (¬ rdateRPre [σ 4]) →
    (bv (σ 5) = !false) →
    (bv (σ 2) = !false) →
    False

theorem rTo_tie : rToC.goals (cfgC Tryz.prog (entersOf Tryz.prog) X [rdayC, rdateC]) [] 2000 = (rTo_L0 ∧ rTo_L1 ∧ rTo_L2 ∧ rTo_L3 ∧ True) := by kernel_rfl
theorem rTo_ok {cond : World → Prop} (hs : Keeps cond) : rToC.ok Tryz.prog cond := by
  refine by_tie rTo_tie (by kernel_rfl) hs (all_cons (rday_ok hs) (all_cons (rdate_ok hs) all_nil)) ⟨?_, ?_, ?_, ?_, trivial⟩
  · intro σ; intros
    have q := sub_self_test ‹farV .sub .f64 (fv (σ 0)) (fv (σ 0)) = some (some (fv (σ 1))) ∨ _› ‹fcmpV .eql .f64 (fv (σ 1)) 0 = _›
    left
    refine ⟨fun h => ?_, rfl, rfl, rfl, rfl⟩
    have := q.2 h
    rw [‹bv (σ 2) = !true›] at this; cases this
  · intro σ; intros
    have q := (sub_self_test ‹farV .sub .f64 (fv (σ 0)) (fv (σ 0)) = some (some (fv (σ 1))) ∨ _› ‹fcmpV .eql .f64 (fv (σ 1)) 0 = _›).1 ‹bv (σ 2) = !false›
    have d := ‹rdayR [σ 0, σ 4, σ 5]› q
    rw [‹bv (σ 5) = !true›] at d
    rcases d with ⟨h, _⟩ | ⟨_, h⟩
    · cases h
    · exact .inr (.inl ⟨⟨q, h⟩, rfl, rfl, rfl, rfl⟩)
  · intro σ; intros
    have q := (sub_self_test ‹farV .sub .f64 (fv (σ 0)) (fv (σ 0)) = some (some (fv (σ 1))) ∨ _› ‹fcmpV .eql .f64 (fv (σ 1)) 0 = _›).1 ‹bv (σ 2) = !false›
    have d := ‹rdayR [σ 0, σ 4, σ 5]› q
    rw [‹bv (σ 5) = !false›] at d
    rcases d with ⟨_, h, _⟩ | ⟨h, _⟩
    · have e := ‹rdateR _›
      simp only [rdateR] at e
      rw [h] at e
      exact .inr (.inr ⟨q, rfl, e⟩)
    · cases h
  · intro σ; intros
    have q := (sub_self_test ‹farV .sub .f64 (fv (σ 0)) (fv (σ 0)) = some (some (fv (σ 1))) ∨ _› ‹fcmpV .eql .f64 (fv (σ 1)) 0 = _›).1 ‹bv (σ 2) = !false›
    have d := ‹rdayR [σ 0, σ 4, σ 5]› q
    have e := ‹¬ rdateRPre _›
    simp only [rdateRPre] at e
    rw [‹bv (σ 5) = !false›] at d
    rcases d with ⟨_, h, _⟩ | ⟨h, _⟩
    · omega
    · cases h


def rWd_L0 : Prop := ∀ σ : Nat → Value,
    (σ 0 = .float .f64 (fv (σ 0))) →
    (σ 1 = .float .f64 (fv (σ 1))) →
    (σ 2 = .bool (bv (σ 2))) →
    ((farV .sub .f64 (fv (σ 0)) (fv (σ 0)) = some (some (fv (σ 1))) ∨ (farV .sub .f64 (fv (σ 0)) (fv (σ 0)) = some none ∧ Nan64 (fv (σ 1))))) →
    (fcmpV .eql .f64 (fv (σ 1)) (0) = some (.bool (bv (σ 2)))) →
    (bv (σ 2) = !true) →
    wdR [σ 0, (Value.int .i64 0), (Value.int .i64 80)]

def rWd_L1 : Prop := ∀ σ : Nat → Value,
    (σ 0 = .float .f64 (fv (σ 0))) →
    (σ 1 = .float .f64 (fv (σ 1))) →
    (σ 2 = .bool (bv (σ 2))) →
    (σ 4 = .int .i64 (iv (σ 4))) →
    (σ 5 = .bool (bv (σ 5))) →
    ((farV .sub .f64 (fv (σ 0)) (fv (σ 0)) = some (some (fv (σ 1))) ∨ (farV .sub .f64 (fv (σ 0)) (fv (σ 0)) = some none ∧ Nan64 (fv (σ 1))))) →
    (fcmpV .eql .f64 (fv (σ 1)) (0) = some (.bool (bv (σ 2)))) →
    (rdayR [σ 0, σ 4, σ 5]) →
    (bv (σ 5) = !true) →
    (bv (σ 2) = !false) →
    wdR [σ 0, (Value.int .i64 0), (Value.int .i64 81)]

def rWd_L2 : Prop := ∀ σ : Nat → Value,
    (σ 0 = .float .f64 (fv (σ 0))) →
    (σ 1 = .float .f64 (fv (σ 1))) →
    (σ 2 = .bool (bv (σ 2))) →
    (σ 4 = .int .i64 (iv (σ 4))) →
    (σ 5 = .bool (bv (σ 5))) →
    (σ 7 = .int .i64 (iv (σ 7))) →
    (σ 8 = .int .i64 (iv (σ 8))) →
    (σ 9 = .int .i64 (iv (σ 9))) →
    (σ 10 = .int .i64 (iv (σ 10))) →
    (σ 11 = .int .i64 (iv (σ 11))) →
    ((farV .sub .f64 (fv (σ 0)) (fv (σ 0)) = some (some (fv (σ 1))) ∨ (farV .sub .f64 (fv (σ 0)) (fv (σ 0)) = some none ∧ Nan64 (fv (σ 1))))) →
    (fcmpV .eql .f64 (fv (σ 1)) (0) = some (.bool (bv (σ 2)))) →
    (rdayR [σ 0, σ 4, σ 5]) →
    (iv (σ 7) = IntKind.i64.wrap (iv (σ 4) - 1)) →
    (iv (σ 8) = (iv (σ 7) : Int).tmod (7)) →
    (iv (σ 9) = IntKind.i64.wrap (iv (σ 8) + 7)) →
    (iv (σ 10) = (iv (σ 9) : Int).tmod (7)) →
    (iv (σ 11) = IntKind.i64.wrap (iv (σ 10) + 1)) →
    (bv (σ 5) = !false) →
    (bv (σ 2) = !false) →
    wdR [σ 0, σ 11, (Value.int .i64 0)]

theorem rWd_tie : rWdC.goals (cfgC Tryz.prog (entersOf Tryz.prog) X [rdayC]) [] 2000 = (rWd_L0 ∧ rWd_L1 ∧ rWd_L2 ∧ True) := by kernel_rfl
theorem week7 {n a b c d e : Int} (h1 : -693593 ≤ n) (h2 : n ≤ 2958465) (ha : a = IntKind.i64.wrap (n - 1)) (hb : b = a.tmod 7) (hc : c = IntKind.i64.wrap (b + 7)) (hd : d = c.tmod 7) (he : e = IntKind.i64.wrap (d + 1)) : e = (n + 693594) % 7 + 1 := by
  rw [IntWalk.i64_in _ (by omega)] at ha
  have k1 := Int.mul_tdiv_add_tmod a 7
  have k2 := Int.tmod_lt_of_pos a (b := 7) (by omega)
  have k3 := Int.lt_tmod_of_pos a (b := 7) (by omega)
  rw [← hb] at k1 k2 k3
  rw [IntWalk.i64_in _ (by omega)] at hc
  rw [tmod_nn (by omega)] at hd
  rw [IntWalk.i64_in _ (by omega)] at he
  omega
theorem rWd_ok {cond : World → Prop} (hs : Keeps cond) : rWdC.ok Tryz.prog cond := by
  refine by_tie rWd_tie (by kernel_rfl) hs (all_cons (rday_ok hs) all_nil) ⟨?_, ?_, ?_, trivial⟩
  · intro σ; intros
    have q := sub_self_test ‹farV .sub .f64 (fv (σ 0)) (fv (σ 0)) = some (some (fv (σ 1))) ∨ _› ‹fcmpV .eql .f64 (fv (σ 1)) 0 = _›
    left
    refine ⟨fun h => ?_, rfl, rfl⟩
    have := q.2 h
    rw [‹bv (σ 2) = !true›] at this; cases this
  · intro σ; intros
    have q := (sub_self_test ‹farV .sub .f64 (fv (σ 0)) (fv (σ 0)) = some (some (fv (σ 1))) ∨ _› ‹fcmpV .eql .f64 (fv (σ 1)) 0 = _›).1 ‹bv (σ 2) = !false›
    have d := ‹rdayR [σ 0, σ 4, σ 5]› q
    rw [‹bv (σ 5) = !true›] at d
    rcases d with ⟨h, _⟩ | ⟨_, h⟩
    · cases h
    · exact .inr (.inl ⟨⟨q, h⟩, rfl, rfl⟩)
  · intro σ; intros
    have q := (sub_self_test ‹farV .sub .f64 (fv (σ 0)) (fv (σ 0)) = some (some (fv (σ 1))) ∨ _› ‹fcmpV .eql .f64 (fv (σ 1)) 0 = _›).1 ‹bv (σ 2) = !false›
    have d := ‹rdayR [σ 0, σ 4, σ 5]› q
    rw [‹bv (σ 5) = !false›] at d
    rcases d with ⟨_, h, h1, h2⟩ | ⟨h, _⟩
    · refine .inr (.inr ⟨⟨q, h1, h2⟩, rfl, ?_⟩)
      have w := ‹iv (σ 7) = _›
      rw [h] at w
      exact week7 h1 h2 w ‹iv (σ 8) = _› ‹iv (σ 9) = _› ‹iv (σ 10) = _› ‹iv (σ 11) = _›
    · cases h

end Go.Proofs.Num

namespace Go.Proofs.Num
open Go.Ev Go.Dates Go.RowKit
set_option maxRecDepth 1000000
/-- The seconds are within the days that there are. -/
def inT (t : Int) : Prop := -59926435200 ≤ t ∧ t < 255611462400
def clockR : List Value → Prop
  | [x, n, h, i, s, e] =>
    (¬ Fin64 (fv x) ∧ iv e = 80 ∧ iv n = 0 ∧ iv h = 0 ∧ iv i = 0 ∧ iv s = 0) ∨
    (Fin64 (fv x) ∧ iv e = 81 ∧ (∀ w, clk (fv x) = some w → Fin64 w → ¬ inT (flr w)) ∧ iv n = 0 ∧ iv h = 0 ∧ iv i = 0 ∧ iv s = 0) ∨
    (Fin64 (fv x) ∧ iv e = 0 ∧ ∃ w, clk (fv x) = some w ∧ Fin64 w ∧ inT (flr w) ∧ iv n = flr w / 86400 ∧ iv h = flr w % 86400 / 3600 ∧ iv i = flr w % 86400 / 60 % 60 ∧ iv s = flr w % 86400 % 60)
  | _ => False
def clockC : Con := { f := 14, ins := [f64S], out := .tup [i64S, i64S, i64S, i64S, i64S], id := "clockR", rel := clockR }
def rClockC : Con := { f := 15, ins := [f64S], out := .tup [i64S, i64S, i64S, i64S, i64S], id := "clockR", rel := clockR }
theorem day_of {t a b : Int} (h1 : -9000000000000 ≤ t) (h2 : t ≤ 9000000000000) (ha : a = IntKind.i64.wrap (t.tdiv 86400)) (hb : b = t.tmod 86400) :
    (b < 0 → a - 1 = t / 86400) ∧ (0 ≤ b → a = t / 86400) ∧ -200000000 ≤ a ∧ a ≤ 200000000 := by
  have k1 := Int.mul_tdiv_add_tmod t 86400
  have k2 := Int.tmod_lt_of_pos t (b := 86400) (by omega)
  have k3 := Int.lt_tmod_of_pos t (b := 86400) (by omega)
  rw [← hb] at k1 k2 k3
  rw [IntWalk.i64_in _ (by omega)] at ha
  omega
/-- Hours, minutes, seconds. -/
theorem parts_of {t d p q h m i s : Int} (h1 : -9000000000000 ≤ t) (h2 : t ≤ 9000000000000) (hd : d = t / 86400) (hp : p = IntKind.i64.wrap (d * 86400)) (hq : q = IntKind.i64.wrap (t - p)) (hh : h = IntKind.i64.wrap (q.tdiv 3600)) (hm : m = IntKind.i64.wrap (q.tdiv 60)) (hi : i = m.tmod 60) (hs : s = q.tmod 60) :
    h = t % 86400 / 3600 ∧ i = t % 86400 / 60 % 60 ∧ s = t % 86400 % 60 := by
  rw [IntWalk.i64_in _ (by omega)] at hp
  rw [IntWalk.i64_in _ (by omega)] at hq
  have e : q = t % 86400 := by omega
  rw [e] at hh hm hs
  rw [tdiv_nn (by omega), IntWalk.i64_in _ (by omega)] at hh hm
  rw [tmod_nn (by omega)] at hi hs
  subst hm
  exact ⟨hh, hi, hs⟩
theorem inT_day {t : Int} : inT t ↔ (0 ≤ t / 86400 + 693593 ∧ t / 86400 + 693593 ≤ 3652058) := by unfold inT; omega

def clock_L0 : Prop := ∀ σ : Nat → Value,
    (σ 0 = .float .f64 (fv (σ 0))) →
    (σ 1 = .bool (bv (σ 1))) →
    (σ 3 = .int .u64 (iv (σ 3))) →
    (σ 4 = .int .u64 (iv (σ 4))) →
    (σ 5 = .float .f64 (fv (σ 5))) →
    (σ 6 = .bool (bv (σ 6))) →
    (σ 7 = .bool (bv (σ 7))) →
    (fcmpV .neq .f64 (fv (σ 0)) (fv (σ 0)) = some (.bool (bv (σ 1)))) →
    (extRel .fbits [σ 0] (σ 3)) →
    (ibin .andNot IntKind.u64 (iv (σ 3)) (9223372036854775808) = some (.int IntKind.u64 (iv (σ 4)))) →
    (extRel .ffrom [σ 4] (σ 5)) →
    (fcmpV .gtr .f64 (fv (σ 5)) (9218868437227405311) = some (.bool (bv (σ 6)))) →
    (bv (σ 7) = !(bv (σ 6))) →
    (bv (σ 7) = !true) →
    (bv (σ 1) = !true) →
    clockR [σ 0, (Value.int .i64 0), (Value.int .i64 0), (Value.int .i64 0), (Value.int .i64 0), (Value.int .i64 80)]

def clock_L1 : Prop := ∀ σ : Nat → Value,
    (σ 0 = .float .f64 (fv (σ 0))) →
    (σ 1 = .bool (bv (σ 1))) →
    (σ 3 = .int .u64 (iv (σ 3))) →
    (σ 4 = .int .u64 (iv (σ 4))) →
    (σ 5 = .float .f64 (fv (σ 5))) →
    (σ 6 = .bool (bv (σ 6))) →
    (σ 7 = .bool (bv (σ 7))) →
    (σ 9 = .int .u64 (iv (σ 9))) →
    (σ 10 = .int .u64 (iv (σ 10))) →
    (σ 11 = .float .f64 (fv (σ 11))) →
    (fcmpV .neq .f64 (fv (σ 0)) (fv (σ 0)) = some (.bool (bv (σ 1)))) →
    (extRel .fbits [σ 0] (σ 3)) →
    (ibin .andNot IntKind.u64 (iv (σ 3)) (9223372036854775808) = some (.int IntKind.u64 (iv (σ 4)))) →
    (extRel .ffrom [σ 4] (σ 5)) →
    (fcmpV .gtr .f64 (fv (σ 5)) (9218868437227405311) = some (.bool (bv (σ 6)))) →
    (bv (σ 7) = !(bv (σ 6))) →
    (extRel .fbits [σ 0] (σ 9)) →
    (ibin .andNot IntKind.u64 (iv (σ 9)) (9223372036854775808) = some (.int IntKind.u64 (iv (σ 10)))) →
    (extRel .ffrom [σ 10] (σ 11)) →
    (ford (fv (σ 11)) (4726483295884279808) = some .gt) →
    (bv (σ 7) = !false) →
    (bv (σ 1) = !true) →
    clockR [σ 0, (Value.int .i64 0), (Value.int .i64 0), (Value.int .i64 0), (Value.int .i64 0), (Value.int .i64 81)]

def clock_L2 : Prop := ∀ σ : Nat → Value,
    (σ 0 = .float .f64 (fv (σ 0))) →
    (σ 1 = .bool (bv (σ 1))) →
    (σ 3 = .int .u64 (iv (σ 3))) →
    (σ 4 = .int .u64 (iv (σ 4))) →
    (σ 5 = .float .f64 (fv (σ 5))) →
    (σ 6 = .bool (bv (σ 6))) →
    (σ 7 = .bool (bv (σ 7))) →
    (σ 9 = .int .u64 (iv (σ 9))) →
    (σ 10 = .int .u64 (iv (σ 10))) →
    (σ 11 = .float .f64 (fv (σ 11))) →
    (σ 13 = .float .f64 (fv (σ 13))) →
    (σ 14 = .float .f64 (fv (σ 14))) →
    (σ 15 = .float .f64 (fv (σ 15))) →
    (σ 16 = .int .i64 (iv (σ 16))) →
    (σ 17 = .int .i64 (iv (σ 17))) →
    (σ 18 = .int .i64 (iv (σ 18))) →
    (σ 20 = .int .i64 (iv (σ 20))) →
    (σ 21 = .int .i64 (iv (σ 21))) →
    (σ 22 = .int .i64 (iv (σ 22))) →
    (σ 23 = .int .i64 (iv (σ 23))) →
    (σ 24 = .bool (bv (σ 24))) →
    (fcmpV .neq .f64 (fv (σ 0)) (fv (σ 0)) = some (.bool (bv (σ 1)))) →
    (extRel .fbits [σ 0] (σ 3)) →
    (ibin .andNot IntKind.u64 (iv (σ 3)) (9223372036854775808) = some (.int IntKind.u64 (iv (σ 4)))) →
    (extRel .ffrom [σ 4] (σ 5)) →
    (fcmpV .gtr .f64 (fv (σ 5)) (9218868437227405311) = some (.bool (bv (σ 6)))) →
    (bv (σ 7) = !(bv (σ 6))) →
    (extRel .fbits [σ 0] (σ 9)) →
    (ibin .andNot IntKind.u64 (iv (σ 9)) (9223372036854775808) = some (.int IntKind.u64 (iv (σ 10)))) →
    (extRel .ffrom [σ 10] (σ 11)) →
    ((farV .mul .f64 (fv (σ 0)) (4680673776000565248) = some (some (fv (σ 13))) ∨ (farV .mul .f64 (fv (σ 0)) (4680673776000565248) = some none ∧ Nan64 (fv (σ 13))))) →
    ((farV .add .f64 (fv (σ 13)) (4602678819172646912) = some (some (fv (σ 14))) ∨ (farV .add .f64 (fv (σ 13)) (4602678819172646912) = some none ∧ Nan64 (fv (σ 14))))) →
    (extRel .floor [σ 14] (σ 15)) →
    (((∃ n, (FloatKind.f64.decode (fv (σ 15))).toInt .zero = some n ∧ IntKind.i64.min ≤ n ∧ n ≤ IntKind.i64.max ∧ iv (σ 16) = n) ∨ (∀ n, (FloatKind.f64.decode (fv (σ 15))).toInt .zero = some n → ¬ (IntKind.i64.min ≤ n ∧ n ≤ IntKind.i64.max)))) →
    (iv (σ 17) = IntKind.i64.wrap ((iv (σ 16)).tdiv (86400))) →
    (iv (σ 18) = (iv (σ 16) : Int).tmod (86400)) →
    (iv (σ 20) = IntKind.i64.wrap (iv (σ 17) - 1)) →
    (dateR [σ 20, σ 21, σ 22, σ 23, σ 24]) →
    (bv (σ 24) = !true) →
    (iv (σ 18) < 0) →
    (ford (fv (σ 11)) (4726483295884279808) ≠ some .gt) →
    (bv (σ 7) = !false) →
    (bv (σ 1) = !true) →
    clockR [σ 0, (Value.int .i64 0), (Value.int .i64 0), (Value.int .i64 0), (Value.int .i64 0), (Value.int .i64 81)]

def clock_L3 : Prop := ∀ σ : Nat → Value,
    (σ 0 = .float .f64 (fv (σ 0))) →
    (σ 1 = .bool (bv (σ 1))) →
    (σ 3 = .int .u64 (iv (σ 3))) →
    (σ 4 = .int .u64 (iv (σ 4))) →
    (σ 5 = .float .f64 (fv (σ 5))) →
    (σ 6 = .bool (bv (σ 6))) →
    (σ 7 = .bool (bv (σ 7))) →
    (σ 9 = .int .u64 (iv (σ 9))) →
    (σ 10 = .int .u64 (iv (σ 10))) →
    (σ 11 = .float .f64 (fv (σ 11))) →
    (σ 13 = .float .f64 (fv (σ 13))) →
    (σ 14 = .float .f64 (fv (σ 14))) →
    (σ 15 = .float .f64 (fv (σ 15))) →
    (σ 16 = .int .i64 (iv (σ 16))) →
    (σ 17 = .int .i64 (iv (σ 17))) →
    (σ 18 = .int .i64 (iv (σ 18))) →
    (σ 20 = .int .i64 (iv (σ 20))) →
    (σ 21 = .int .i64 (iv (σ 21))) →
    (σ 22 = .int .i64 (iv (σ 22))) →
    (σ 23 = .int .i64 (iv (σ 23))) →
    (σ 24 = .bool (bv (σ 24))) →
    (σ 26 = .int .i64 (iv (σ 26))) →
    (σ 27 = .int .i64 (iv (σ 27))) →
    (σ 28 = .int .i64 (iv (σ 28))) →
    (σ 29 = .int .i64 (iv (σ 29))) →
    (σ 30 = .int .i64 (iv (σ 30))) →
    (σ 31 = .int .i64 (iv (σ 31))) →
    (fcmpV .neq .f64 (fv (σ 0)) (fv (σ 0)) = some (.bool (bv (σ 1)))) →
    (extRel .fbits [σ 0] (σ 3)) →
    (ibin .andNot IntKind.u64 (iv (σ 3)) (9223372036854775808) = some (.int IntKind.u64 (iv (σ 4)))) →
    (extRel .ffrom [σ 4] (σ 5)) →
    (fcmpV .gtr .f64 (fv (σ 5)) (9218868437227405311) = some (.bool (bv (σ 6)))) →
    (bv (σ 7) = !(bv (σ 6))) →
    (extRel .fbits [σ 0] (σ 9)) →
    (ibin .andNot IntKind.u64 (iv (σ 9)) (9223372036854775808) = some (.int IntKind.u64 (iv (σ 10)))) →
    (extRel .ffrom [σ 10] (σ 11)) →
    ((farV .mul .f64 (fv (σ 0)) (4680673776000565248) = some (some (fv (σ 13))) ∨ (farV .mul .f64 (fv (σ 0)) (4680673776000565248) = some none ∧ Nan64 (fv (σ 13))))) →
    ((farV .add .f64 (fv (σ 13)) (4602678819172646912) = some (some (fv (σ 14))) ∨ (farV .add .f64 (fv (σ 13)) (4602678819172646912) = some none ∧ Nan64 (fv (σ 14))))) →
    (extRel .floor [σ 14] (σ 15)) →
    (((∃ n, (FloatKind.f64.decode (fv (σ 15))).toInt .zero = some n ∧ IntKind.i64.min ≤ n ∧ n ≤ IntKind.i64.max ∧ iv (σ 16) = n) ∨ (∀ n, (FloatKind.f64.decode (fv (σ 15))).toInt .zero = some n → ¬ (IntKind.i64.min ≤ n ∧ n ≤ IntKind.i64.max)))) →
    (iv (σ 17) = IntKind.i64.wrap ((iv (σ 16)).tdiv (86400))) →
    (iv (σ 18) = (iv (σ 16) : Int).tmod (86400)) →
    (iv (σ 20) = IntKind.i64.wrap (iv (σ 17) - 1)) →
    (dateR [σ 20, σ 21, σ 22, σ 23, σ 24]) →
    (iv (σ 26) = IntKind.i64.wrap (iv (σ 20) * 86400)) →
    (iv (σ 27) = IntKind.i64.wrap (iv (σ 16) - iv (σ 26))) →
    (iv (σ 28) = IntKind.i64.wrap ((iv (σ 27)).tdiv (3600))) →
    (iv (σ 29) = IntKind.i64.wrap ((iv (σ 27)).tdiv (60))) →
    (iv (σ 30) = (iv (σ 29) : Int).tmod (60)) →
    (iv (σ 31) = (iv (σ 27) : Int).tmod (60)) →
    (bv (σ 24) = !false) →
    (iv (σ 18) < 0) →
    (ford (fv (σ 11)) (4726483295884279808) ≠ some .gt) →
    (bv (σ 7) = !false) →
    (bv (σ 1) = !true) →
    clockR [σ 0, σ 20, σ 28, σ 30, σ 31, (Value.int .i64 0)]

def clock_L4 : Prop := ∀ σ : Nat → Value,
    (σ 0 = .float .f64 (fv (σ 0))) →
    (σ 1 = .bool (bv (σ 1))) →
    (σ 3 = .int .u64 (iv (σ 3))) →
    (σ 4 = .int .u64 (iv (σ 4))) →
    (σ 5 = .float .f64 (fv (σ 5))) →
    (σ 6 = .bool (bv (σ 6))) →
    (σ 7 = .bool (bv (σ 7))) →
    (σ 9 = .int .u64 (iv (σ 9))) →
    (σ 10 = .int .u64 (iv (σ 10))) →
    (σ 11 = .float .f64 (fv (σ 11))) →
    (σ 13 = .float .f64 (fv (σ 13))) →
    (σ 14 = .float .f64 (fv (σ 14))) →
    (σ 15 = .float .f64 (fv (σ 15))) →
    (σ 16 = .int .i64 (iv (σ 16))) →
    (σ 17 = .int .i64 (iv (σ 17))) →
    (σ 18 = .int .i64 (iv (σ 18))) →
    (σ 20 = .int .i64 (iv (σ 20))) →
    (fcmpV .neq .f64 (fv (σ 0)) (fv (σ 0)) = some (.bool (bv (σ 1)))) →
    (extRel .fbits [σ 0] (σ 3)) →
    (ibin .andNot IntKind.u64 (iv (σ 3)) (9223372036854775808) = some (.int IntKind.u64 (iv (σ 4)))) →
    (extRel .ffrom [σ 4] (σ 5)) →
    (fcmpV .gtr .f64 (fv (σ 5)) (9218868437227405311) = some (.bool (bv (σ 6)))) →
    (bv (σ 7) = !(bv (σ 6))) →
    (extRel .fbits [σ 0] (σ 9)) →
    (ibin .andNot IntKind.u64 (iv (σ 9)) (9223372036854775808) = some (.int IntKind.u64 (iv (σ 10)))) →
    (extRel .ffrom [σ 10] (σ 11)) →
    ((farV .mul .f64 (fv (σ 0)) (4680673776000565248) = some (some (fv (σ 13))) ∨ (farV .mul .f64 (fv (σ 0)) (4680673776000565248) = some none ∧ Nan64 (fv (σ 13))))) →
    ((farV .add .f64 (fv (σ 13)) (4602678819172646912) = some (some (fv (σ 14))) ∨ (farV .add .f64 (fv (σ 13)) (4602678819172646912) = some none ∧ Nan64 (fv (σ 14))))) →
    (extRel .floor [σ 14] (σ 15)) →
    (((∃ n, (FloatKind.f64.decode (fv (σ 15))).toInt .zero = some n ∧ IntKind.i64.min ≤ n ∧ n ≤ IntKind.i64.max ∧ iv (σ 16) = n) ∨ (∀ n, (FloatKind.f64.decode (fv (σ 15))).toInt .zero = some n → ¬ (IntKind.i64.min ≤ n ∧ n ≤ IntKind.i64.max)))) →
    (iv (σ 17) = IntKind.i64.wrap ((iv (σ 16)).tdiv (86400))) →
    (iv (σ 18) = (iv (σ 16) : Int).tmod (86400)) →
    (iv (σ 20) = IntKind.i64.wrap (iv (σ 17) - 1)) →
    (¬ dateRPre [σ 20]) →
    (iv (σ 18) < 0) →
    (ford (fv (σ 11)) (4726483295884279808) ≠ some .gt) →
    (bv (σ 7) = !false) →
    (bv (σ 1) = !true) →
    False

def clock_L5 : Prop := ∀ σ : Nat → Value,
    (σ 0 = .float .f64 (fv (σ 0))) →
    (σ 1 = .bool (bv (σ 1))) →
    (σ 3 = .int .u64 (iv (σ 3))) →
    (σ 4 = .int .u64 (iv (σ 4))) →
    (σ 5 = .float .f64 (fv (σ 5))) →
    (σ 6 = .bool (bv (σ 6))) →
    (σ 7 = .bool (bv (σ 7))) →
    (σ 9 = .int .u64 (iv (σ 9))) →
    (σ 10 = .int .u64 (iv (σ 10))) →
    (σ 11 = .float .f64 (fv (σ 11))) →
    (σ 13 = .float .f64 (fv (σ 13))) →
    (σ 14 = .float .f64 (fv (σ 14))) →
    (σ 15 = .float .f64 (fv (σ 15))) →
    (σ 16 = .int .i64 (iv (σ 16))) →
    (σ 17 = .int .i64 (iv (σ 17))) →
    (σ 18 = .int .i64 (iv (σ 18))) →
    (σ 20 = .int .i64 (iv (σ 20))) →
    (σ 21 = .int .i64 (iv (σ 21))) →
    (σ 22 = .int .i64 (iv (σ 22))) →
    (σ 23 = .bool (bv (σ 23))) →
    (fcmpV .neq .f64 (fv (σ 0)) (fv (σ 0)) = some (.bool (bv (σ 1)))) →
    (extRel .fbits [σ 0] (σ 3)) →
    (ibin .andNot IntKind.u64 (iv (σ 3)) (9223372036854775808) = some (.int IntKind.u64 (iv (σ 4)))) →
    (extRel .ffrom [σ 4] (σ 5)) →
    (fcmpV .gtr .f64 (fv (σ 5)) (9218868437227405311) = some (.bool (bv (σ 6)))) →
    (bv (σ 7) = !(bv (σ 6))) →
    (extRel .fbits [σ 0] (σ 9)) →
    (ibin .andNot IntKind.u64 (iv (σ 9)) (9223372036854775808) = some (.int IntKind.u64 (iv (σ 10)))) →
    (extRel .ffrom [σ 10] (σ 11)) →
    ((farV .mul .f64 (fv (σ 0)) (4680673776000565248) = some (some (fv (σ 13))) ∨ (farV .mul .f64 (fv (σ 0)) (4680673776000565248) = some none ∧ Nan64 (fv (σ 13))))) →
    ((farV .add .f64 (fv (σ 13)) (4602678819172646912) = some (some (fv (σ 14))) ∨ (farV .add .f64 (fv (σ 13)) (4602678819172646912) = some none ∧ Nan64 (fv (σ 14))))) →
    (extRel .floor [σ 14] (σ 15)) →
    (((∃ n, (FloatKind.f64.decode (fv (σ 15))).toInt .zero = some n ∧ IntKind.i64.min ≤ n ∧ n ≤ IntKind.i64.max ∧ iv (σ 16) = n) ∨ (∀ n, (FloatKind.f64.decode (fv (σ 15))).toInt .zero = some n → ¬ (IntKind.i64.min ≤ n ∧ n ≤ IntKind.i64.max)))) →
    (iv (σ 17) = IntKind.i64.wrap ((iv (σ 16)).tdiv (86400))) →
    (iv (σ 18) = (iv (σ 16) : Int).tmod (86400)) →
    (dateR [σ 17, σ 20, σ 21, σ 22, σ 23]) →
    (bv (σ 23) = !true) →
    (0 ≤ iv (σ 18)) →
    (ford (fv (σ 11)) (4726483295884279808) ≠ some .gt) →
    (bv (σ 7) = !false) →
    (bv (σ 1) = !true) →
    clockR [σ 0, (Value.int .i64 0), (Value.int .i64 0), (Value.int .i64 0), (Value.int .i64 0), (Value.int .i64 81)]

def clock_L6 : Prop := ∀ σ : Nat → Value,
    (σ 0 = .float .f64 (fv (σ 0))) →
    (σ 1 = .bool (bv (σ 1))) →
    (σ 3 = .int .u64 (iv (σ 3))) →
    (σ 4 = .int .u64 (iv (σ 4))) →
    (σ 5 = .float .f64 (fv (σ 5))) →
    (σ 6 = .bool (bv (σ 6))) →
    (σ 7 = .bool (bv (σ 7))) →
    (σ 9 = .int .u64 (iv (σ 9))) →
    (σ 10 = .int .u64 (iv (σ 10))) →
    (σ 11 = .float .f64 (fv (σ 11))) →
    (σ 13 = .float .f64 (fv (σ 13))) →
    (σ 14 = .float .f64 (fv (σ 14))) →
    (σ 15 = .float .f64 (fv (σ 15))) →
    (σ 16 = .int .i64 (iv (σ 16))) →
    (σ 17 = .int .i64 (iv (σ 17))) →
    (σ 18 = .int .i64 (iv (σ 18))) →
    (σ 20 = .int .i64 (iv (σ 20))) →
    (σ 21 = .int .i64 (iv (σ 21))) →
    (σ 22 = .int .i64 (iv (σ 22))) →
    (σ 23 = .bool (bv (σ 23))) →
    (σ 25 = .int .i64 (iv (σ 25))) →
    (σ 26 = .int .i64 (iv (σ 26))) →
    (σ 27 = .int .i64 (iv (σ 27))) →
    (σ 28 = .int .i64 (iv (σ 28))) →
    (σ 29 = .int .i64 (iv (σ 29))) →
    (σ 30 = .int .i64 (iv (σ 30))) →
    (fcmpV .neq .f64 (fv (σ 0)) (fv (σ 0)) = some (.bool (bv (σ 1)))) →
    (extRel .fbits [σ 0] (σ 3)) →
    (ibin .andNot IntKind.u64 (iv (σ 3)) (9223372036854775808) = some (.int IntKind.u64 (iv (σ 4)))) →
    (extRel .ffrom [σ 4] (σ 5)) →
    (fcmpV .gtr .f64 (fv (σ 5)) (9218868437227405311) = some (.bool (bv (σ 6)))) →
    (bv (σ 7) = !(bv (σ 6))) →
    (extRel .fbits [σ 0] (σ 9)) →
    (ibin .andNot IntKind.u64 (iv (σ 9)) (9223372036854775808) = some (.int IntKind.u64 (iv (σ 10)))) →
    (extRel .ffrom [σ 10] (σ 11)) →
    ((farV .mul .f64 (fv (σ 0)) (4680673776000565248) = some (some (fv (σ 13))) ∨ (farV .mul .f64 (fv (σ 0)) (4680673776000565248) = some none ∧ Nan64 (fv (σ 13))))) →
    ((farV .add .f64 (fv (σ 13)) (4602678819172646912) = some (some (fv (σ 14))) ∨ (farV .add .f64 (fv (σ 13)) (4602678819172646912) = some none ∧ Nan64 (fv (σ 14))))) →
    (extRel .floor [σ 14] (σ 15)) →
    (((∃ n, (FloatKind.f64.decode (fv (σ 15))).toInt .zero = some n ∧ IntKind.i64.min ≤ n ∧ n ≤ IntKind.i64.max ∧ iv (σ 16) = n) ∨ (∀ n, (FloatKind.f64.decode (fv (σ 15))).toInt .zero = some n → ¬ (IntKind.i64.min ≤ n ∧ n ≤ IntKind.i64.max)))) →
    (iv (σ 17) = IntKind.i64.wrap ((iv (σ 16)).tdiv (86400))) →
    (iv (σ 18) = (iv (σ 16) : Int).tmod (86400)) →
    (dateR [σ 17, σ 20, σ 21, σ 22, σ 23]) →
    (iv (σ 25) = IntKind.i64.wrap (iv (σ 17) * 86400)) →
    (iv (σ 26) = IntKind.i64.wrap (iv (σ 16) - iv (σ 25))) →
    (iv (σ 27) = IntKind.i64.wrap ((iv (σ 26)).tdiv (3600))) →
    (iv (σ 28) = IntKind.i64.wrap ((iv (σ 26)).tdiv (60))) →
    (iv (σ 29) = (iv (σ 28) : Int).tmod (60)) →
    (iv (σ 30) = (iv (σ 26) : Int).tmod (60)) →
    (bv (σ 23) = !false) →
    (0 ≤ iv (σ 18)) →
    (ford (fv (σ 11)) (4726483295884279808) ≠ some .gt) →
    (bv (σ 7) = !false) →
    (bv (σ 1) = !true) →
    clockR [σ 0, σ 17, σ 27, σ 29, σ 30, (Value.int .i64 0)]

def clock_L7 : Prop := ∀ σ : Nat → Value,
    (σ 0 = .float .f64 (fv (σ 0))) →
    (σ 1 = .bool (bv (σ 1))) →
    (σ 3 = .int .u64 (iv (σ 3))) →
    (σ 4 = .int .u64 (iv (σ 4))) →
    (σ 5 = .float .f64 (fv (σ 5))) →
    (σ 6 = .bool (bv (σ 6))) →
    (σ 7 = .bool (bv (σ 7))) →
    (σ 9 = .int .u64 (iv (σ 9))) →
    (σ 10 = .int .u64 (iv (σ 10))) →
    (σ 11 = .float .f64 (fv (σ 11))) →
    (σ 13 = .float .f64 (fv (σ 13))) →
    (σ 14 = .float .f64 (fv (σ 14))) →
    (σ 15 = .float .f64 (fv (σ 15))) →
    (σ 16 = .int .i64 (iv (σ 16))) →
    (σ 17 = .int .i64 (iv (σ 17))) →
    (σ 18 = .int .i64 (iv (σ 18))) →
    (fcmpV .neq .f64 (fv (σ 0)) (fv (σ 0)) = some (.bool (bv (σ 1)))) →
    (extRel .fbits [σ 0] (σ 3)) →
    (ibin .andNot IntKind.u64 (iv (σ 3)) (9223372036854775808) = some (.int IntKind.u64 (iv (σ 4)))) →
    (extRel .ffrom [σ 4] (σ 5)) →
    (fcmpV .gtr .f64 (fv (σ 5)) (9218868437227405311) = some (.bool (bv (σ 6)))) →
    (bv (σ 7) = !(bv (σ 6))) →
    (extRel .fbits [σ 0] (σ 9)) →
    (ibin .andNot IntKind.u64 (iv (σ 9)) (9223372036854775808) = some (.int IntKind.u64 (iv (σ 10)))) →
    (extRel .ffrom [σ 10] (σ 11)) →
    ((farV .mul .f64 (fv (σ 0)) (4680673776000565248) = some (some (fv (σ 13))) ∨ (farV .mul .f64 (fv (σ 0)) (4680673776000565248) = some none ∧ Nan64 (fv (σ 13))))) →
    ((farV .add .f64 (fv (σ 13)) (4602678819172646912) = some (some (fv (σ 14))) ∨ (farV .add .f64 (fv (σ 13)) (4602678819172646912) = some none ∧ Nan64 (fv (σ 14))))) →
    (extRel .floor [σ 14] (σ 15)) →
    (((∃ n, (FloatKind.f64.decode (fv (σ 15))).toInt .zero = some n ∧ IntKind.i64.min ≤ n ∧ n ≤ IntKind.i64.max ∧ iv (σ 16) = n) ∨ (∀ n, (FloatKind.f64.decode (fv (σ 15))).toInt .zero = some n → ¬ (IntKind.i64.min ≤ n ∧ n ≤ IntKind.i64.max)))) →
    (iv (σ 17) = IntKind.i64.wrap ((iv (σ 16)).tdiv (86400))) →
    (iv (σ 18) = (iv (σ 16) : Int).tmod (86400)) →
    (¬ dateRPre [σ 17]) →
    (0 ≤ iv (σ 18)) →
    (ford (fv (σ 11)) (4726483295884279808) ≠ some .gt) →
    (bv (σ 7) = !false) →
    (bv (σ 1) = !true) →
    False

def clock_L8 : Prop := ∀ σ : Nat → Value,
    (σ 0 = .float .f64 (fv (σ 0))) →
    (σ 1 = .bool (bv (σ 1))) →
    (fcmpV .neq .f64 (fv (σ 0)) (fv (σ 0)) = some (.bool (bv (σ 1)))) →
    (bv (σ 1) = !false) →
    clockR [σ 0, (Value.int .i64 0), (Value.int .i64 0), (Value.int .i64 0), (Value.int .i64 0), (Value.int .i64 80)]

theorem clock_tie : clockC.goals (cfgC Tryz.prog (entersOf Tryz.prog) X [dateC]) [] 2000 = (clock_L0 ∧ clock_L1 ∧ clock_L2 ∧ clock_L3 ∧ clock_L4 ∧ clock_L5 ∧ clock_L6 ∧ clock_L7 ∧ clock_L8 ∧ True) := by kernel_rfl
theorem clock_L0_ok : clock_L0 := by
  intro σ; intros
  have s0 := ‹σ 0 = .float .f64 (fv (σ 0))›
  have a5 := abs_of s0 ‹extRel .fbits [σ 0] (σ 3)› ‹_› ‹σ 4 = .int .u64 (iv (σ 4))› ‹extRel .ffrom [σ 4] (σ 5)›
  have f := fin_tests ‹_› ‹_› a5 ‹_› ‹_›
  left
  refine ⟨fun h => ?_, rfl, rfl, rfl, rfl, rfl⟩
  have := f.2 h
  rw [‹bv (σ 7) = !true›] at this; cases this
theorem clock_L1_ok : clock_L1 := by
  intro σ; intros
  have s0 := ‹σ 0 = .float .f64 (fv (σ 0))›
  have a5 := abs_of s0 ‹extRel .fbits [σ 0] (σ 3)› ‹_› ‹σ 4 = .int .u64 (iv (σ 4))› ‹extRel .ffrom [σ 4] (σ 5)›
  have f := (fin_tests ‹_› ‹_› a5 ‹_› ‹_›).1 ‹bv (σ 7) = !false›
  have a11 := abs_of s0 ‹extRel .fbits [σ 0] (σ 9)› ‹_› ‹σ 10 = .int .u64 (iv (σ 10))› ‹extRel .ffrom [σ 10] (σ 11)›
  have gt := abs_gt f a11
  right; left
  refine ⟨f, rfl, fun w h1 h2 => ?_, rfl, rfl, rfl, rfl⟩
  have := clk_far f (gt.1 ‹_›) h1 h2
  unfold inT; omega
theorem clock_L2_ok : clock_L2 := by
  intro σ; intros
  have s0 := ‹σ 0 = .float .f64 (fv (σ 0))›
  have a5 := abs_of s0 ‹extRel .fbits [σ 0] (σ 3)› ‹_› ‹σ 4 = .int .u64 (iv (σ 4))› ‹extRel .ffrom [σ 4] (σ 5)›
  have f := (fin_tests ‹_› ‹_› a5 ‹_› ‹_›).1 ‹bv (σ 7) = !false›
  have a11 := abs_of s0 ‹extRel .fbits [σ 0] (σ 9)› ‹_› ‹σ 10 = .int .u64 (iv (σ 10))› ‹extRel .ffrom [σ 10] (σ 11)›
  have gt := abs_gt f a11
  have nr : ¬ (100000000 * KK < sv (fv (σ 0)) ∨ sv (fv (σ 0)) < -(100000000 * KK)) := fun h => ‹ford (fv (σ 11)) (4726483295884279808) ≠ some .gt› (gt.2 h)
  have ck := clk_of f ‹farV .mul .f64 (fv (σ 0)) 4680673776000565248 = some (some (fv (σ 13))) ∨ _› ‹farV .add .f64 (fv (σ 13)) 4602678819172646912 = some (some (fv (σ 14))) ∨ _›
  obtain ⟨wf, wl, wu⟩ := clk_near f (by omega) (by omega) ck.1
  have k := floor_fv ‹σ 14 = .float .f64 (fv (σ 14))› ‹extRel .floor [σ 14] (σ 15)› wf (by omega) (by omega)
  have n16 := f2i_iv (n := flr (fv (σ 14))) ‹(∃ n, _ ∧ _) ∨ _› k.1 (by rw [k.2]; exact tdiv_KK _) (by omega) (by omega)
  have w17 := ‹iv (σ 17) = _›
  have w18 := ‹iv (σ 18) = _›
  rw [n16] at w17 w18
  obtain ⟨d1, d2, d3, d4⟩ := day_of (by omega) (by omega) w17 w18
  have dd := d1 ‹_›
  have w20 := ‹iv (σ 20) = _›
  rw [IntWalk.i64_in _ (by omega), dd] at w20
  have e := ‹dateR _›
  simp only [dateR] at e
  rw [w20] at e
  rw [‹bv (σ 24) = !true›] at e
  rcases e with ⟨h, _⟩ | ⟨_, h⟩
  · cases h
  · right; left
    refine ⟨f, rfl, fun w h1 h2 => ?_, rfl, rfl, rfl, rfl⟩
    rw [ck.1] at h1
    have := Option.some.inj h1
    subst this
    rw [inT_day]; omega
theorem clock_L3_ok : clock_L3 := by
  intro σ; intros
  have s0 := ‹σ 0 = .float .f64 (fv (σ 0))›
  have a5 := abs_of s0 ‹extRel .fbits [σ 0] (σ 3)› ‹_› ‹σ 4 = .int .u64 (iv (σ 4))› ‹extRel .ffrom [σ 4] (σ 5)›
  have f := (fin_tests ‹_› ‹_› a5 ‹_› ‹_›).1 ‹bv (σ 7) = !false›
  have a11 := abs_of s0 ‹extRel .fbits [σ 0] (σ 9)› ‹_› ‹σ 10 = .int .u64 (iv (σ 10))› ‹extRel .ffrom [σ 10] (σ 11)›
  have gt := abs_gt f a11
  have nr : ¬ (100000000 * KK < sv (fv (σ 0)) ∨ sv (fv (σ 0)) < -(100000000 * KK)) := fun h => ‹ford (fv (σ 11)) (4726483295884279808) ≠ some .gt› (gt.2 h)
  have ck := clk_of f ‹farV .mul .f64 (fv (σ 0)) 4680673776000565248 = some (some (fv (σ 13))) ∨ _› ‹farV .add .f64 (fv (σ 13)) 4602678819172646912 = some (some (fv (σ 14))) ∨ _›
  obtain ⟨wf, wl, wu⟩ := clk_near f (by omega) (by omega) ck.1
  have k := floor_fv ‹σ 14 = .float .f64 (fv (σ 14))› ‹extRel .floor [σ 14] (σ 15)› wf (by omega) (by omega)
  have n16 := f2i_iv (n := flr (fv (σ 14))) ‹(∃ n, _ ∧ _) ∨ _› k.1 (by rw [k.2]; exact tdiv_KK _) (by omega) (by omega)
  have w17 := ‹iv (σ 17) = _›
  have w18 := ‹iv (σ 18) = _›
  rw [n16] at w17 w18
  obtain ⟨d1, d2, d3, d4⟩ := day_of (by omega) (by omega) w17 w18
  have dd := d1 ‹_›
  have w20 := ‹iv (σ 20) = _›
  rw [IntWalk.i64_in _ (by omega), dd] at w20
  have e := ‹dateR _›
  simp only [dateR] at e
  rw [w20] at e
  rw [‹bv (σ 24) = !false›] at e
  rcases e with ⟨_, h⟩ | ⟨h, _⟩
  · right; right
    have r := h.range
    have wq := ‹iv (σ 27) = _›
    rw [n16] at wq
    obtain ⟨q1, q2, q3⟩ := parts_of (by omega) (by omega) w20 ‹iv (σ 26) = _› wq ‹iv (σ 28) = _› ‹iv (σ 29) = _› ‹iv (σ 30) = _› ‹iv (σ 31) = _›
    exact ⟨f, rfl, _, ck.1, wf, inT_day.2 (by omega), w20, q1, q2, q3⟩
  · cases h
theorem clock_L4_ok : clock_L4 := by
  intro σ; intros
  have s0 := ‹σ 0 = .float .f64 (fv (σ 0))›
  have a5 := abs_of s0 ‹extRel .fbits [σ 0] (σ 3)› ‹_› ‹σ 4 = .int .u64 (iv (σ 4))› ‹extRel .ffrom [σ 4] (σ 5)›
  have f := (fin_tests ‹_› ‹_› a5 ‹_› ‹_›).1 ‹bv (σ 7) = !false›
  have a11 := abs_of s0 ‹extRel .fbits [σ 0] (σ 9)› ‹_› ‹σ 10 = .int .u64 (iv (σ 10))› ‹extRel .ffrom [σ 10] (σ 11)›
  have gt := abs_gt f a11
  have nr : ¬ (100000000 * KK < sv (fv (σ 0)) ∨ sv (fv (σ 0)) < -(100000000 * KK)) := fun h => ‹ford (fv (σ 11)) (4726483295884279808) ≠ some .gt› (gt.2 h)
  have ck := clk_of f ‹farV .mul .f64 (fv (σ 0)) 4680673776000565248 = some (some (fv (σ 13))) ∨ _› ‹farV .add .f64 (fv (σ 13)) 4602678819172646912 = some (some (fv (σ 14))) ∨ _›
  obtain ⟨wf, wl, wu⟩ := clk_near f (by omega) (by omega) ck.1
  have k := floor_fv ‹σ 14 = .float .f64 (fv (σ 14))› ‹extRel .floor [σ 14] (σ 15)› wf (by omega) (by omega)
  have n16 := f2i_iv (n := flr (fv (σ 14))) ‹(∃ n, _ ∧ _) ∨ _› k.1 (by rw [k.2]; exact tdiv_KK _) (by omega) (by omega)
  have w17 := ‹iv (σ 17) = _›
  have w18 := ‹iv (σ 18) = _›
  rw [n16] at w17 w18
  obtain ⟨d1, d2, d3, d4⟩ := day_of (by omega) (by omega) w17 w18
  have dd := d1 ‹_›
  have w20 := ‹iv (σ 20) = _›
  rw [IntWalk.i64_in _ (by omega), dd] at w20
  have e := ‹¬ dateRPre _›
  simp only [dateRPre] at e
  omega
theorem clock_L5_ok : clock_L5 := by
  intro σ; intros
  have s0 := ‹σ 0 = .float .f64 (fv (σ 0))›
  have a5 := abs_of s0 ‹extRel .fbits [σ 0] (σ 3)› ‹_› ‹σ 4 = .int .u64 (iv (σ 4))› ‹extRel .ffrom [σ 4] (σ 5)›
  have f := (fin_tests ‹_› ‹_› a5 ‹_› ‹_›).1 ‹bv (σ 7) = !false›
  have a11 := abs_of s0 ‹extRel .fbits [σ 0] (σ 9)› ‹_› ‹σ 10 = .int .u64 (iv (σ 10))› ‹extRel .ffrom [σ 10] (σ 11)›
  have gt := abs_gt f a11
  have nr : ¬ (100000000 * KK < sv (fv (σ 0)) ∨ sv (fv (σ 0)) < -(100000000 * KK)) := fun h => ‹ford (fv (σ 11)) (4726483295884279808) ≠ some .gt› (gt.2 h)
  have ck := clk_of f ‹farV .mul .f64 (fv (σ 0)) 4680673776000565248 = some (some (fv (σ 13))) ∨ _› ‹farV .add .f64 (fv (σ 13)) 4602678819172646912 = some (some (fv (σ 14))) ∨ _›
  obtain ⟨wf, wl, wu⟩ := clk_near f (by omega) (by omega) ck.1
  have k := floor_fv ‹σ 14 = .float .f64 (fv (σ 14))› ‹extRel .floor [σ 14] (σ 15)› wf (by omega) (by omega)
  have n16 := f2i_iv (n := flr (fv (σ 14))) ‹(∃ n, _ ∧ _) ∨ _› k.1 (by rw [k.2]; exact tdiv_KK _) (by omega) (by omega)
  have w17 := ‹iv (σ 17) = _›
  have w18 := ‹iv (σ 18) = _›
  rw [n16] at w17 w18
  obtain ⟨d1, d2, d3, d4⟩ := day_of (by omega) (by omega) w17 w18
  have dd := d2 ‹_›
  have e := ‹dateR _›
  simp only [dateR] at e
  rw [dd] at e
  rw [‹bv (σ 23) = !true›] at e
  rcases e with ⟨h, _⟩ | ⟨_, h⟩
  · cases h
  · right; left
    refine ⟨f, rfl, fun w h1 h2 => ?_, rfl, rfl, rfl, rfl⟩
    rw [ck.1] at h1
    have := Option.some.inj h1
    subst this
    rw [inT_day]; omega
theorem clock_L6_ok : clock_L6 := by
  intro σ; intros
  have s0 := ‹σ 0 = .float .f64 (fv (σ 0))›
  have a5 := abs_of s0 ‹extRel .fbits [σ 0] (σ 3)› ‹_› ‹σ 4 = .int .u64 (iv (σ 4))› ‹extRel .ffrom [σ 4] (σ 5)›
  have f := (fin_tests ‹_› ‹_› a5 ‹_› ‹_›).1 ‹bv (σ 7) = !false›
  have a11 := abs_of s0 ‹extRel .fbits [σ 0] (σ 9)› ‹_› ‹σ 10 = .int .u64 (iv (σ 10))› ‹extRel .ffrom [σ 10] (σ 11)›
  have gt := abs_gt f a11
  have nr : ¬ (100000000 * KK < sv (fv (σ 0)) ∨ sv (fv (σ 0)) < -(100000000 * KK)) := fun h => ‹ford (fv (σ 11)) (4726483295884279808) ≠ some .gt› (gt.2 h)
  have ck := clk_of f ‹farV .mul .f64 (fv (σ 0)) 4680673776000565248 = some (some (fv (σ 13))) ∨ _› ‹farV .add .f64 (fv (σ 13)) 4602678819172646912 = some (some (fv (σ 14))) ∨ _›
  obtain ⟨wf, wl, wu⟩ := clk_near f (by omega) (by omega) ck.1
  have k := floor_fv ‹σ 14 = .float .f64 (fv (σ 14))› ‹extRel .floor [σ 14] (σ 15)› wf (by omega) (by omega)
  have n16 := f2i_iv (n := flr (fv (σ 14))) ‹(∃ n, _ ∧ _) ∨ _› k.1 (by rw [k.2]; exact tdiv_KK _) (by omega) (by omega)
  have w17 := ‹iv (σ 17) = _›
  have w18 := ‹iv (σ 18) = _›
  rw [n16] at w17 w18
  obtain ⟨d1, d2, d3, d4⟩ := day_of (by omega) (by omega) w17 w18
  have dd := d2 ‹_›
  have e := ‹dateR _›
  simp only [dateR] at e
  rw [dd] at e
  rw [‹bv (σ 23) = !false›] at e
  rcases e with ⟨_, h⟩ | ⟨h, _⟩
  · right; right
    have r := h.range
    have wq := ‹iv (σ 26) = _›
    rw [n16] at wq
    obtain ⟨q1, q2, q3⟩ := parts_of (by omega) (by omega) dd ‹iv (σ 25) = _› wq ‹iv (σ 27) = _› ‹iv (σ 28) = _› ‹iv (σ 29) = _› ‹iv (σ 30) = _›
    exact ⟨f, rfl, _, ck.1, wf, inT_day.2 (by omega), dd, q1, q2, q3⟩
  · cases h
theorem clock_L7_ok : clock_L7 := by
  intro σ; intros
  have s0 := ‹σ 0 = .float .f64 (fv (σ 0))›
  have a5 := abs_of s0 ‹extRel .fbits [σ 0] (σ 3)› ‹_› ‹σ 4 = .int .u64 (iv (σ 4))› ‹extRel .ffrom [σ 4] (σ 5)›
  have f := (fin_tests ‹_› ‹_› a5 ‹_› ‹_›).1 ‹bv (σ 7) = !false›
  have a11 := abs_of s0 ‹extRel .fbits [σ 0] (σ 9)› ‹_› ‹σ 10 = .int .u64 (iv (σ 10))› ‹extRel .ffrom [σ 10] (σ 11)›
  have gt := abs_gt f a11
  have nr : ¬ (100000000 * KK < sv (fv (σ 0)) ∨ sv (fv (σ 0)) < -(100000000 * KK)) := fun h => ‹ford (fv (σ 11)) (4726483295884279808) ≠ some .gt› (gt.2 h)
  have ck := clk_of f ‹farV .mul .f64 (fv (σ 0)) 4680673776000565248 = some (some (fv (σ 13))) ∨ _› ‹farV .add .f64 (fv (σ 13)) 4602678819172646912 = some (some (fv (σ 14))) ∨ _›
  obtain ⟨wf, wl, wu⟩ := clk_near f (by omega) (by omega) ck.1
  have k := floor_fv ‹σ 14 = .float .f64 (fv (σ 14))› ‹extRel .floor [σ 14] (σ 15)› wf (by omega) (by omega)
  have n16 := f2i_iv (n := flr (fv (σ 14))) ‹(∃ n, _ ∧ _) ∨ _› k.1 (by rw [k.2]; exact tdiv_KK _) (by omega) (by omega)
  have w17 := ‹iv (σ 17) = _›
  have w18 := ‹iv (σ 18) = _›
  rw [n16] at w17 w18
  obtain ⟨d1, d2, d3, d4⟩ := day_of (by omega) (by omega) w17 w18
  have dd := d2 ‹_›
  have e := ‹¬ dateRPre _›
  simp only [dateRPre] at e
  omega
theorem clock_L8_ok : clock_L8 := by
  intro σ; intros
  left
  refine ⟨fun h => ?_, rfl, rfl, rfl, rfl, rfl⟩
  have n := (cmp_neq_self ‹fcmpV .neq .f64 (fv (σ 0)) (fv (σ 0)) = _›).1 ‹_›
  unfold Nan64 at n; unfold Fin64 at h; omega
theorem clock_ok {cond : World → Prop} (hs : Keeps cond) : clockC.ok Tryz.prog cond :=
  by_tie clock_tie (by kernel_rfl) hs (all_cons (date_ok hs) all_nil) ⟨clock_L0_ok, clock_L1_ok, clock_L2_ok, clock_L3_ok, clock_L4_ok, clock_L5_ok, clock_L6_ok, clock_L7_ok, clock_L8_ok, trivial⟩

def rClock_L0 : Prop := ∀ σ : Nat → Value,
    (σ 0 = .float .f64 (fv (σ 0))) →
    (σ 1 = .float .f64 (fv (σ 1))) →
    (σ 2 = .bool (bv (σ 2))) →
    ((farV .sub .f64 (fv (σ 0)) (fv (σ 0)) = some (some (fv (σ 1))) ∨ (farV .sub .f64 (fv (σ 0)) (fv (σ 0)) = some none ∧ Nan64 (fv (σ 1))))) →
    (fcmpV .eql .f64 (fv (σ 1)) (0) = some (.bool (bv (σ 2)))) →
    (bv (σ 2) = !true) →
    clockR [σ 0, (Value.int .i64 0), (Value.int .i64 0), (Value.int .i64 0), (Value.int .i64 0), (Value.int .i64 80)]

def rClock_L1 : Prop := ∀ σ : Nat → Value,
    (σ 0 = .float .f64 (fv (σ 0))) →
    (σ 1 = .float .f64 (fv (σ 1))) →
    (σ 2 = .bool (bv (σ 2))) →
    (σ 4 = .float .f64 (fv (σ 4))) →
    (σ 5 = .float .f64 (fv (σ 5))) →
    (σ 6 = .float .f64 (fv (σ 6))) →
    (σ 8 = .bool (bv (σ 8))) →
    ((farV .sub .f64 (fv (σ 0)) (fv (σ 0)) = some (some (fv (σ 1))) ∨ (farV .sub .f64 (fv (σ 0)) (fv (σ 0)) = some none ∧ Nan64 (fv (σ 1))))) →
    (fcmpV .eql .f64 (fv (σ 1)) (0) = some (.bool (bv (σ 2)))) →
    ((farV .mul .f64 (fv (σ 0)) (4680673776000565248) = some (some (fv (σ 4))) ∨ (farV .mul .f64 (fv (σ 0)) (4680673776000565248) = some none ∧ Nan64 (fv (σ 4))))) →
    ((farV .add .f64 (fv (σ 4)) (4602678819172646912) = some (some (fv (σ 5))) ∨ (farV .add .f64 (fv (σ 4)) (4602678819172646912) = some none ∧ Nan64 (fv (σ 5))))) →
    (rFloorR [σ 5, σ 6]) →
    (fcmpV .lss .f64 (fv (σ 6)) (4777687881785278464) = some (.bool (bv (σ 8)))) →
    (bv (σ 8) = !true) →
    (ford (fv (σ 6)) (13991531520699924480) = some .gt ∨ ford (fv (σ 6)) (13991531520699924480) = some .eq) →
    (bv (σ 2) = !false) →
    clockR [σ 0, (Value.int .i64 0), (Value.int .i64 0), (Value.int .i64 0), (Value.int .i64 0), (Value.int .i64 81)]

def rClock_L2 : Prop := ∀ σ : Nat → Value,
    (σ 0 = .float .f64 (fv (σ 0))) →
    (σ 1 = .float .f64 (fv (σ 1))) →
    (σ 2 = .bool (bv (σ 2))) →
    (σ 4 = .float .f64 (fv (σ 4))) →
    (σ 5 = .float .f64 (fv (σ 5))) →
    (σ 6 = .float .f64 (fv (σ 6))) →
    (σ 8 = .bool (bv (σ 8))) →
    (σ 10 = .int .i64 (iv (σ 10))) →
    (σ 11 = .int .i64 (iv (σ 11))) →
    (σ 12 = .int .i64 (iv (σ 12))) →
    (σ 14 = .int .i64 (iv (σ 14))) →
    (σ 15 = .int .i64 (iv (σ 15))) →
    (σ 16 = .int .i64 (iv (σ 16))) →
    (σ 17 = .int .i64 (iv (σ 17))) →
    (σ 18 = .int .i64 (iv (σ 18))) →
    (σ 19 = .int .i64 (iv (σ 19))) →
    (σ 20 = .int .i64 (iv (σ 20))) →
    ((farV .sub .f64 (fv (σ 0)) (fv (σ 0)) = some (some (fv (σ 1))) ∨ (farV .sub .f64 (fv (σ 0)) (fv (σ 0)) = some none ∧ Nan64 (fv (σ 1))))) →
    (fcmpV .eql .f64 (fv (σ 1)) (0) = some (.bool (bv (σ 2)))) →
    ((farV .mul .f64 (fv (σ 0)) (4680673776000565248) = some (some (fv (σ 4))) ∨ (farV .mul .f64 (fv (σ 0)) (4680673776000565248) = some none ∧ Nan64 (fv (σ 4))))) →
    ((farV .add .f64 (fv (σ 4)) (4602678819172646912) = some (some (fv (σ 5))) ∨ (farV .add .f64 (fv (σ 4)) (4602678819172646912) = some none ∧ Nan64 (fv (σ 5))))) →
    (rFloorR [σ 5, σ 6]) →
    (fcmpV .lss .f64 (fv (σ 6)) (4777687881785278464) = some (.bool (bv (σ 8)))) →
    (((∃ n, (FloatKind.f64.decode (fv (σ 6))).toInt .zero = some n ∧ IntKind.i64.min ≤ n ∧ n ≤ IntKind.i64.max ∧ iv (σ 10) = n) ∨ (∀ n, (FloatKind.f64.decode (fv (σ 6))).toInt .zero = some n → ¬ (IntKind.i64.min ≤ n ∧ n ≤ IntKind.i64.max)))) →
    (iv (σ 11) = IntKind.i64.wrap ((iv (σ 10)).tdiv (86400))) →
    (iv (σ 12) = (iv (σ 10) : Int).tmod (86400)) →
    (iv (σ 14) = IntKind.i64.wrap (iv (σ 11) - 1)) →
    (iv (σ 15) = IntKind.i64.wrap (iv (σ 14) * 86400)) →
    (iv (σ 16) = IntKind.i64.wrap (iv (σ 10) - iv (σ 15))) →
    (iv (σ 17) = IntKind.i64.wrap ((iv (σ 16)).tdiv (3600))) →
    (iv (σ 18) = IntKind.i64.wrap ((iv (σ 16)).tdiv (60))) →
    (iv (σ 19) = (iv (σ 18) : Int).tmod (60)) →
    (iv (σ 20) = (iv (σ 16) : Int).tmod (60)) →
    (iv (σ 12) < 0) →
    (bv (σ 8) = !false) →
    (ford (fv (σ 6)) (13991531520699924480) = some .gt ∨ ford (fv (σ 6)) (13991531520699924480) = some .eq) →
    (bv (σ 2) = !false) →
    clockR [σ 0, σ 14, σ 17, σ 19, σ 20, (Value.int .i64 0)]

def rClock_L3 : Prop := ∀ σ : Nat → Value,
    (σ 0 = .float .f64 (fv (σ 0))) →
    (σ 1 = .float .f64 (fv (σ 1))) →
    (σ 2 = .bool (bv (σ 2))) →
    (σ 4 = .float .f64 (fv (σ 4))) →
    (σ 5 = .float .f64 (fv (σ 5))) →
    (σ 6 = .float .f64 (fv (σ 6))) →
    (σ 8 = .bool (bv (σ 8))) →
    (σ 10 = .int .i64 (iv (σ 10))) →
    (σ 11 = .int .i64 (iv (σ 11))) →
    (σ 12 = .int .i64 (iv (σ 12))) →
    (σ 14 = .int .i64 (iv (σ 14))) →
    (σ 15 = .int .i64 (iv (σ 15))) →
    (σ 16 = .int .i64 (iv (σ 16))) →
    (σ 17 = .int .i64 (iv (σ 17))) →
    (σ 18 = .int .i64 (iv (σ 18))) →
    (σ 19 = .int .i64 (iv (σ 19))) →
    ((farV .sub .f64 (fv (σ 0)) (fv (σ 0)) = some (some (fv (σ 1))) ∨ (farV .sub .f64 (fv (σ 0)) (fv (σ 0)) = some none ∧ Nan64 (fv (σ 1))))) →
    (fcmpV .eql .f64 (fv (σ 1)) (0) = some (.bool (bv (σ 2)))) →
    ((farV .mul .f64 (fv (σ 0)) (4680673776000565248) = some (some (fv (σ 4))) ∨ (farV .mul .f64 (fv (σ 0)) (4680673776000565248) = some none ∧ Nan64 (fv (σ 4))))) →
    ((farV .add .f64 (fv (σ 4)) (4602678819172646912) = some (some (fv (σ 5))) ∨ (farV .add .f64 (fv (σ 4)) (4602678819172646912) = some none ∧ Nan64 (fv (σ 5))))) →
    (rFloorR [σ 5, σ 6]) →
    (fcmpV .lss .f64 (fv (σ 6)) (4777687881785278464) = some (.bool (bv (σ 8)))) →
    (((∃ n, (FloatKind.f64.decode (fv (σ 6))).toInt .zero = some n ∧ IntKind.i64.min ≤ n ∧ n ≤ IntKind.i64.max ∧ iv (σ 10) = n) ∨ (∀ n, (FloatKind.f64.decode (fv (σ 6))).toInt .zero = some n → ¬ (IntKind.i64.min ≤ n ∧ n ≤ IntKind.i64.max)))) →
    (iv (σ 11) = IntKind.i64.wrap ((iv (σ 10)).tdiv (86400))) →
    (iv (σ 12) = (iv (σ 10) : Int).tmod (86400)) →
    (iv (σ 14) = IntKind.i64.wrap (iv (σ 11) * 86400)) →
    (iv (σ 15) = IntKind.i64.wrap (iv (σ 10) - iv (σ 14))) →
    (iv (σ 16) = IntKind.i64.wrap ((iv (σ 15)).tdiv (3600))) →
    (iv (σ 17) = IntKind.i64.wrap ((iv (σ 15)).tdiv (60))) →
    (iv (σ 18) = (iv (σ 17) : Int).tmod (60)) →
    (iv (σ 19) = (iv (σ 15) : Int).tmod (60)) →
    (0 ≤ iv (σ 12)) →
    (bv (σ 8) = !false) →
    (ford (fv (σ 6)) (13991531520699924480) = some .gt ∨ ford (fv (σ 6)) (13991531520699924480) = some .eq) →
    (bv (σ 2) = !false) →
    clockR [σ 0, σ 11, σ 16, σ 18, σ 19, (Value.int .i64 0)]

def rClock_L4 : Prop := ∀ σ : Nat → Value,
    (σ 0 = .float .f64 (fv (σ 0))) →
    (σ 1 = .float .f64 (fv (σ 1))) →
    (σ 2 = .bool (bv (σ 2))) →
    (σ 4 = .float .f64 (fv (σ 4))) →
    (σ 5 = .float .f64 (fv (σ 5))) →
    (σ 6 = .float .f64 (fv (σ 6))) →
    ((farV .sub .f64 (fv (σ 0)) (fv (σ 0)) = some (some (fv (σ 1))) ∨ (farV .sub .f64 (fv (σ 0)) (fv (σ 0)) = some none ∧ Nan64 (fv (σ 1))))) →
    (fcmpV .eql .f64 (fv (σ 1)) (0) = some (.bool (bv (σ 2)))) →
    ((farV .mul .f64 (fv (σ 0)) (4680673776000565248) = some (some (fv (σ 4))) ∨ (farV .mul .f64 (fv (σ 0)) (4680673776000565248) = some none ∧ Nan64 (fv (σ 4))))) →
    ((farV .add .f64 (fv (σ 4)) (4602678819172646912) = some (some (fv (σ 5))) ∨ (farV .add .f64 (fv (σ 4)) (4602678819172646912) = some none ∧ Nan64 (fv (σ 5))))) →
    (rFloorR [σ 5, σ 6]) →
    (ford (fv (σ 6)) (13991531520699924480) ≠ some .gt ∧ ford (fv (σ 6)) (13991531520699924480) ≠ some .eq) →
    (bv (σ 2) = !false) →
    clockR [σ 0, (Value.int .i64 0), (Value.int .i64 0), (Value.int .i64 0), (Value.int .i64 0), (Value.int .i64 81)]

theorem rClock_tie : rClockC.goals (cfgC Tryz.prog (entersOf Tryz.prog) X [rFloorC]) [] 2000 = (rClock_L0 ∧ rClock_L1 ∧ rClock_L2 ∧ rClock_L3 ∧ rClock_L4 ∧ True) := by kernel_rfl
theorem bits_lo : FloatKind.f64.nearest (-59926435200) = 13991531520699924480 := by kernel_rfl
theorem bits_hi : FloatKind.f64.nearest 255611462400 = 4777687881785278464 := by kernel_rfl
theorem klo : Fin64 13991531520699924480 ∧ sv 13991531520699924480 = -59926435200 * KK := num_bits (by decide) (by decide) bits_lo
theorem khi : Fin64 4777687881785278464 ∧ sv 4777687881785278464 = 255611462400 * KK := num_bits (by decide) (by decide) bits_hi
theorem lss_true {x y : Nat} {b : Bool} (hx : Fin64 x) (hy : Fin64 y) (h : fcmpV .lss .f64 x y = some (.bool b)) : b = true ↔ sv x < sv y := by
  have h : (Ieee.double.order x y == some .lt) = b := by
    simp only [fcmpV, Option.some.injEq, Value.bool.injEq] at h
    exact h
  have e : Ieee.double.order x y = ford x y := rfl
  rw [e] at h
  subst h
  rw [beq_iff_eq, ford_lt hx hy]
theorem lss_inf {x : Nat} (hx : ∀ y, Fin64 y → ford x y = some .gt) {y : Nat} (hy : Fin64 y) {b : Bool} (h : fcmpV .lss .f64 x y = some (.bool b)) : b = false := by
  have h : (Ieee.double.order x y == some .lt) = b := by
    simp only [fcmpV, Option.some.injEq, Value.bool.injEq] at h
    exact h
  have e : Ieee.double.order x y = ford x y := rfl
  rw [e, hx y hy] at h
  exact h.symm
theorem floor_lt {x r : Value} {n : Int} (h : rFloorR [x, r]) (hf : Fin64 (fv x)) (h1 : -9007199254740992 < n) (h2 : n < 9007199254740992) : sv (fv r) < n * KK ↔ flr (fv x) < n := by
  have := (floor_le h hf h1 h2).2
  omega
theorem rClock_L0_ok : rClock_L0 := by
  intro σ; intros
  have q := sub_self_test ‹farV .sub .f64 (fv (σ 0)) (fv (σ 0)) = some (some (fv (σ 1))) ∨ _› ‹fcmpV .eql .f64 (fv (σ 1)) 0 = _›
  left
  refine ⟨fun h => ?_, rfl, rfl, rfl, rfl, rfl⟩
  have := q.2 h
  rw [‹bv (σ 2) = !true›] at this; cases this
theorem rClock_L1_ok : rClock_L1 := by
  intro σ; intros
  have f := (sub_self_test ‹farV .sub .f64 (fv (σ 0)) (fv (σ 0)) = some (some (fv (σ 1))) ∨ _› ‹fcmpV .eql .f64 (fv (σ 1)) 0 = _›).1 ‹bv (σ 2) = !false›
  have ck := clk_of f ‹farV .mul .f64 (fv (σ 0)) 4680673776000565248 = some (some (fv (σ 4))) ∨ _› ‹farV .add .f64 (fv (σ 4)) 4602678819172646912 = some (some (fv (σ 5))) ∨ _›
  have R := ‹rFloorR [σ 5, σ 6]›
  right; left
  refine ⟨f, rfl, fun w h1 h2 => ?_, rfl, rfl, rfl, rfl⟩
  rw [ck.1] at h1
  have e := Option.some.inj h1
  subst e
  have k := floor_num R h2
  unfold inT
  have l := lss_true k.1 khi.1 ‹fcmpV .lss .f64 (fv (σ 6)) 4777687881785278464 = _›
  rw [khi.2, floor_lt R h2 (by omega) (by omega)] at l
  intro hin
  have := l.2 hin.2
  rw [‹bv (σ 8) = !true›] at this; cases this
theorem rClock_L2_ok : rClock_L2 := by
  intro σ; intros
  have f := (sub_self_test ‹farV .sub .f64 (fv (σ 0)) (fv (σ 0)) = some (some (fv (σ 1))) ∨ _› ‹fcmpV .eql .f64 (fv (σ 1)) 0 = _›).1 ‹bv (σ 2) = !false›
  have ck := clk_of f ‹farV .mul .f64 (fv (σ 0)) 4680673776000565248 = some (some (fv (σ 4))) ∨ _› ‹farV .add .f64 (fv (σ 4)) 4602678819172646912 = some (some (fv (σ 5))) ∨ _›
  have R := ‹rFloorR [σ 5, σ 6]›
  have wf : Fin64 (fv (σ 5)) := by
    rcases ck.2 with c | c
    · exact c
    · exfalso
      have e := R.2.2 c
      rw [← e] at c
      rcases inf_two c with d | d
      · have := lss_inf d khi.1 ‹fcmpV .lss .f64 (fv (σ 6)) 4777687881785278464 = _›
        rw [‹bv (σ 8) = !false›] at this; cases this
      · have o := ‹ford (fv (σ 6)) 13991531520699924480 = some .gt ∨ _›
        rw [d _ klo.1] at o
        rcases o with o | o <;> cases o
  have k := floor_num R wf
  have l := lss_true k.1 khi.1 ‹fcmpV .lss .f64 (fv (σ 6)) 4777687881785278464 = _›
  rw [khi.2, floor_lt R wf (by omega) (by omega)] at l
  have l2 := l.1 ‹bv (σ 8) = !false›
  have o := ‹ford (fv (σ 6)) 13991531520699924480 = some .gt ∨ _›
  rw [ford_gt k.1 klo.1, ford_eq k.1 klo.1, klo.2] at o
  have l1 : -59926435200 ≤ flr (fv (σ 5)) := (floor_le R wf (by omega) (by omega)).2.1 (by omega)
  have e := k.2.1 (small_not_big rfl (by omega) (by omega))
  have n10 := f2i_iv (n := flr (fv (σ 5))) ‹(∃ n, _ ∧ _) ∨ _› k.1 (by rw [e]; exact tdiv_KK _) (by omega) (by omega)
  have w11 := ‹iv (σ 11) = _›
  have w12 := ‹iv (σ 12) = _›
  rw [n10] at w11 w12
  obtain ⟨d1, d2, d3, d4⟩ := day_of (by omega) (by omega) w11 w12
  have dd := d1 ‹_›
  have w14 := ‹iv (σ 14) = _›
  rw [IntWalk.i64_in _ (by omega), dd] at w14
  have wq := ‹iv (σ 16) = _›
  rw [n10] at wq
  obtain ⟨q1, q2, q3⟩ := parts_of (by omega) (by omega) w14 ‹iv (σ 15) = _› wq ‹iv (σ 17) = _› ‹iv (σ 18) = _› ‹iv (σ 19) = _› ‹iv (σ 20) = _›
  right; right
  exact ⟨f, rfl, _, ck.1, wf, ⟨l1, l2⟩, w14, q1, q2, q3⟩
theorem rClock_L3_ok : rClock_L3 := by
  intro σ; intros
  have f := (sub_self_test ‹farV .sub .f64 (fv (σ 0)) (fv (σ 0)) = some (some (fv (σ 1))) ∨ _› ‹fcmpV .eql .f64 (fv (σ 1)) 0 = _›).1 ‹bv (σ 2) = !false›
  have ck := clk_of f ‹farV .mul .f64 (fv (σ 0)) 4680673776000565248 = some (some (fv (σ 4))) ∨ _› ‹farV .add .f64 (fv (σ 4)) 4602678819172646912 = some (some (fv (σ 5))) ∨ _›
  have R := ‹rFloorR [σ 5, σ 6]›
  have wf : Fin64 (fv (σ 5)) := by
    rcases ck.2 with c | c
    · exact c
    · exfalso
      have e := R.2.2 c
      rw [← e] at c
      rcases inf_two c with d | d
      · have := lss_inf d khi.1 ‹fcmpV .lss .f64 (fv (σ 6)) 4777687881785278464 = _›
        rw [‹bv (σ 8) = !false›] at this; cases this
      · have o := ‹ford (fv (σ 6)) 13991531520699924480 = some .gt ∨ _›
        rw [d _ klo.1] at o
        rcases o with o | o <;> cases o
  have k := floor_num R wf
  have l := lss_true k.1 khi.1 ‹fcmpV .lss .f64 (fv (σ 6)) 4777687881785278464 = _›
  rw [khi.2, floor_lt R wf (by omega) (by omega)] at l
  have l2 := l.1 ‹bv (σ 8) = !false›
  have o := ‹ford (fv (σ 6)) 13991531520699924480 = some .gt ∨ _›
  rw [ford_gt k.1 klo.1, ford_eq k.1 klo.1, klo.2] at o
  have l1 : -59926435200 ≤ flr (fv (σ 5)) := (floor_le R wf (by omega) (by omega)).2.1 (by omega)
  have e := k.2.1 (small_not_big rfl (by omega) (by omega))
  have n10 := f2i_iv (n := flr (fv (σ 5))) ‹(∃ n, _ ∧ _) ∨ _› k.1 (by rw [e]; exact tdiv_KK _) (by omega) (by omega)
  have w11 := ‹iv (σ 11) = _›
  have w12 := ‹iv (σ 12) = _›
  rw [n10] at w11 w12
  obtain ⟨d1, d2, d3, d4⟩ := day_of (by omega) (by omega) w11 w12
  have dd := d2 ‹_›
  have wq := ‹iv (σ 15) = _›
  rw [n10] at wq
  obtain ⟨q1, q2, q3⟩ := parts_of (by omega) (by omega) dd ‹iv (σ 14) = _› wq ‹iv (σ 16) = _› ‹iv (σ 17) = _› ‹iv (σ 18) = _› ‹iv (σ 19) = _›
  right; right
  exact ⟨f, rfl, _, ck.1, wf, ⟨l1, l2⟩, dd, q1, q2, q3⟩
theorem rClock_L4_ok : rClock_L4 := by
  intro σ; intros
  have f := (sub_self_test ‹farV .sub .f64 (fv (σ 0)) (fv (σ 0)) = some (some (fv (σ 1))) ∨ _› ‹fcmpV .eql .f64 (fv (σ 1)) 0 = _›).1 ‹bv (σ 2) = !false›
  have ck := clk_of f ‹farV .mul .f64 (fv (σ 0)) 4680673776000565248 = some (some (fv (σ 4))) ∨ _› ‹farV .add .f64 (fv (σ 4)) 4602678819172646912 = some (some (fv (σ 5))) ∨ _›
  have R := ‹rFloorR [σ 5, σ 6]›
  right; left
  refine ⟨f, rfl, fun w h1 h2 => ?_, rfl, rfl, rfl, rfl⟩
  rw [ck.1] at h1
  have e := Option.some.inj h1
  subst e
  have k := floor_num R h2
  unfold inT
  have o := ‹ford (fv (σ 6)) 13991531520699924480 ≠ some .gt ∧ _›
  rw [Ne, ford_gt k.1 klo.1, Ne, ford_eq k.1 klo.1, klo.2] at o
  have := floor_lt R h2 (n := -59926435200) (by omega) (by omega)
  omega
theorem rClock_ok {cond : World → Prop} (hs : Keeps cond) : rClockC.ok Tryz.prog cond :=
  by_tie rClock_tie (by kernel_rfl) hs (all_cons (rFloor_ok hs) all_nil) ⟨rClock_L0_ok, rClock_L1_ok, rClock_L2_ok, rClock_L3_ok, rClock_L4_ok, trivial⟩
end Go.Proofs.Num

namespace Go.Proofs.Num
open Go.Ev Go.Dates Go.RowKit
set_option maxRecDepth 1000000
def datesR : List Value → Prop | [_, _, _, _, r] => bv r = true | _ => False
def datesC : Con := { f := 4, ins := [.agg [.sc (.int .u64), i64S, i64S, i64S]], out := .sc .bool, id := "datesR", rel := datesR }
theorem fromR_uniq {y m d x e x' e' : Value} (h : fromR [y, m, d, x, e]) (k : fromR [y, m, d, x', e']) : fv x = fv x' ∧ iv e = iv e' := by
  simp only [fromR] at h k
  rcases h with ⟨a, b, c⟩ | ⟨a, b, c⟩ <;> rcases k with ⟨a', b', c'⟩ | ⟨a', b', c'⟩
  · exact ⟨c.trans c'.symm, b.trans b'.symm⟩
  · exact (a' a).elim
  · exact (a a').elim
  · exact ⟨c.trans c'.symm, b.trans b'.symm⟩
theorem toR_uniq {x y m d e y' m' d' e' : Value} (h : toR [x, y, m, d, e]) (k : toR [x, y', m', d', e']) : iv y = iv y' ∧ iv m = iv m' ∧ iv d = iv d' ∧ iv e = iv e' := by
  simp only [toR] at h k
  rcases h with ⟨a, b, c1, c2, c3⟩ | ⟨a, b, c1, c2, c3⟩ | ⟨a, b, c⟩ <;> rcases k with ⟨a', b', c1', c2', c3'⟩ | ⟨a', b', c1', c2', c3'⟩ | ⟨a', b', c'⟩
  · omega
  · exact (a a'.1).elim
  · exact (a a').elim
  · exact (a' a.1).elim
  · omega
  · have := c'.range; omega
  · exact (a' a).elim
  · have := c.range; omega
  · have := c.unique c'; omega
theorem wdR_uniq {x w e w' e' : Value} (h : wdR [x, w, e]) (k : wdR [x, w', e']) : iv w = iv w' ∧ iv e = iv e' := by
  simp only [wdR] at h k
  rcases h with ⟨a, b, c⟩ | ⟨a, b, c⟩ | ⟨a, b, c⟩ <;> rcases k with ⟨a', b', c'⟩ | ⟨a', b', c'⟩ | ⟨a', b', c'⟩
  · omega
  · exact (a a'.1).elim
  · exact (a a'.1).elim
  · exact (a' a.1).elim
  · omega
  · obtain ⟨_, _, _⟩ := a'; omega
  · exact (a' a.1).elim
  · obtain ⟨_, _, _⟩ := a; omega
  · omega
theorem clockR_uniq {x n h i s e n' h' i' s' e' : Value} (p : clockR [x, n, h, i, s, e]) (q : clockR [x, n', h', i', s', e']) : iv n = iv n' ∧ iv h = iv h' ∧ iv i = iv i' ∧ iv s = iv s' ∧ iv e = iv e' := by
  simp only [clockR] at p q
  rcases p with ⟨a, b, c⟩ | ⟨a, b, c, d⟩ | ⟨a, b, w, c, d, f, g⟩ <;> rcases q with ⟨a', b', c'⟩ | ⟨a', b', c', d'⟩ | ⟨a', b', w', c', d', f', g'⟩
  · omega
  · exact (a a').elim
  · exact (a a').elim
  · exact (a' a).elim
  · omega
  · exact (c w' c' d' f').elim
  · exact (a' a).elim
  · exact (c' w c d f).elim
  · rw [c] at c'
    have := Option.some.inj c'
    subst this
    omega

def dates_L0 : Prop := ∀ σ : Nat → Value,
    (σ 0 = .int .u64 (iv (σ 0))) →
    (σ 1 = .int .i64 (iv (σ 1))) →
    (σ 2 = .int .i64 (iv (σ 2))) →
    (σ 3 = .int .i64 (iv (σ 3))) →
    (σ 4 = .float .f64 (fv (σ 4))) →
    (σ 5 = .float .f64 (fv (σ 5))) →
    (σ 6 = .int .i64 (iv (σ 6))) →
    (σ 7 = .float .f64 (fv (σ 7))) →
    (σ 8 = .int .i64 (iv (σ 8))) →
    (σ 9 = .bool (bv (σ 9))) →
    (extRel .ffrom [σ 0] (σ 4)) →
    (fromR [σ 1, σ 2, σ 3, σ 5, σ 6]) →
    (fromR [σ 1, σ 2, σ 3, σ 7, σ 8]) →
    (isTrue [σ 9]) →
    (bv (σ 9) = !true) →
    datesR [σ 0, σ 1, σ 2, σ 3, (Value.bool false)]

def dates_L1 : Prop := ∀ σ : Nat → Value,
    (σ 0 = .int .u64 (iv (σ 0))) →
    (σ 1 = .int .i64 (iv (σ 1))) →
    (σ 2 = .int .i64 (iv (σ 2))) →
    (σ 3 = .int .i64 (iv (σ 3))) →
    (σ 4 = .float .f64 (fv (σ 4))) →
    (σ 5 = .float .f64 (fv (σ 5))) →
    (σ 6 = .int .i64 (iv (σ 6))) →
    (σ 7 = .float .f64 (fv (σ 7))) →
    (σ 8 = .int .i64 (iv (σ 8))) →
    (σ 9 = .bool (bv (σ 9))) →
    (σ 11 = .int .u64 (iv (σ 11))) →
    (σ 12 = .int .u64 (iv (σ 12))) →
    (σ 13 = .bool (bv (σ 13))) →
    (extRel .ffrom [σ 0] (σ 4)) →
    (fromR [σ 1, σ 2, σ 3, σ 5, σ 6]) →
    (fromR [σ 1, σ 2, σ 3, σ 7, σ 8]) →
    (isTrue [σ 9]) →
    (extRel .fbits [σ 5] (σ 11)) →
    (extRel .fbits [σ 7] (σ 12)) →
    (bv (σ 13) = decide (iv (σ 11) = iv (σ 12))) →
    (bv (σ 13) = !true) →
    (bv (σ 9) = !false) →
    datesR [σ 0, σ 1, σ 2, σ 3, (Value.bool false)]

def dates_L2 : Prop := ∀ σ : Nat → Value,
    (σ 0 = .int .u64 (iv (σ 0))) →
    (σ 1 = .int .i64 (iv (σ 1))) →
    (σ 2 = .int .i64 (iv (σ 2))) →
    (σ 3 = .int .i64 (iv (σ 3))) →
    (σ 4 = .float .f64 (fv (σ 4))) →
    (σ 5 = .float .f64 (fv (σ 5))) →
    (σ 6 = .int .i64 (iv (σ 6))) →
    (σ 7 = .float .f64 (fv (σ 7))) →
    (σ 8 = .int .i64 (iv (σ 8))) →
    (σ 9 = .bool (bv (σ 9))) →
    (σ 11 = .int .u64 (iv (σ 11))) →
    (σ 12 = .int .u64 (iv (σ 12))) →
    (σ 13 = .bool (bv (σ 13))) →
    (extRel .ffrom [σ 0] (σ 4)) →
    (fromR [σ 1, σ 2, σ 3, σ 5, σ 6]) →
    (fromR [σ 1, σ 2, σ 3, σ 7, σ 8]) →
    (isTrue [σ 9]) →
    (extRel .fbits [σ 5] (σ 11)) →
    (extRel .fbits [σ 7] (σ 12)) →
    (bv (σ 13) = decide (iv (σ 11) = iv (σ 12))) →
    (iv (σ 6) ≠ iv (σ 8)) →
    (bv (σ 13) = !false) →
    (bv (σ 9) = !false) →
    datesR [σ 0, σ 1, σ 2, σ 3, (Value.bool false)]

def dates_L3 : Prop := ∀ σ : Nat → Value,
    (σ 0 = .int .u64 (iv (σ 0))) →
    (σ 1 = .int .i64 (iv (σ 1))) →
    (σ 2 = .int .i64 (iv (σ 2))) →
    (σ 3 = .int .i64 (iv (σ 3))) →
    (σ 4 = .float .f64 (fv (σ 4))) →
    (σ 5 = .float .f64 (fv (σ 5))) →
    (σ 6 = .int .i64 (iv (σ 6))) →
    (σ 7 = .float .f64 (fv (σ 7))) →
    (σ 8 = .int .i64 (iv (σ 8))) →
    (σ 9 = .bool (bv (σ 9))) →
    (σ 11 = .int .u64 (iv (σ 11))) →
    (σ 12 = .int .u64 (iv (σ 12))) →
    (σ 13 = .bool (bv (σ 13))) →
    (σ 16 = .int .i64 (iv (σ 16))) →
    (σ 17 = .int .i64 (iv (σ 17))) →
    (σ 18 = .int .i64 (iv (σ 18))) →
    (σ 19 = .int .i64 (iv (σ 19))) →
    (σ 20 = .int .i64 (iv (σ 20))) →
    (σ 21 = .int .i64 (iv (σ 21))) →
    (σ 22 = .int .i64 (iv (σ 22))) →
    (σ 23 = .int .i64 (iv (σ 23))) →
    (σ 24 = .int .i64 (iv (σ 24))) →
    (σ 25 = .int .i64 (iv (σ 25))) →
    (σ 26 = .int .i64 (iv (σ 26))) →
    (σ 27 = .int .i64 (iv (σ 27))) →
    (σ 28 = .int .i64 (iv (σ 28))) →
    (σ 29 = .int .i64 (iv (σ 29))) →
    (σ 30 = .int .i64 (iv (σ 30))) →
    (σ 31 = .int .i64 (iv (σ 31))) →
    (σ 32 = .int .i64 (iv (σ 32))) →
    (σ 33 = .int .i64 (iv (σ 33))) →
    (σ 34 = .int .i64 (iv (σ 34))) →
    (σ 35 = .int .i64 (iv (σ 35))) →
    (σ 36 = .int .i64 (iv (σ 36))) →
    (σ 37 = .int .i64 (iv (σ 37))) →
    (σ 48 = .bool (bv (σ 48))) →
    (extRel .ffrom [σ 0] (σ 4)) →
    (fromR [σ 1, σ 2, σ 3, σ 5, σ 6]) →
    (fromR [σ 1, σ 2, σ 3, σ 7, σ 8]) →
    (isTrue [σ 9]) →
    (extRel .fbits [σ 5] (σ 11)) →
    (extRel .fbits [σ 7] (σ 12)) →
    (bv (σ 13) = decide (iv (σ 11) = iv (σ 12))) →
    (toR [σ 4, σ 16, σ 17, σ 18, σ 19]) →
    (toR [σ 4, σ 20, σ 21, σ 22, σ 23]) →
    (clockR [σ 4, σ 24, σ 25, σ 26, σ 27, σ 28]) →
    (clockR [σ 4, σ 29, σ 30, σ 31, σ 32, σ 33]) →
    (wdR [σ 4, σ 34, σ 35]) →
    (wdR [σ 4, σ 36, σ 37]) →
    (bv (σ 48) = decide (iv (σ 35) = iv (σ 37))) →
    (iv (σ 34) = iv (σ 36)) →
    (iv (σ 28) = iv (σ 33)) →
    (iv (σ 27) = iv (σ 32)) →
    (iv (σ 26) = iv (σ 31)) →
    (iv (σ 25) = iv (σ 30)) →
    (iv (σ 24) = iv (σ 29)) →
    (iv (σ 19) = iv (σ 23)) →
    (iv (σ 18) = iv (σ 22)) →
    (iv (σ 17) = iv (σ 21)) →
    (iv (σ 16) = iv (σ 20)) →
    (iv (σ 6) = iv (σ 8)) →
    (bv (σ 13) = !false) →
    (bv (σ 9) = !false) →
    datesR [σ 0, σ 1, σ 2, σ 3, σ 48]

def dates_L4 : Prop := ∀ σ : Nat → Value,
    (σ 0 = .int .u64 (iv (σ 0))) →
    (σ 1 = .int .i64 (iv (σ 1))) →
    (σ 2 = .int .i64 (iv (σ 2))) →
    (σ 3 = .int .i64 (iv (σ 3))) →
    (σ 4 = .float .f64 (fv (σ 4))) →
    (σ 5 = .float .f64 (fv (σ 5))) →
    (σ 6 = .int .i64 (iv (σ 6))) →
    (σ 7 = .float .f64 (fv (σ 7))) →
    (σ 8 = .int .i64 (iv (σ 8))) →
    (σ 9 = .bool (bv (σ 9))) →
    (σ 11 = .int .u64 (iv (σ 11))) →
    (σ 12 = .int .u64 (iv (σ 12))) →
    (σ 13 = .bool (bv (σ 13))) →
    (σ 16 = .int .i64 (iv (σ 16))) →
    (σ 17 = .int .i64 (iv (σ 17))) →
    (σ 18 = .int .i64 (iv (σ 18))) →
    (σ 19 = .int .i64 (iv (σ 19))) →
    (σ 20 = .int .i64 (iv (σ 20))) →
    (σ 21 = .int .i64 (iv (σ 21))) →
    (σ 22 = .int .i64 (iv (σ 22))) →
    (σ 23 = .int .i64 (iv (σ 23))) →
    (σ 24 = .int .i64 (iv (σ 24))) →
    (σ 25 = .int .i64 (iv (σ 25))) →
    (σ 26 = .int .i64 (iv (σ 26))) →
    (σ 27 = .int .i64 (iv (σ 27))) →
    (σ 28 = .int .i64 (iv (σ 28))) →
    (σ 29 = .int .i64 (iv (σ 29))) →
    (σ 30 = .int .i64 (iv (σ 30))) →
    (σ 31 = .int .i64 (iv (σ 31))) →
    (σ 32 = .int .i64 (iv (σ 32))) →
    (σ 33 = .int .i64 (iv (σ 33))) →
    (σ 34 = .int .i64 (iv (σ 34))) →
    (σ 35 = .int .i64 (iv (σ 35))) →
    (σ 36 = .int .i64 (iv (σ 36))) →
    (σ 37 = .int .i64 (iv (σ 37))) →
    (extRel .ffrom [σ 0] (σ 4)) →
    (fromR [σ 1, σ 2, σ 3, σ 5, σ 6]) →
    (fromR [σ 1, σ 2, σ 3, σ 7, σ 8]) →
    (isTrue [σ 9]) →
    (extRel .fbits [σ 5] (σ 11)) →
    (extRel .fbits [σ 7] (σ 12)) →
    (bv (σ 13) = decide (iv (σ 11) = iv (σ 12))) →
    (toR [σ 4, σ 16, σ 17, σ 18, σ 19]) →
    (toR [σ 4, σ 20, σ 21, σ 22, σ 23]) →
    (clockR [σ 4, σ 24, σ 25, σ 26, σ 27, σ 28]) →
    (clockR [σ 4, σ 29, σ 30, σ 31, σ 32, σ 33]) →
    (wdR [σ 4, σ 34, σ 35]) →
    (wdR [σ 4, σ 36, σ 37]) →
    (iv (σ 34) ≠ iv (σ 36)) →
    (iv (σ 28) = iv (σ 33)) →
    (iv (σ 27) = iv (σ 32)) →
    (iv (σ 26) = iv (σ 31)) →
    (iv (σ 25) = iv (σ 30)) →
    (iv (σ 24) = iv (σ 29)) →
    (iv (σ 19) = iv (σ 23)) →
    (iv (σ 18) = iv (σ 22)) →
    (iv (σ 17) = iv (σ 21)) →
    (iv (σ 16) = iv (σ 20)) →
    (iv (σ 6) = iv (σ 8)) →
    (bv (σ 13) = !false) →
    (bv (σ 9) = !false) →
    datesR [σ 0, σ 1, σ 2, σ 3, (Value.bool false)]

def dates_L5 : Prop := ∀ σ : Nat → Value,
    (σ 0 = .int .u64 (iv (σ 0))) →
    (σ 1 = .int .i64 (iv (σ 1))) →
    (σ 2 = .int .i64 (iv (σ 2))) →
    (σ 3 = .int .i64 (iv (σ 3))) →
    (σ 4 = .float .f64 (fv (σ 4))) →
    (σ 5 = .float .f64 (fv (σ 5))) →
    (σ 6 = .int .i64 (iv (σ 6))) →
    (σ 7 = .float .f64 (fv (σ 7))) →
    (σ 8 = .int .i64 (iv (σ 8))) →
    (σ 9 = .bool (bv (σ 9))) →
    (σ 11 = .int .u64 (iv (σ 11))) →
    (σ 12 = .int .u64 (iv (σ 12))) →
    (σ 13 = .bool (bv (σ 13))) →
    (σ 16 = .int .i64 (iv (σ 16))) →
    (σ 17 = .int .i64 (iv (σ 17))) →
    (σ 18 = .int .i64 (iv (σ 18))) →
    (σ 19 = .int .i64 (iv (σ 19))) →
    (σ 20 = .int .i64 (iv (σ 20))) →
    (σ 21 = .int .i64 (iv (σ 21))) →
    (σ 22 = .int .i64 (iv (σ 22))) →
    (σ 23 = .int .i64 (iv (σ 23))) →
    (σ 24 = .int .i64 (iv (σ 24))) →
    (σ 25 = .int .i64 (iv (σ 25))) →
    (σ 26 = .int .i64 (iv (σ 26))) →
    (σ 27 = .int .i64 (iv (σ 27))) →
    (σ 28 = .int .i64 (iv (σ 28))) →
    (σ 29 = .int .i64 (iv (σ 29))) →
    (σ 30 = .int .i64 (iv (σ 30))) →
    (σ 31 = .int .i64 (iv (σ 31))) →
    (σ 32 = .int .i64 (iv (σ 32))) →
    (σ 33 = .int .i64 (iv (σ 33))) →
    (σ 34 = .int .i64 (iv (σ 34))) →
    (σ 35 = .int .i64 (iv (σ 35))) →
    (σ 36 = .int .i64 (iv (σ 36))) →
    (σ 37 = .int .i64 (iv (σ 37))) →
    (extRel .ffrom [σ 0] (σ 4)) →
    (fromR [σ 1, σ 2, σ 3, σ 5, σ 6]) →
    (fromR [σ 1, σ 2, σ 3, σ 7, σ 8]) →
    (isTrue [σ 9]) →
    (extRel .fbits [σ 5] (σ 11)) →
    (extRel .fbits [σ 7] (σ 12)) →
    (bv (σ 13) = decide (iv (σ 11) = iv (σ 12))) →
    (toR [σ 4, σ 16, σ 17, σ 18, σ 19]) →
    (toR [σ 4, σ 20, σ 21, σ 22, σ 23]) →
    (clockR [σ 4, σ 24, σ 25, σ 26, σ 27, σ 28]) →
    (clockR [σ 4, σ 29, σ 30, σ 31, σ 32, σ 33]) →
    (wdR [σ 4, σ 34, σ 35]) →
    (wdR [σ 4, σ 36, σ 37]) →
    (iv (σ 28) ≠ iv (σ 33)) →
    (iv (σ 27) = iv (σ 32)) →
    (iv (σ 26) = iv (σ 31)) →
    (iv (σ 25) = iv (σ 30)) →
    (iv (σ 24) = iv (σ 29)) →
    (iv (σ 19) = iv (σ 23)) →
    (iv (σ 18) = iv (σ 22)) →
    (iv (σ 17) = iv (σ 21)) →
    (iv (σ 16) = iv (σ 20)) →
    (iv (σ 6) = iv (σ 8)) →
    (bv (σ 13) = !false) →
    (bv (σ 9) = !false) →
    datesR [σ 0, σ 1, σ 2, σ 3, (Value.bool false)]

def dates_L6 : Prop := ∀ σ : Nat → Value,
    (σ 0 = .int .u64 (iv (σ 0))) →
    (σ 1 = .int .i64 (iv (σ 1))) →
    (σ 2 = .int .i64 (iv (σ 2))) →
    (σ 3 = .int .i64 (iv (σ 3))) →
    (σ 4 = .float .f64 (fv (σ 4))) →
    (σ 5 = .float .f64 (fv (σ 5))) →
    (σ 6 = .int .i64 (iv (σ 6))) →
    (σ 7 = .float .f64 (fv (σ 7))) →
    (σ 8 = .int .i64 (iv (σ 8))) →
    (σ 9 = .bool (bv (σ 9))) →
    (σ 11 = .int .u64 (iv (σ 11))) →
    (σ 12 = .int .u64 (iv (σ 12))) →
    (σ 13 = .bool (bv (σ 13))) →
    (σ 16 = .int .i64 (iv (σ 16))) →
    (σ 17 = .int .i64 (iv (σ 17))) →
    (σ 18 = .int .i64 (iv (σ 18))) →
    (σ 19 = .int .i64 (iv (σ 19))) →
    (σ 20 = .int .i64 (iv (σ 20))) →
    (σ 21 = .int .i64 (iv (σ 21))) →
    (σ 22 = .int .i64 (iv (σ 22))) →
    (σ 23 = .int .i64 (iv (σ 23))) →
    (σ 24 = .int .i64 (iv (σ 24))) →
    (σ 25 = .int .i64 (iv (σ 25))) →
    (σ 26 = .int .i64 (iv (σ 26))) →
    (σ 27 = .int .i64 (iv (σ 27))) →
    (σ 28 = .int .i64 (iv (σ 28))) →
    (σ 29 = .int .i64 (iv (σ 29))) →
    (σ 30 = .int .i64 (iv (σ 30))) →
    (σ 31 = .int .i64 (iv (σ 31))) →
    (σ 32 = .int .i64 (iv (σ 32))) →
    (σ 33 = .int .i64 (iv (σ 33))) →
    (σ 34 = .int .i64 (iv (σ 34))) →
    (σ 35 = .int .i64 (iv (σ 35))) →
    (σ 36 = .int .i64 (iv (σ 36))) →
    (σ 37 = .int .i64 (iv (σ 37))) →
    (extRel .ffrom [σ 0] (σ 4)) →
    (fromR [σ 1, σ 2, σ 3, σ 5, σ 6]) →
    (fromR [σ 1, σ 2, σ 3, σ 7, σ 8]) →
    (isTrue [σ 9]) →
    (extRel .fbits [σ 5] (σ 11)) →
    (extRel .fbits [σ 7] (σ 12)) →
    (bv (σ 13) = decide (iv (σ 11) = iv (σ 12))) →
    (toR [σ 4, σ 16, σ 17, σ 18, σ 19]) →
    (toR [σ 4, σ 20, σ 21, σ 22, σ 23]) →
    (clockR [σ 4, σ 24, σ 25, σ 26, σ 27, σ 28]) →
    (clockR [σ 4, σ 29, σ 30, σ 31, σ 32, σ 33]) →
    (wdR [σ 4, σ 34, σ 35]) →
    (wdR [σ 4, σ 36, σ 37]) →
    (iv (σ 27) ≠ iv (σ 32)) →
    (iv (σ 26) = iv (σ 31)) →
    (iv (σ 25) = iv (σ 30)) →
    (iv (σ 24) = iv (σ 29)) →
    (iv (σ 19) = iv (σ 23)) →
    (iv (σ 18) = iv (σ 22)) →
    (iv (σ 17) = iv (σ 21)) →
    (iv (σ 16) = iv (σ 20)) →
    (iv (σ 6) = iv (σ 8)) →
    (bv (σ 13) = !false) →
    (bv (σ 9) = !false) →
    datesR [σ 0, σ 1, σ 2, σ 3, (Value.bool false)]

def dates_L7 : Prop := ∀ σ : Nat → Value,
    (σ 0 = .int .u64 (iv (σ 0))) →
    (σ 1 = .int .i64 (iv (σ 1))) →
    (σ 2 = .int .i64 (iv (σ 2))) →
    (σ 3 = .int .i64 (iv (σ 3))) →
    (σ 4 = .float .f64 (fv (σ 4))) →
    (σ 5 = .float .f64 (fv (σ 5))) →
    (σ 6 = .int .i64 (iv (σ 6))) →
    (σ 7 = .float .f64 (fv (σ 7))) →
    (σ 8 = .int .i64 (iv (σ 8))) →
    (σ 9 = .bool (bv (σ 9))) →
    (σ 11 = .int .u64 (iv (σ 11))) →
    (σ 12 = .int .u64 (iv (σ 12))) →
    (σ 13 = .bool (bv (σ 13))) →
    (σ 16 = .int .i64 (iv (σ 16))) →
    (σ 17 = .int .i64 (iv (σ 17))) →
    (σ 18 = .int .i64 (iv (σ 18))) →
    (σ 19 = .int .i64 (iv (σ 19))) →
    (σ 20 = .int .i64 (iv (σ 20))) →
    (σ 21 = .int .i64 (iv (σ 21))) →
    (σ 22 = .int .i64 (iv (σ 22))) →
    (σ 23 = .int .i64 (iv (σ 23))) →
    (σ 24 = .int .i64 (iv (σ 24))) →
    (σ 25 = .int .i64 (iv (σ 25))) →
    (σ 26 = .int .i64 (iv (σ 26))) →
    (σ 27 = .int .i64 (iv (σ 27))) →
    (σ 28 = .int .i64 (iv (σ 28))) →
    (σ 29 = .int .i64 (iv (σ 29))) →
    (σ 30 = .int .i64 (iv (σ 30))) →
    (σ 31 = .int .i64 (iv (σ 31))) →
    (σ 32 = .int .i64 (iv (σ 32))) →
    (σ 33 = .int .i64 (iv (σ 33))) →
    (σ 34 = .int .i64 (iv (σ 34))) →
    (σ 35 = .int .i64 (iv (σ 35))) →
    (σ 36 = .int .i64 (iv (σ 36))) →
    (σ 37 = .int .i64 (iv (σ 37))) →
    (extRel .ffrom [σ 0] (σ 4)) →
    (fromR [σ 1, σ 2, σ 3, σ 5, σ 6]) →
    (fromR [σ 1, σ 2, σ 3, σ 7, σ 8]) →
    (isTrue [σ 9]) →
    (extRel .fbits [σ 5] (σ 11)) →
    (extRel .fbits [σ 7] (σ 12)) →
    (bv (σ 13) = decide (iv (σ 11) = iv (σ 12))) →
    (toR [σ 4, σ 16, σ 17, σ 18, σ 19]) →
    (toR [σ 4, σ 20, σ 21, σ 22, σ 23]) →
    (clockR [σ 4, σ 24, σ 25, σ 26, σ 27, σ 28]) →
    (clockR [σ 4, σ 29, σ 30, σ 31, σ 32, σ 33]) →
    (wdR [σ 4, σ 34, σ 35]) →
    (wdR [σ 4, σ 36, σ 37]) →
    (iv (σ 26) ≠ iv (σ 31)) →
    (iv (σ 25) = iv (σ 30)) →
    (iv (σ 24) = iv (σ 29)) →
    (iv (σ 19) = iv (σ 23)) →
    (iv (σ 18) = iv (σ 22)) →
    (iv (σ 17) = iv (σ 21)) →
    (iv (σ 16) = iv (σ 20)) →
    (iv (σ 6) = iv (σ 8)) →
    (bv (σ 13) = !false) →
    (bv (σ 9) = !false) →
    datesR [σ 0, σ 1, σ 2, σ 3, (Value.bool false)]

def dates_L8 : Prop := ∀ σ : Nat → Value,
    (σ 0 = .int .u64 (iv (σ 0))) →
    (σ 1 = .int .i64 (iv (σ 1))) →
    (σ 2 = .int .i64 (iv (σ 2))) →
    (σ 3 = .int .i64 (iv (σ 3))) →
    (σ 4 = .float .f64 (fv (σ 4))) →
    (σ 5 = .float .f64 (fv (σ 5))) →
    (σ 6 = .int .i64 (iv (σ 6))) →
    (σ 7 = .float .f64 (fv (σ 7))) →
    (σ 8 = .int .i64 (iv (σ 8))) →
    (σ 9 = .bool (bv (σ 9))) →
    (σ 11 = .int .u64 (iv (σ 11))) →
    (σ 12 = .int .u64 (iv (σ 12))) →
    (σ 13 = .bool (bv (σ 13))) →
    (σ 16 = .int .i64 (iv (σ 16))) →
    (σ 17 = .int .i64 (iv (σ 17))) →
    (σ 18 = .int .i64 (iv (σ 18))) →
    (σ 19 = .int .i64 (iv (σ 19))) →
    (σ 20 = .int .i64 (iv (σ 20))) →
    (σ 21 = .int .i64 (iv (σ 21))) →
    (σ 22 = .int .i64 (iv (σ 22))) →
    (σ 23 = .int .i64 (iv (σ 23))) →
    (σ 24 = .int .i64 (iv (σ 24))) →
    (σ 25 = .int .i64 (iv (σ 25))) →
    (σ 26 = .int .i64 (iv (σ 26))) →
    (σ 27 = .int .i64 (iv (σ 27))) →
    (σ 28 = .int .i64 (iv (σ 28))) →
    (σ 29 = .int .i64 (iv (σ 29))) →
    (σ 30 = .int .i64 (iv (σ 30))) →
    (σ 31 = .int .i64 (iv (σ 31))) →
    (σ 32 = .int .i64 (iv (σ 32))) →
    (σ 33 = .int .i64 (iv (σ 33))) →
    (σ 34 = .int .i64 (iv (σ 34))) →
    (σ 35 = .int .i64 (iv (σ 35))) →
    (σ 36 = .int .i64 (iv (σ 36))) →
    (σ 37 = .int .i64 (iv (σ 37))) →
    (extRel .ffrom [σ 0] (σ 4)) →
    (fromR [σ 1, σ 2, σ 3, σ 5, σ 6]) →
    (fromR [σ 1, σ 2, σ 3, σ 7, σ 8]) →
    (isTrue [σ 9]) →
    (extRel .fbits [σ 5] (σ 11)) →
    (extRel .fbits [σ 7] (σ 12)) →
    (bv (σ 13) = decide (iv (σ 11) = iv (σ 12))) →
    (toR [σ 4, σ 16, σ 17, σ 18, σ 19]) →
    (toR [σ 4, σ 20, σ 21, σ 22, σ 23]) →
    (clockR [σ 4, σ 24, σ 25, σ 26, σ 27, σ 28]) →
    (clockR [σ 4, σ 29, σ 30, σ 31, σ 32, σ 33]) →
    (wdR [σ 4, σ 34, σ 35]) →
    (wdR [σ 4, σ 36, σ 37]) →
    (iv (σ 25) ≠ iv (σ 30)) →
    (iv (σ 24) = iv (σ 29)) →
    (iv (σ 19) = iv (σ 23)) →
    (iv (σ 18) = iv (σ 22)) →
    (iv (σ 17) = iv (σ 21)) →
    (iv (σ 16) = iv (σ 20)) →
    (iv (σ 6) = iv (σ 8)) →
    (bv (σ 13) = !false) →
    (bv (σ 9) = !false) →
    datesR [σ 0, σ 1, σ 2, σ 3, (Value.bool false)]

def dates_L9 : Prop := ∀ σ : Nat → Value,
    (σ 0 = .int .u64 (iv (σ 0))) →
    (σ 1 = .int .i64 (iv (σ 1))) →
    (σ 2 = .int .i64 (iv (σ 2))) →
    (σ 3 = .int .i64 (iv (σ 3))) →
    (σ 4 = .float .f64 (fv (σ 4))) →
    (σ 5 = .float .f64 (fv (σ 5))) →
    (σ 6 = .int .i64 (iv (σ 6))) →
    (σ 7 = .float .f64 (fv (σ 7))) →
    (σ 8 = .int .i64 (iv (σ 8))) →
    (σ 9 = .bool (bv (σ 9))) →
    (σ 11 = .int .u64 (iv (σ 11))) →
    (σ 12 = .int .u64 (iv (σ 12))) →
    (σ 13 = .bool (bv (σ 13))) →
    (σ 16 = .int .i64 (iv (σ 16))) →
    (σ 17 = .int .i64 (iv (σ 17))) →
    (σ 18 = .int .i64 (iv (σ 18))) →
    (σ 19 = .int .i64 (iv (σ 19))) →
    (σ 20 = .int .i64 (iv (σ 20))) →
    (σ 21 = .int .i64 (iv (σ 21))) →
    (σ 22 = .int .i64 (iv (σ 22))) →
    (σ 23 = .int .i64 (iv (σ 23))) →
    (σ 24 = .int .i64 (iv (σ 24))) →
    (σ 25 = .int .i64 (iv (σ 25))) →
    (σ 26 = .int .i64 (iv (σ 26))) →
    (σ 27 = .int .i64 (iv (σ 27))) →
    (σ 28 = .int .i64 (iv (σ 28))) →
    (σ 29 = .int .i64 (iv (σ 29))) →
    (σ 30 = .int .i64 (iv (σ 30))) →
    (σ 31 = .int .i64 (iv (σ 31))) →
    (σ 32 = .int .i64 (iv (σ 32))) →
    (σ 33 = .int .i64 (iv (σ 33))) →
    (σ 34 = .int .i64 (iv (σ 34))) →
    (σ 35 = .int .i64 (iv (σ 35))) →
    (σ 36 = .int .i64 (iv (σ 36))) →
    (σ 37 = .int .i64 (iv (σ 37))) →
    (extRel .ffrom [σ 0] (σ 4)) →
    (fromR [σ 1, σ 2, σ 3, σ 5, σ 6]) →
    (fromR [σ 1, σ 2, σ 3, σ 7, σ 8]) →
    (isTrue [σ 9]) →
    (extRel .fbits [σ 5] (σ 11)) →
    (extRel .fbits [σ 7] (σ 12)) →
    (bv (σ 13) = decide (iv (σ 11) = iv (σ 12))) →
    (toR [σ 4, σ 16, σ 17, σ 18, σ 19]) →
    (toR [σ 4, σ 20, σ 21, σ 22, σ 23]) →
    (clockR [σ 4, σ 24, σ 25, σ 26, σ 27, σ 28]) →
    (clockR [σ 4, σ 29, σ 30, σ 31, σ 32, σ 33]) →
    (wdR [σ 4, σ 34, σ 35]) →
    (wdR [σ 4, σ 36, σ 37]) →
    (iv (σ 24) ≠ iv (σ 29)) →
    (iv (σ 19) = iv (σ 23)) →
    (iv (σ 18) = iv (σ 22)) →
    (iv (σ 17) = iv (σ 21)) →
    (iv (σ 16) = iv (σ 20)) →
    (iv (σ 6) = iv (σ 8)) →
    (bv (σ 13) = !false) →
    (bv (σ 9) = !false) →
    datesR [σ 0, σ 1, σ 2, σ 3, (Value.bool false)]

def dates_L10 : Prop := ∀ σ : Nat → Value,
    (σ 0 = .int .u64 (iv (σ 0))) →
    (σ 1 = .int .i64 (iv (σ 1))) →
    (σ 2 = .int .i64 (iv (σ 2))) →
    (σ 3 = .int .i64 (iv (σ 3))) →
    (σ 4 = .float .f64 (fv (σ 4))) →
    (σ 5 = .float .f64 (fv (σ 5))) →
    (σ 6 = .int .i64 (iv (σ 6))) →
    (σ 7 = .float .f64 (fv (σ 7))) →
    (σ 8 = .int .i64 (iv (σ 8))) →
    (σ 9 = .bool (bv (σ 9))) →
    (σ 11 = .int .u64 (iv (σ 11))) →
    (σ 12 = .int .u64 (iv (σ 12))) →
    (σ 13 = .bool (bv (σ 13))) →
    (σ 16 = .int .i64 (iv (σ 16))) →
    (σ 17 = .int .i64 (iv (σ 17))) →
    (σ 18 = .int .i64 (iv (σ 18))) →
    (σ 19 = .int .i64 (iv (σ 19))) →
    (σ 20 = .int .i64 (iv (σ 20))) →
    (σ 21 = .int .i64 (iv (σ 21))) →
    (σ 22 = .int .i64 (iv (σ 22))) →
    (σ 23 = .int .i64 (iv (σ 23))) →
    (σ 24 = .int .i64 (iv (σ 24))) →
    (σ 25 = .int .i64 (iv (σ 25))) →
    (σ 26 = .int .i64 (iv (σ 26))) →
    (σ 27 = .int .i64 (iv (σ 27))) →
    (σ 28 = .int .i64 (iv (σ 28))) →
    (σ 29 = .int .i64 (iv (σ 29))) →
    (σ 30 = .int .i64 (iv (σ 30))) →
    (σ 31 = .int .i64 (iv (σ 31))) →
    (σ 32 = .int .i64 (iv (σ 32))) →
    (σ 33 = .int .i64 (iv (σ 33))) →
    (σ 34 = .int .i64 (iv (σ 34))) →
    (σ 35 = .int .i64 (iv (σ 35))) →
    (σ 36 = .int .i64 (iv (σ 36))) →
    (σ 37 = .int .i64 (iv (σ 37))) →
    (extRel .ffrom [σ 0] (σ 4)) →
    (fromR [σ 1, σ 2, σ 3, σ 5, σ 6]) →
    (fromR [σ 1, σ 2, σ 3, σ 7, σ 8]) →
    (isTrue [σ 9]) →
    (extRel .fbits [σ 5] (σ 11)) →
    (extRel .fbits [σ 7] (σ 12)) →
    (bv (σ 13) = decide (iv (σ 11) = iv (σ 12))) →
    (toR [σ 4, σ 16, σ 17, σ 18, σ 19]) →
    (toR [σ 4, σ 20, σ 21, σ 22, σ 23]) →
    (clockR [σ 4, σ 24, σ 25, σ 26, σ 27, σ 28]) →
    (clockR [σ 4, σ 29, σ 30, σ 31, σ 32, σ 33]) →
    (wdR [σ 4, σ 34, σ 35]) →
    (wdR [σ 4, σ 36, σ 37]) →
    (iv (σ 19) ≠ iv (σ 23)) →
    (iv (σ 18) = iv (σ 22)) →
    (iv (σ 17) = iv (σ 21)) →
    (iv (σ 16) = iv (σ 20)) →
    (iv (σ 6) = iv (σ 8)) →
    (bv (σ 13) = !false) →
    (bv (σ 9) = !false) →
    datesR [σ 0, σ 1, σ 2, σ 3, (Value.bool false)]

def dates_L11 : Prop := ∀ σ : Nat → Value,
    (σ 0 = .int .u64 (iv (σ 0))) →
    (σ 1 = .int .i64 (iv (σ 1))) →
    (σ 2 = .int .i64 (iv (σ 2))) →
    (σ 3 = .int .i64 (iv (σ 3))) →
    (σ 4 = .float .f64 (fv (σ 4))) →
    (σ 5 = .float .f64 (fv (σ 5))) →
    (σ 6 = .int .i64 (iv (σ 6))) →
    (σ 7 = .float .f64 (fv (σ 7))) →
    (σ 8 = .int .i64 (iv (σ 8))) →
    (σ 9 = .bool (bv (σ 9))) →
    (σ 11 = .int .u64 (iv (σ 11))) →
    (σ 12 = .int .u64 (iv (σ 12))) →
    (σ 13 = .bool (bv (σ 13))) →
    (σ 16 = .int .i64 (iv (σ 16))) →
    (σ 17 = .int .i64 (iv (σ 17))) →
    (σ 18 = .int .i64 (iv (σ 18))) →
    (σ 19 = .int .i64 (iv (σ 19))) →
    (σ 20 = .int .i64 (iv (σ 20))) →
    (σ 21 = .int .i64 (iv (σ 21))) →
    (σ 22 = .int .i64 (iv (σ 22))) →
    (σ 23 = .int .i64 (iv (σ 23))) →
    (σ 24 = .int .i64 (iv (σ 24))) →
    (σ 25 = .int .i64 (iv (σ 25))) →
    (σ 26 = .int .i64 (iv (σ 26))) →
    (σ 27 = .int .i64 (iv (σ 27))) →
    (σ 28 = .int .i64 (iv (σ 28))) →
    (σ 29 = .int .i64 (iv (σ 29))) →
    (σ 30 = .int .i64 (iv (σ 30))) →
    (σ 31 = .int .i64 (iv (σ 31))) →
    (σ 32 = .int .i64 (iv (σ 32))) →
    (σ 33 = .int .i64 (iv (σ 33))) →
    (σ 34 = .int .i64 (iv (σ 34))) →
    (σ 35 = .int .i64 (iv (σ 35))) →
    (σ 36 = .int .i64 (iv (σ 36))) →
    (σ 37 = .int .i64 (iv (σ 37))) →
    (extRel .ffrom [σ 0] (σ 4)) →
    (fromR [σ 1, σ 2, σ 3, σ 5, σ 6]) →
    (fromR [σ 1, σ 2, σ 3, σ 7, σ 8]) →
    (isTrue [σ 9]) →
    (extRel .fbits [σ 5] (σ 11)) →
    (extRel .fbits [σ 7] (σ 12)) →
    (bv (σ 13) = decide (iv (σ 11) = iv (σ 12))) →
    (toR [σ 4, σ 16, σ 17, σ 18, σ 19]) →
    (toR [σ 4, σ 20, σ 21, σ 22, σ 23]) →
    (clockR [σ 4, σ 24, σ 25, σ 26, σ 27, σ 28]) →
    (clockR [σ 4, σ 29, σ 30, σ 31, σ 32, σ 33]) →
    (wdR [σ 4, σ 34, σ 35]) →
    (wdR [σ 4, σ 36, σ 37]) →
    (iv (σ 18) ≠ iv (σ 22)) →
    (iv (σ 17) = iv (σ 21)) →
    (iv (σ 16) = iv (σ 20)) →
    (iv (σ 6) = iv (σ 8)) →
    (bv (σ 13) = !false) →
    (bv (σ 9) = !false) →
    datesR [σ 0, σ 1, σ 2, σ 3, (Value.bool false)]

def dates_L12 : Prop := ∀ σ : Nat → Value,
    (σ 0 = .int .u64 (iv (σ 0))) →
    (σ 1 = .int .i64 (iv (σ 1))) →
    (σ 2 = .int .i64 (iv (σ 2))) →
    (σ 3 = .int .i64 (iv (σ 3))) →
    (σ 4 = .float .f64 (fv (σ 4))) →
    (σ 5 = .float .f64 (fv (σ 5))) →
    (σ 6 = .int .i64 (iv (σ 6))) →
    (σ 7 = .float .f64 (fv (σ 7))) →
    (σ 8 = .int .i64 (iv (σ 8))) →
    (σ 9 = .bool (bv (σ 9))) →
    (σ 11 = .int .u64 (iv (σ 11))) →
    (σ 12 = .int .u64 (iv (σ 12))) →
    (σ 13 = .bool (bv (σ 13))) →
    (σ 16 = .int .i64 (iv (σ 16))) →
    (σ 17 = .int .i64 (iv (σ 17))) →
    (σ 18 = .int .i64 (iv (σ 18))) →
    (σ 19 = .int .i64 (iv (σ 19))) →
    (σ 20 = .int .i64 (iv (σ 20))) →
    (σ 21 = .int .i64 (iv (σ 21))) →
    (σ 22 = .int .i64 (iv (σ 22))) →
    (σ 23 = .int .i64 (iv (σ 23))) →
    (σ 24 = .int .i64 (iv (σ 24))) →
    (σ 25 = .int .i64 (iv (σ 25))) →
    (σ 26 = .int .i64 (iv (σ 26))) →
    (σ 27 = .int .i64 (iv (σ 27))) →
    (σ 28 = .int .i64 (iv (σ 28))) →
    (σ 29 = .int .i64 (iv (σ 29))) →
    (σ 30 = .int .i64 (iv (σ 30))) →
    (σ 31 = .int .i64 (iv (σ 31))) →
    (σ 32 = .int .i64 (iv (σ 32))) →
    (σ 33 = .int .i64 (iv (σ 33))) →
    (σ 34 = .int .i64 (iv (σ 34))) →
    (σ 35 = .int .i64 (iv (σ 35))) →
    (σ 36 = .int .i64 (iv (σ 36))) →
    (σ 37 = .int .i64 (iv (σ 37))) →
    (extRel .ffrom [σ 0] (σ 4)) →
    (fromR [σ 1, σ 2, σ 3, σ 5, σ 6]) →
    (fromR [σ 1, σ 2, σ 3, σ 7, σ 8]) →
    (isTrue [σ 9]) →
    (extRel .fbits [σ 5] (σ 11)) →
    (extRel .fbits [σ 7] (σ 12)) →
    (bv (σ 13) = decide (iv (σ 11) = iv (σ 12))) →
    (toR [σ 4, σ 16, σ 17, σ 18, σ 19]) →
    (toR [σ 4, σ 20, σ 21, σ 22, σ 23]) →
    (clockR [σ 4, σ 24, σ 25, σ 26, σ 27, σ 28]) →
    (clockR [σ 4, σ 29, σ 30, σ 31, σ 32, σ 33]) →
    (wdR [σ 4, σ 34, σ 35]) →
    (wdR [σ 4, σ 36, σ 37]) →
    (iv (σ 17) ≠ iv (σ 21)) →
    (iv (σ 16) = iv (σ 20)) →
    (iv (σ 6) = iv (σ 8)) →
    (bv (σ 13) = !false) →
    (bv (σ 9) = !false) →
    datesR [σ 0, σ 1, σ 2, σ 3, (Value.bool false)]

def dates_L13 : Prop := ∀ σ : Nat → Value,
    (σ 0 = .int .u64 (iv (σ 0))) →
    (σ 1 = .int .i64 (iv (σ 1))) →
    (σ 2 = .int .i64 (iv (σ 2))) →
    (σ 3 = .int .i64 (iv (σ 3))) →
    (σ 4 = .float .f64 (fv (σ 4))) →
    (σ 5 = .float .f64 (fv (σ 5))) →
    (σ 6 = .int .i64 (iv (σ 6))) →
    (σ 7 = .float .f64 (fv (σ 7))) →
    (σ 8 = .int .i64 (iv (σ 8))) →
    (σ 9 = .bool (bv (σ 9))) →
    (σ 11 = .int .u64 (iv (σ 11))) →
    (σ 12 = .int .u64 (iv (σ 12))) →
    (σ 13 = .bool (bv (σ 13))) →
    (σ 16 = .int .i64 (iv (σ 16))) →
    (σ 17 = .int .i64 (iv (σ 17))) →
    (σ 18 = .int .i64 (iv (σ 18))) →
    (σ 19 = .int .i64 (iv (σ 19))) →
    (σ 20 = .int .i64 (iv (σ 20))) →
    (σ 21 = .int .i64 (iv (σ 21))) →
    (σ 22 = .int .i64 (iv (σ 22))) →
    (σ 23 = .int .i64 (iv (σ 23))) →
    (σ 24 = .int .i64 (iv (σ 24))) →
    (σ 25 = .int .i64 (iv (σ 25))) →
    (σ 26 = .int .i64 (iv (σ 26))) →
    (σ 27 = .int .i64 (iv (σ 27))) →
    (σ 28 = .int .i64 (iv (σ 28))) →
    (σ 29 = .int .i64 (iv (σ 29))) →
    (σ 30 = .int .i64 (iv (σ 30))) →
    (σ 31 = .int .i64 (iv (σ 31))) →
    (σ 32 = .int .i64 (iv (σ 32))) →
    (σ 33 = .int .i64 (iv (σ 33))) →
    (σ 34 = .int .i64 (iv (σ 34))) →
    (σ 35 = .int .i64 (iv (σ 35))) →
    (σ 36 = .int .i64 (iv (σ 36))) →
    (σ 37 = .int .i64 (iv (σ 37))) →
    (extRel .ffrom [σ 0] (σ 4)) →
    (fromR [σ 1, σ 2, σ 3, σ 5, σ 6]) →
    (fromR [σ 1, σ 2, σ 3, σ 7, σ 8]) →
    (isTrue [σ 9]) →
    (extRel .fbits [σ 5] (σ 11)) →
    (extRel .fbits [σ 7] (σ 12)) →
    (bv (σ 13) = decide (iv (σ 11) = iv (σ 12))) →
    (toR [σ 4, σ 16, σ 17, σ 18, σ 19]) →
    (toR [σ 4, σ 20, σ 21, σ 22, σ 23]) →
    (clockR [σ 4, σ 24, σ 25, σ 26, σ 27, σ 28]) →
    (clockR [σ 4, σ 29, σ 30, σ 31, σ 32, σ 33]) →
    (wdR [σ 4, σ 34, σ 35]) →
    (wdR [σ 4, σ 36, σ 37]) →
    (iv (σ 16) ≠ iv (σ 20)) →
    (iv (σ 6) = iv (σ 8)) →
    (bv (σ 13) = !false) →
    (bv (σ 9) = !false) →
    datesR [σ 0, σ 1, σ 2, σ 3, (Value.bool false)]

theorem dates_tie : datesC.goals (cfgC Tryz.prog (entersOf Tryz.prog) X [fromC, rFromC, liveC, toC, rToC, clockC, rClockC, wdC, rWdC]) [] 2000 = (dates_L0 ∧ dates_L1 ∧ dates_L2 ∧ dates_L3 ∧ dates_L4 ∧ dates_L5 ∧ dates_L6 ∧ dates_L7 ∧ dates_L8 ∧ dates_L9 ∧ dates_L10 ∧ dates_L11 ∧ dates_L12 ∧ dates_L13 ∧ True) := by kernel_rfl

theorem dates_L0_ok : dates_L0 := by
  intro σ; intros
  have h := ‹isTrue [σ 9]›
  simp only [isTrue, List.cons.injEq, and_true] at h
  have c := ‹bv (σ 9) = !true›
  rw [h] at c; cases c
theorem dates_L1_ok : dates_L1 := by
  intro σ; intros
  have u := fromR_uniq ‹fromR [σ 1, σ 2, σ 3, σ 5, σ 6]› ‹fromR [σ 1, σ 2, σ 3, σ 7, σ 8]›
  have e1 := fbits_iv ‹σ 5 = .float .f64 (fv (σ 5))› ‹extRel .fbits [σ 5] (σ 11)›
  have e2 := fbits_iv ‹σ 7 = .float .f64 (fv (σ 7))› ‹extRel .fbits [σ 7] (σ 12)›
  have c : bv (σ 13) = true := Eq.trans ‹bv (σ 13) = decide _› (decide_eq_true (by rw [e1, e2, u.1]))
  rw [‹bv (σ 13) = !true›] at c; cases c
theorem dates_L2_ok : dates_L2 := by
  intro σ; intros
  have u := fromR_uniq ‹fromR [σ 1, σ 2, σ 3, σ 5, σ 6]› ‹fromR [σ 1, σ 2, σ 3, σ 7, σ 8]›
  exact absurd u.2 ‹_›
theorem dates_L3_ok : dates_L3 := by
  intro σ; intros
  have u := fromR_uniq ‹fromR [σ 1, σ 2, σ 3, σ 5, σ 6]› ‹fromR [σ 1, σ 2, σ 3, σ 7, σ 8]›
  have v := toR_uniq ‹toR [σ 4, σ 16, σ 17, σ 18, σ 19]› ‹toR [σ 4, σ 20, σ 21, σ 22, σ 23]›
  have k := clockR_uniq ‹clockR [σ 4, σ 24, σ 25, σ 26, σ 27, σ 28]› ‹clockR [σ 4, σ 29, σ 30, σ 31, σ 32, σ 33]›
  have w := wdR_uniq ‹wdR [σ 4, σ 34, σ 35]› ‹wdR [σ 4, σ 36, σ 37]›
  exact Eq.trans ‹bv (σ 48) = decide _› (decide_eq_true w.2)
theorem dates_L4_ok : dates_L4 := by
  intro σ; intros
  have u := fromR_uniq ‹fromR [σ 1, σ 2, σ 3, σ 5, σ 6]› ‹fromR [σ 1, σ 2, σ 3, σ 7, σ 8]›
  have v := toR_uniq ‹toR [σ 4, σ 16, σ 17, σ 18, σ 19]› ‹toR [σ 4, σ 20, σ 21, σ 22, σ 23]›
  have k := clockR_uniq ‹clockR [σ 4, σ 24, σ 25, σ 26, σ 27, σ 28]› ‹clockR [σ 4, σ 29, σ 30, σ 31, σ 32, σ 33]›
  have w := wdR_uniq ‹wdR [σ 4, σ 34, σ 35]› ‹wdR [σ 4, σ 36, σ 37]›
  exact absurd (show iv (σ 34) = iv (σ 36) by omega) ‹_›
theorem dates_L5_ok : dates_L5 := by
  intro σ; intros
  have u := fromR_uniq ‹fromR [σ 1, σ 2, σ 3, σ 5, σ 6]› ‹fromR [σ 1, σ 2, σ 3, σ 7, σ 8]›
  have v := toR_uniq ‹toR [σ 4, σ 16, σ 17, σ 18, σ 19]› ‹toR [σ 4, σ 20, σ 21, σ 22, σ 23]›
  have k := clockR_uniq ‹clockR [σ 4, σ 24, σ 25, σ 26, σ 27, σ 28]› ‹clockR [σ 4, σ 29, σ 30, σ 31, σ 32, σ 33]›
  have w := wdR_uniq ‹wdR [σ 4, σ 34, σ 35]› ‹wdR [σ 4, σ 36, σ 37]›
  exact absurd (show iv (σ 28) = iv (σ 33) by omega) ‹_›
theorem dates_L6_ok : dates_L6 := by
  intro σ; intros
  have u := fromR_uniq ‹fromR [σ 1, σ 2, σ 3, σ 5, σ 6]› ‹fromR [σ 1, σ 2, σ 3, σ 7, σ 8]›
  have v := toR_uniq ‹toR [σ 4, σ 16, σ 17, σ 18, σ 19]› ‹toR [σ 4, σ 20, σ 21, σ 22, σ 23]›
  have k := clockR_uniq ‹clockR [σ 4, σ 24, σ 25, σ 26, σ 27, σ 28]› ‹clockR [σ 4, σ 29, σ 30, σ 31, σ 32, σ 33]›
  have w := wdR_uniq ‹wdR [σ 4, σ 34, σ 35]› ‹wdR [σ 4, σ 36, σ 37]›
  exact absurd (show iv (σ 27) = iv (σ 32) by omega) ‹_›
theorem dates_L7_ok : dates_L7 := by
  intro σ; intros
  have u := fromR_uniq ‹fromR [σ 1, σ 2, σ 3, σ 5, σ 6]› ‹fromR [σ 1, σ 2, σ 3, σ 7, σ 8]›
  have v := toR_uniq ‹toR [σ 4, σ 16, σ 17, σ 18, σ 19]› ‹toR [σ 4, σ 20, σ 21, σ 22, σ 23]›
  have k := clockR_uniq ‹clockR [σ 4, σ 24, σ 25, σ 26, σ 27, σ 28]› ‹clockR [σ 4, σ 29, σ 30, σ 31, σ 32, σ 33]›
  have w := wdR_uniq ‹wdR [σ 4, σ 34, σ 35]› ‹wdR [σ 4, σ 36, σ 37]›
  exact absurd (show iv (σ 26) = iv (σ 31) by omega) ‹_›
theorem dates_L8_ok : dates_L8 := by
  intro σ; intros
  have u := fromR_uniq ‹fromR [σ 1, σ 2, σ 3, σ 5, σ 6]› ‹fromR [σ 1, σ 2, σ 3, σ 7, σ 8]›
  have v := toR_uniq ‹toR [σ 4, σ 16, σ 17, σ 18, σ 19]› ‹toR [σ 4, σ 20, σ 21, σ 22, σ 23]›
  have k := clockR_uniq ‹clockR [σ 4, σ 24, σ 25, σ 26, σ 27, σ 28]› ‹clockR [σ 4, σ 29, σ 30, σ 31, σ 32, σ 33]›
  have w := wdR_uniq ‹wdR [σ 4, σ 34, σ 35]› ‹wdR [σ 4, σ 36, σ 37]›
  exact absurd (show iv (σ 25) = iv (σ 30) by omega) ‹_›
theorem dates_L9_ok : dates_L9 := by
  intro σ; intros
  have u := fromR_uniq ‹fromR [σ 1, σ 2, σ 3, σ 5, σ 6]› ‹fromR [σ 1, σ 2, σ 3, σ 7, σ 8]›
  have v := toR_uniq ‹toR [σ 4, σ 16, σ 17, σ 18, σ 19]› ‹toR [σ 4, σ 20, σ 21, σ 22, σ 23]›
  have k := clockR_uniq ‹clockR [σ 4, σ 24, σ 25, σ 26, σ 27, σ 28]› ‹clockR [σ 4, σ 29, σ 30, σ 31, σ 32, σ 33]›
  have w := wdR_uniq ‹wdR [σ 4, σ 34, σ 35]› ‹wdR [σ 4, σ 36, σ 37]›
  exact absurd (show iv (σ 24) = iv (σ 29) by omega) ‹_›
theorem dates_L10_ok : dates_L10 := by
  intro σ; intros
  have u := fromR_uniq ‹fromR [σ 1, σ 2, σ 3, σ 5, σ 6]› ‹fromR [σ 1, σ 2, σ 3, σ 7, σ 8]›
  have v := toR_uniq ‹toR [σ 4, σ 16, σ 17, σ 18, σ 19]› ‹toR [σ 4, σ 20, σ 21, σ 22, σ 23]›
  have k := clockR_uniq ‹clockR [σ 4, σ 24, σ 25, σ 26, σ 27, σ 28]› ‹clockR [σ 4, σ 29, σ 30, σ 31, σ 32, σ 33]›
  have w := wdR_uniq ‹wdR [σ 4, σ 34, σ 35]› ‹wdR [σ 4, σ 36, σ 37]›
  exact absurd (show iv (σ 19) = iv (σ 23) by omega) ‹_›
theorem dates_L11_ok : dates_L11 := by
  intro σ; intros
  have u := fromR_uniq ‹fromR [σ 1, σ 2, σ 3, σ 5, σ 6]› ‹fromR [σ 1, σ 2, σ 3, σ 7, σ 8]›
  have v := toR_uniq ‹toR [σ 4, σ 16, σ 17, σ 18, σ 19]› ‹toR [σ 4, σ 20, σ 21, σ 22, σ 23]›
  have k := clockR_uniq ‹clockR [σ 4, σ 24, σ 25, σ 26, σ 27, σ 28]› ‹clockR [σ 4, σ 29, σ 30, σ 31, σ 32, σ 33]›
  have w := wdR_uniq ‹wdR [σ 4, σ 34, σ 35]› ‹wdR [σ 4, σ 36, σ 37]›
  exact absurd (show iv (σ 18) = iv (σ 22) by omega) ‹_›
theorem dates_L12_ok : dates_L12 := by
  intro σ; intros
  have u := fromR_uniq ‹fromR [σ 1, σ 2, σ 3, σ 5, σ 6]› ‹fromR [σ 1, σ 2, σ 3, σ 7, σ 8]›
  have v := toR_uniq ‹toR [σ 4, σ 16, σ 17, σ 18, σ 19]› ‹toR [σ 4, σ 20, σ 21, σ 22, σ 23]›
  have k := clockR_uniq ‹clockR [σ 4, σ 24, σ 25, σ 26, σ 27, σ 28]› ‹clockR [σ 4, σ 29, σ 30, σ 31, σ 32, σ 33]›
  have w := wdR_uniq ‹wdR [σ 4, σ 34, σ 35]› ‹wdR [σ 4, σ 36, σ 37]›
  exact absurd (show iv (σ 17) = iv (σ 21) by omega) ‹_›
theorem dates_L13_ok : dates_L13 := by
  intro σ; intros
  have u := fromR_uniq ‹fromR [σ 1, σ 2, σ 3, σ 5, σ 6]› ‹fromR [σ 1, σ 2, σ 3, σ 7, σ 8]›
  have v := toR_uniq ‹toR [σ 4, σ 16, σ 17, σ 18, σ 19]› ‹toR [σ 4, σ 20, σ 21, σ 22, σ 23]›
  have k := clockR_uniq ‹clockR [σ 4, σ 24, σ 25, σ 26, σ 27, σ 28]› ‹clockR [σ 4, σ 29, σ 30, σ 31, σ 32, σ 33]›
  have w := wdR_uniq ‹wdR [σ 4, σ 34, σ 35]› ‹wdR [σ 4, σ 36, σ 37]›
  exact absurd (show iv (σ 16) = iv (σ 20) by omega) ‹_›
theorem dates_ok : datesC.ok Tryz.prog (Holds nl) :=
  by_tie dates_tie (by kernel_rfl) keeps (all_cons (from_ok keeps) (all_cons (rFrom_ok keeps) (all_cons live_ok (all_cons (to_ok keeps) (all_cons (rTo_ok keeps) (all_cons (clock_ok keeps) (all_cons (rClock_ok keeps) (all_cons (wd_ok keeps) (all_cons (rWd_ok keeps) all_nil))))))))) ⟨dates_L0_ok, dates_L1_ok, dates_L2_ok, dates_L3_ok, dates_L4_ok, dates_L5_ok, dates_L6_ok, dates_L7_ok, dates_L8_ok, dates_L9_ok, dates_L10_ok, dates_L11_ok, dates_L12_ok, dates_L13_ok, trivial⟩
end Go.Proofs.Num
