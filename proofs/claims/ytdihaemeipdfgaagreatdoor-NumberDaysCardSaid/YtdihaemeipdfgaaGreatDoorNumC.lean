/- The law NumberDays: the days one behind the other. -/
import Derived.Test.YtdihaemeipdfgaaGreatDoorNumL
namespace Go.Proofs.Num
open Go.Ev Go.Dates Go.RowKit
set_option maxRecDepth 1000000
def isTrue : List Value → Prop := fun vs => vs = [.bool true]
def daysLR : List Value → Prop | [_, r] => bv r = true | _ => False
def daysLC : Con := { f := 3, ins := [.sc (.intIn .u32 (some 0) (some 4294967295))], out := .sc .bool, id := "daysLR", rel := daysLR }

theorem near_num {x : Nat} {n : Int} (e : x = FloatKind.f64.nearest n) (h1 : -1000000 ≤ n) (h2 : n ≤ 3000000) : Fin64 x ∧ flr x = n := by
  have k := nearest_int (n := n) (by omega) (by omega)
  rw [← e] at k
  exact ⟨k.1, flr_of k.2⟩
theorem toR_num {x y m d e : Value} {n : Int} (hx : fv x = FloatKind.f64.nearest n) (h1 : -693593 ≤ n) (h2 : n ≤ 2958465) (h : toR [x, y, m, d, e]) : iv e = 0 ∧ IsDate (n + 693593) (iv y) (iv m) (iv d) := by
  have k := near_num hx (by omega) (by omega)
  simp only [toR] at h
  rw [k.2] at h
  rcases h with ⟨a, _⟩ | ⟨⟨_, a⟩, _⟩ | ⟨_, a, b⟩
  · exact (a k.1).elim
  · omega
  · exact ⟨a, b⟩
theorem wdR_num {x w e : Value} {n : Int} (hx : fv x = FloatKind.f64.nearest n) (h1 : -693593 ≤ n) (h2 : n ≤ 2958465) (h : wdR [x, w, e]) : iv e = 0 ∧ iv w = (n + 693594) % 7 + 1 := by
  have k := near_num hx (by omega) (by omega)
  simp only [wdR] at h
  rw [k.2] at h
  rcases h with ⟨a, _⟩ | ⟨⟨_, a⟩, _⟩ | ⟨_, a, b⟩
  · exact (a k.1).elim
  · omega
  · exact ⟨a, b⟩
theorem fromR_date {y m d x e : Value} {n : Int} (hd : IsDate (n + 693593) (iv y) (iv m) (iv d)) (h : fromR [y, m, d, x, e]) : iv e = 0 ∧ fv x = FloatKind.f64.nearest n := by
  simp only [fromR] at h
  have o : okD (iv y) (iv m) (iv d) := ⟨hd.y1, hd.y2, hd.m1, hd.m2, hd.d1, hd.d2⟩
  rcases h with ⟨_, a, b⟩ | ⟨a, _⟩
  · refine ⟨a, ?_⟩
    rw [b, hd.day]
    congr 1; omega
  · exact (a o).elim
theorem same_ford {x y : Nat} {n : Int} (hx : x = FloatKind.f64.nearest n) (hy : y = FloatKind.f64.nearest n) (h1 : -1000000 ≤ n) (h2 : n ≤ 3000000) : ford x y = some .eq := by
  rw [hx, ← hy]
  exact order_self (near_num hy h1 h2).1

def daysL_L0 : Prop := ∀ σ : Nat → Value,
    (σ 0 = .int .u32 (iv (σ 0))) →
    (0 ≤ iv (σ 0)) →
    (iv (σ 0) ≤ 4294967295) →
    (σ 1 = .int .u32 (iv (σ 1))) →
    (σ 2 = .int .i64 (iv (σ 2))) →
    (σ 3 = .int .i64 (iv (σ 3))) →
    (σ 4 = .float .f64 (fv (σ 4))) →
    (σ 5 = .int .i64 (iv (σ 5))) →
    (σ 6 = .int .i64 (iv (σ 6))) →
    (σ 7 = .int .i64 (iv (σ 7))) →
    (σ 8 = .int .i64 (iv (σ 8))) →
    (σ 9 = .float .f64 (fv (σ 9))) →
    (σ 10 = .int .i64 (iv (σ 10))) →
    (σ 11 = .bool (bv (σ 11))) →
    (iv (σ 1) = (iv (σ 0) : Int).tmod (3652059)) →
    (iv (σ 2) = IntKind.i64.wrap (iv (σ 1))) →
    (iv (σ 3) = IntKind.i64.wrap (iv (σ 2) - 693593)) →
    (fv (σ 4) = FloatKind.f64.nearest (iv (σ 3))) →
    (toR [σ 4, σ 5, σ 6, σ 7, σ 8]) →
    (fromR [σ 5, σ 6, σ 7, σ 9, σ 10]) →
    (isTrue [σ 11]) →
    (bv (σ 11) = !true) →
    daysLR [σ 0, (Value.bool false)]

def daysL_L1 : Prop := ∀ σ : Nat → Value,
    (σ 0 = .int .u32 (iv (σ 0))) →
    (0 ≤ iv (σ 0)) →
    (iv (σ 0) ≤ 4294967295) →
    (σ 1 = .int .u32 (iv (σ 1))) →
    (σ 2 = .int .i64 (iv (σ 2))) →
    (σ 3 = .int .i64 (iv (σ 3))) →
    (σ 4 = .float .f64 (fv (σ 4))) →
    (σ 5 = .int .i64 (iv (σ 5))) →
    (σ 6 = .int .i64 (iv (σ 6))) →
    (σ 7 = .int .i64 (iv (σ 7))) →
    (σ 8 = .int .i64 (iv (σ 8))) →
    (σ 9 = .float .f64 (fv (σ 9))) →
    (σ 10 = .int .i64 (iv (σ 10))) →
    (σ 11 = .bool (bv (σ 11))) →
    (iv (σ 1) = (iv (σ 0) : Int).tmod (3652059)) →
    (iv (σ 2) = IntKind.i64.wrap (iv (σ 1))) →
    (iv (σ 3) = IntKind.i64.wrap (iv (σ 2) - 693593)) →
    (fv (σ 4) = FloatKind.f64.nearest (iv (σ 3))) →
    (toR [σ 4, σ 5, σ 6, σ 7, σ 8]) →
    (fromR [σ 5, σ 6, σ 7, σ 9, σ 10]) →
    (isTrue [σ 11]) →
    (iv (σ 8) ≠ 0) →
    (bv (σ 11) = !false) →
    daysLR [σ 0, (Value.bool false)]

def daysL_L2 : Prop := ∀ σ : Nat → Value,
    (σ 0 = .int .u32 (iv (σ 0))) →
    (0 ≤ iv (σ 0)) →
    (iv (σ 0) ≤ 4294967295) →
    (σ 1 = .int .u32 (iv (σ 1))) →
    (σ 2 = .int .i64 (iv (σ 2))) →
    (σ 3 = .int .i64 (iv (σ 3))) →
    (σ 4 = .float .f64 (fv (σ 4))) →
    (σ 5 = .int .i64 (iv (σ 5))) →
    (σ 6 = .int .i64 (iv (σ 6))) →
    (σ 7 = .int .i64 (iv (σ 7))) →
    (σ 8 = .int .i64 (iv (σ 8))) →
    (σ 9 = .float .f64 (fv (σ 9))) →
    (σ 10 = .int .i64 (iv (σ 10))) →
    (σ 11 = .bool (bv (σ 11))) →
    (iv (σ 1) = (iv (σ 0) : Int).tmod (3652059)) →
    (iv (σ 2) = IntKind.i64.wrap (iv (σ 1))) →
    (iv (σ 3) = IntKind.i64.wrap (iv (σ 2) - 693593)) →
    (fv (σ 4) = FloatKind.f64.nearest (iv (σ 3))) →
    (toR [σ 4, σ 5, σ 6, σ 7, σ 8]) →
    (fromR [σ 5, σ 6, σ 7, σ 9, σ 10]) →
    (isTrue [σ 11]) →
    (iv (σ 10) ≠ 0) →
    (iv (σ 8) = 0) →
    (bv (σ 11) = !false) →
    daysLR [σ 0, (Value.bool false)]

def daysL_L3 : Prop := ∀ σ : Nat → Value,
    (σ 0 = .int .u32 (iv (σ 0))) →
    (0 ≤ iv (σ 0)) →
    (iv (σ 0) ≤ 4294967295) →
    (σ 1 = .int .u32 (iv (σ 1))) →
    (σ 2 = .int .i64 (iv (σ 2))) →
    (σ 3 = .int .i64 (iv (σ 3))) →
    (σ 4 = .float .f64 (fv (σ 4))) →
    (σ 5 = .int .i64 (iv (σ 5))) →
    (σ 6 = .int .i64 (iv (σ 6))) →
    (σ 7 = .int .i64 (iv (σ 7))) →
    (σ 8 = .int .i64 (iv (σ 8))) →
    (σ 9 = .float .f64 (fv (σ 9))) →
    (σ 10 = .int .i64 (iv (σ 10))) →
    (σ 11 = .bool (bv (σ 11))) →
    (iv (σ 1) = (iv (σ 0) : Int).tmod (3652059)) →
    (iv (σ 2) = IntKind.i64.wrap (iv (σ 1))) →
    (iv (σ 3) = IntKind.i64.wrap (iv (σ 2) - 693593)) →
    (fv (σ 4) = FloatKind.f64.nearest (iv (σ 3))) →
    (toR [σ 4, σ 5, σ 6, σ 7, σ 8]) →
    (fromR [σ 5, σ 6, σ 7, σ 9, σ 10]) →
    (isTrue [σ 11]) →
    (ford (fv (σ 9)) (fv (σ 4)) ≠ some .eq) →
    (iv (σ 10) = 0) →
    (iv (σ 8) = 0) →
    (bv (σ 11) = !false) →
    daysLR [σ 0, (Value.bool false)]

def daysL_L4 : Prop := ∀ σ : Nat → Value,
    (σ 0 = .int .u32 (iv (σ 0))) →
    (0 ≤ iv (σ 0)) →
    (iv (σ 0) ≤ 4294967295) →
    (σ 1 = .int .u32 (iv (σ 1))) →
    (σ 2 = .int .i64 (iv (σ 2))) →
    (σ 3 = .int .i64 (iv (σ 3))) →
    (σ 4 = .float .f64 (fv (σ 4))) →
    (σ 5 = .int .i64 (iv (σ 5))) →
    (σ 6 = .int .i64 (iv (σ 6))) →
    (σ 7 = .int .i64 (iv (σ 7))) →
    (σ 8 = .int .i64 (iv (σ 8))) →
    (σ 9 = .float .f64 (fv (σ 9))) →
    (σ 10 = .int .i64 (iv (σ 10))) →
    (σ 11 = .bool (bv (σ 11))) →
    (σ 16 = .int .i64 (iv (σ 16))) →
    (σ 17 = .int .i64 (iv (σ 17))) →
    (σ 20 = .bool (bv (σ 20))) →
    (iv (σ 1) = (iv (σ 0) : Int).tmod (3652059)) →
    (iv (σ 2) = IntKind.i64.wrap (iv (σ 1))) →
    (iv (σ 3) = IntKind.i64.wrap (iv (σ 2) - 693593)) →
    (fv (σ 4) = FloatKind.f64.nearest (iv (σ 3))) →
    (toR [σ 4, σ 5, σ 6, σ 7, σ 8]) →
    (fromR [σ 5, σ 6, σ 7, σ 9, σ 10]) →
    (isTrue [σ 11]) →
    (wdR [σ 4, σ 16, σ 17]) →
    (bv (σ 20) = decide (iv (σ 16) ≤ 7)) →
    (1 ≤ iv (σ 16)) →
    (iv (σ 3) = 2958465) →
    (ford (fv (σ 9)) (fv (σ 4)) = some .eq) →
    (iv (σ 10) = 0) →
    (iv (σ 8) = 0) →
    (bv (σ 11) = !false) →
    daysLR [σ 0, σ 20]

def daysL_L5 : Prop := ∀ σ : Nat → Value,
    (σ 0 = .int .u32 (iv (σ 0))) →
    (0 ≤ iv (σ 0)) →
    (iv (σ 0) ≤ 4294967295) →
    (σ 1 = .int .u32 (iv (σ 1))) →
    (σ 2 = .int .i64 (iv (σ 2))) →
    (σ 3 = .int .i64 (iv (σ 3))) →
    (σ 4 = .float .f64 (fv (σ 4))) →
    (σ 5 = .int .i64 (iv (σ 5))) →
    (σ 6 = .int .i64 (iv (σ 6))) →
    (σ 7 = .int .i64 (iv (σ 7))) →
    (σ 8 = .int .i64 (iv (σ 8))) →
    (σ 9 = .float .f64 (fv (σ 9))) →
    (σ 10 = .int .i64 (iv (σ 10))) →
    (σ 11 = .bool (bv (σ 11))) →
    (σ 16 = .int .i64 (iv (σ 16))) →
    (σ 17 = .int .i64 (iv (σ 17))) →
    (iv (σ 1) = (iv (σ 0) : Int).tmod (3652059)) →
    (iv (σ 2) = IntKind.i64.wrap (iv (σ 1))) →
    (iv (σ 3) = IntKind.i64.wrap (iv (σ 2) - 693593)) →
    (fv (σ 4) = FloatKind.f64.nearest (iv (σ 3))) →
    (toR [σ 4, σ 5, σ 6, σ 7, σ 8]) →
    (fromR [σ 5, σ 6, σ 7, σ 9, σ 10]) →
    (isTrue [σ 11]) →
    (wdR [σ 4, σ 16, σ 17]) →
    (iv (σ 16) < 1) →
    (iv (σ 3) = 2958465) →
    (ford (fv (σ 9)) (fv (σ 4)) = some .eq) →
    (iv (σ 10) = 0) →
    (iv (σ 8) = 0) →
    (bv (σ 11) = !false) →
    daysLR [σ 0, (Value.bool false)]

def daysL_L6 : Prop := ∀ σ : Nat → Value,
    (σ 0 = .int .u32 (iv (σ 0))) →
    (0 ≤ iv (σ 0)) →
    (iv (σ 0) ≤ 4294967295) →
    (σ 1 = .int .u32 (iv (σ 1))) →
    (σ 2 = .int .i64 (iv (σ 2))) →
    (σ 3 = .int .i64 (iv (σ 3))) →
    (σ 4 = .float .f64 (fv (σ 4))) →
    (σ 5 = .int .i64 (iv (σ 5))) →
    (σ 6 = .int .i64 (iv (σ 6))) →
    (σ 7 = .int .i64 (iv (σ 7))) →
    (σ 8 = .int .i64 (iv (σ 8))) →
    (σ 9 = .float .f64 (fv (σ 9))) →
    (σ 10 = .int .i64 (iv (σ 10))) →
    (σ 11 = .bool (bv (σ 11))) →
    (σ 16 = .int .i64 (iv (σ 16))) →
    (σ 17 = .int .i64 (iv (σ 17))) →
    (σ 19 = .int .i64 (iv (σ 19))) →
    (σ 20 = .float .f64 (fv (σ 20))) →
    (σ 21 = .int .i64 (iv (σ 21))) →
    (σ 22 = .int .i64 (iv (σ 22))) →
    (σ 23 = .int .i64 (iv (σ 23))) →
    (σ 24 = .int .i64 (iv (σ 24))) →
    (σ 25 = .int .i64 (iv (σ 25))) →
    (σ 26 = .int .i64 (iv (σ 26))) →
    (σ 29 = .int .i64 (iv (σ 29))) →
    (σ 31 = .int .i64 (iv (σ 31))) →
    (σ 32 = .int .i64 (iv (σ 32))) →
    (σ 33 = .bool (bv (σ 33))) →
    (iv (σ 1) = (iv (σ 0) : Int).tmod (3652059)) →
    (iv (σ 2) = IntKind.i64.wrap (iv (σ 1))) →
    (iv (σ 3) = IntKind.i64.wrap (iv (σ 2) - 693593)) →
    (fv (σ 4) = FloatKind.f64.nearest (iv (σ 3))) →
    (toR [σ 4, σ 5, σ 6, σ 7, σ 8]) →
    (fromR [σ 5, σ 6, σ 7, σ 9, σ 10]) →
    (isTrue [σ 11]) →
    (wdR [σ 4, σ 16, σ 17]) →
    (iv (σ 19) = IntKind.i64.wrap (iv (σ 3) + 1)) →
    (fv (σ 20) = FloatKind.f64.nearest (iv (σ 19))) →
    (toR [σ 20, σ 21, σ 22, σ 23, σ 24]) →
    (wdR [σ 20, σ 25, σ 26]) →
    (iv (σ 29) = IntKind.i64.wrap (iv (σ 7) + 1)) →
    (iv (σ 31) = (iv (σ 16) : Int).tmod (7)) →
    (iv (σ 32) = IntKind.i64.wrap (iv (σ 31) + 1)) →
    (bv (σ 33) = decide (iv (σ 25) = iv (σ 32))) →
    (iv (σ 23) = iv (σ 29)) →
    (iv (σ 22) = iv (σ 6)) →
    (iv (σ 21) = iv (σ 5)) →
    (iv (σ 3) ≠ 2958465) →
    (ford (fv (σ 9)) (fv (σ 4)) = some .eq) →
    (iv (σ 10) = 0) →
    (iv (σ 8) = 0) →
    (bv (σ 11) = !false) →
    daysLR [σ 0, σ 33]

def daysL_L7 : Prop := ∀ σ : Nat → Value,
    (σ 0 = .int .u32 (iv (σ 0))) →
    (0 ≤ iv (σ 0)) →
    (iv (σ 0) ≤ 4294967295) →
    (σ 1 = .int .u32 (iv (σ 1))) →
    (σ 2 = .int .i64 (iv (σ 2))) →
    (σ 3 = .int .i64 (iv (σ 3))) →
    (σ 4 = .float .f64 (fv (σ 4))) →
    (σ 5 = .int .i64 (iv (σ 5))) →
    (σ 6 = .int .i64 (iv (σ 6))) →
    (σ 7 = .int .i64 (iv (σ 7))) →
    (σ 8 = .int .i64 (iv (σ 8))) →
    (σ 9 = .float .f64 (fv (σ 9))) →
    (σ 10 = .int .i64 (iv (σ 10))) →
    (σ 11 = .bool (bv (σ 11))) →
    (σ 16 = .int .i64 (iv (σ 16))) →
    (σ 17 = .int .i64 (iv (σ 17))) →
    (σ 19 = .int .i64 (iv (σ 19))) →
    (σ 20 = .float .f64 (fv (σ 20))) →
    (σ 21 = .int .i64 (iv (σ 21))) →
    (σ 22 = .int .i64 (iv (σ 22))) →
    (σ 23 = .int .i64 (iv (σ 23))) →
    (σ 24 = .int .i64 (iv (σ 24))) →
    (σ 25 = .int .i64 (iv (σ 25))) →
    (σ 26 = .int .i64 (iv (σ 26))) →
    (σ 29 = .int .i64 (iv (σ 29))) →
    (σ 31 = .int .i64 (iv (σ 31))) →
    (σ 34 = .int .i64 (iv (σ 34))) →
    (σ 35 = .int .i64 (iv (σ 35))) →
    (σ 36 = .bool (bv (σ 36))) →
    (iv (σ 1) = (iv (σ 0) : Int).tmod (3652059)) →
    (iv (σ 2) = IntKind.i64.wrap (iv (σ 1))) →
    (iv (σ 3) = IntKind.i64.wrap (iv (σ 2) - 693593)) →
    (fv (σ 4) = FloatKind.f64.nearest (iv (σ 3))) →
    (toR [σ 4, σ 5, σ 6, σ 7, σ 8]) →
    (fromR [σ 5, σ 6, σ 7, σ 9, σ 10]) →
    (isTrue [σ 11]) →
    (wdR [σ 4, σ 16, σ 17]) →
    (iv (σ 19) = IntKind.i64.wrap (iv (σ 3) + 1)) →
    (fv (σ 20) = FloatKind.f64.nearest (iv (σ 19))) →
    (toR [σ 20, σ 21, σ 22, σ 23, σ 24]) →
    (wdR [σ 20, σ 25, σ 26]) →
    (iv (σ 29) = IntKind.i64.wrap (iv (σ 7) + 1)) →
    (iv (σ 31) = IntKind.i64.wrap (iv (σ 6) + 1)) →
    (iv (σ 34) = (iv (σ 16) : Int).tmod (7)) →
    (iv (σ 35) = IntKind.i64.wrap (iv (σ 34) + 1)) →
    (bv (σ 36) = decide (iv (σ 25) = iv (σ 35))) →
    (iv (σ 23) = 1) →
    (iv (σ 22) = iv (σ 31)) →
    (iv (σ 23) ≠ iv (σ 29)) →
    (iv (σ 22) = iv (σ 6)) →
    (iv (σ 21) = iv (σ 5)) →
    (iv (σ 3) ≠ 2958465) →
    (ford (fv (σ 9)) (fv (σ 4)) = some .eq) →
    (iv (σ 10) = 0) →
    (iv (σ 8) = 0) →
    (bv (σ 11) = !false) →
    daysLR [σ 0, σ 36]

def daysL_L8 : Prop := ∀ σ : Nat → Value,
    (σ 0 = .int .u32 (iv (σ 0))) →
    (0 ≤ iv (σ 0)) →
    (iv (σ 0) ≤ 4294967295) →
    (σ 1 = .int .u32 (iv (σ 1))) →
    (σ 2 = .int .i64 (iv (σ 2))) →
    (σ 3 = .int .i64 (iv (σ 3))) →
    (σ 4 = .float .f64 (fv (σ 4))) →
    (σ 5 = .int .i64 (iv (σ 5))) →
    (σ 6 = .int .i64 (iv (σ 6))) →
    (σ 7 = .int .i64 (iv (σ 7))) →
    (σ 8 = .int .i64 (iv (σ 8))) →
    (σ 9 = .float .f64 (fv (σ 9))) →
    (σ 10 = .int .i64 (iv (σ 10))) →
    (σ 11 = .bool (bv (σ 11))) →
    (σ 16 = .int .i64 (iv (σ 16))) →
    (σ 17 = .int .i64 (iv (σ 17))) →
    (σ 19 = .int .i64 (iv (σ 19))) →
    (σ 20 = .float .f64 (fv (σ 20))) →
    (σ 21 = .int .i64 (iv (σ 21))) →
    (σ 22 = .int .i64 (iv (σ 22))) →
    (σ 23 = .int .i64 (iv (σ 23))) →
    (σ 24 = .int .i64 (iv (σ 24))) →
    (σ 25 = .int .i64 (iv (σ 25))) →
    (σ 26 = .int .i64 (iv (σ 26))) →
    (σ 29 = .int .i64 (iv (σ 29))) →
    (σ 31 = .int .i64 (iv (σ 31))) →
    (σ 34 = .int .i64 (iv (σ 34))) →
    (iv (σ 1) = (iv (σ 0) : Int).tmod (3652059)) →
    (iv (σ 2) = IntKind.i64.wrap (iv (σ 1))) →
    (iv (σ 3) = IntKind.i64.wrap (iv (σ 2) - 693593)) →
    (fv (σ 4) = FloatKind.f64.nearest (iv (σ 3))) →
    (toR [σ 4, σ 5, σ 6, σ 7, σ 8]) →
    (fromR [σ 5, σ 6, σ 7, σ 9, σ 10]) →
    (isTrue [σ 11]) →
    (wdR [σ 4, σ 16, σ 17]) →
    (iv (σ 19) = IntKind.i64.wrap (iv (σ 3) + 1)) →
    (fv (σ 20) = FloatKind.f64.nearest (iv (σ 19))) →
    (toR [σ 20, σ 21, σ 22, σ 23, σ 24]) →
    (wdR [σ 20, σ 25, σ 26]) →
    (iv (σ 29) = IntKind.i64.wrap (iv (σ 7) + 1)) →
    (iv (σ 31) = IntKind.i64.wrap (iv (σ 6) + 1)) →
    (iv (σ 34) = IntKind.i64.wrap (iv (σ 5) + 1)) →
    (iv (σ 22) = 1) →
    (iv (σ 6) = 12) →
    (iv (σ 21) = iv (σ 34)) →
    (iv (σ 23) ≠ 1) →
    (iv (σ 22) = iv (σ 31)) →
    (iv (σ 23) ≠ iv (σ 29)) →
    (iv (σ 22) = iv (σ 6)) →
    (iv (σ 21) = iv (σ 5)) →
    (iv (σ 3) ≠ 2958465) →
    (ford (fv (σ 9)) (fv (σ 4)) = some .eq) →
    (iv (σ 10) = 0) →
    (iv (σ 8) = 0) →
    (bv (σ 11) = !false) →
    daysLR [σ 0, (Value.bool false)]

def daysL_L9 : Prop := ∀ σ : Nat → Value,
    (σ 0 = .int .u32 (iv (σ 0))) →
    (0 ≤ iv (σ 0)) →
    (iv (σ 0) ≤ 4294967295) →
    (σ 1 = .int .u32 (iv (σ 1))) →
    (σ 2 = .int .i64 (iv (σ 2))) →
    (σ 3 = .int .i64 (iv (σ 3))) →
    (σ 4 = .float .f64 (fv (σ 4))) →
    (σ 5 = .int .i64 (iv (σ 5))) →
    (σ 6 = .int .i64 (iv (σ 6))) →
    (σ 7 = .int .i64 (iv (σ 7))) →
    (σ 8 = .int .i64 (iv (σ 8))) →
    (σ 9 = .float .f64 (fv (σ 9))) →
    (σ 10 = .int .i64 (iv (σ 10))) →
    (σ 11 = .bool (bv (σ 11))) →
    (σ 16 = .int .i64 (iv (σ 16))) →
    (σ 17 = .int .i64 (iv (σ 17))) →
    (σ 19 = .int .i64 (iv (σ 19))) →
    (σ 20 = .float .f64 (fv (σ 20))) →
    (σ 21 = .int .i64 (iv (σ 21))) →
    (σ 22 = .int .i64 (iv (σ 22))) →
    (σ 23 = .int .i64 (iv (σ 23))) →
    (σ 24 = .int .i64 (iv (σ 24))) →
    (σ 25 = .int .i64 (iv (σ 25))) →
    (σ 26 = .int .i64 (iv (σ 26))) →
    (σ 29 = .int .i64 (iv (σ 29))) →
    (σ 31 = .int .i64 (iv (σ 31))) →
    (σ 34 = .int .i64 (iv (σ 34))) →
    (iv (σ 1) = (iv (σ 0) : Int).tmod (3652059)) →
    (iv (σ 2) = IntKind.i64.wrap (iv (σ 1))) →
    (iv (σ 3) = IntKind.i64.wrap (iv (σ 2) - 693593)) →
    (fv (σ 4) = FloatKind.f64.nearest (iv (σ 3))) →
    (toR [σ 4, σ 5, σ 6, σ 7, σ 8]) →
    (fromR [σ 5, σ 6, σ 7, σ 9, σ 10]) →
    (isTrue [σ 11]) →
    (wdR [σ 4, σ 16, σ 17]) →
    (iv (σ 19) = IntKind.i64.wrap (iv (σ 3) + 1)) →
    (fv (σ 20) = FloatKind.f64.nearest (iv (σ 19))) →
    (toR [σ 20, σ 21, σ 22, σ 23, σ 24]) →
    (wdR [σ 20, σ 25, σ 26]) →
    (iv (σ 29) = IntKind.i64.wrap (iv (σ 7) + 1)) →
    (iv (σ 31) = IntKind.i64.wrap (iv (σ 6) + 1)) →
    (iv (σ 34) = IntKind.i64.wrap (iv (σ 5) + 1)) →
    (iv (σ 22) ≠ 1) →
    (iv (σ 6) = 12) →
    (iv (σ 21) = iv (σ 34)) →
    (iv (σ 23) ≠ 1) →
    (iv (σ 22) = iv (σ 31)) →
    (iv (σ 23) ≠ iv (σ 29)) →
    (iv (σ 22) = iv (σ 6)) →
    (iv (σ 21) = iv (σ 5)) →
    (iv (σ 3) ≠ 2958465) →
    (ford (fv (σ 9)) (fv (σ 4)) = some .eq) →
    (iv (σ 10) = 0) →
    (iv (σ 8) = 0) →
    (bv (σ 11) = !false) →
    daysLR [σ 0, (Value.bool false)]

def daysL_L10 : Prop := ∀ σ : Nat → Value,
    (σ 0 = .int .u32 (iv (σ 0))) →
    (0 ≤ iv (σ 0)) →
    (iv (σ 0) ≤ 4294967295) →
    (σ 1 = .int .u32 (iv (σ 1))) →
    (σ 2 = .int .i64 (iv (σ 2))) →
    (σ 3 = .int .i64 (iv (σ 3))) →
    (σ 4 = .float .f64 (fv (σ 4))) →
    (σ 5 = .int .i64 (iv (σ 5))) →
    (σ 6 = .int .i64 (iv (σ 6))) →
    (σ 7 = .int .i64 (iv (σ 7))) →
    (σ 8 = .int .i64 (iv (σ 8))) →
    (σ 9 = .float .f64 (fv (σ 9))) →
    (σ 10 = .int .i64 (iv (σ 10))) →
    (σ 11 = .bool (bv (σ 11))) →
    (σ 16 = .int .i64 (iv (σ 16))) →
    (σ 17 = .int .i64 (iv (σ 17))) →
    (σ 19 = .int .i64 (iv (σ 19))) →
    (σ 20 = .float .f64 (fv (σ 20))) →
    (σ 21 = .int .i64 (iv (σ 21))) →
    (σ 22 = .int .i64 (iv (σ 22))) →
    (σ 23 = .int .i64 (iv (σ 23))) →
    (σ 24 = .int .i64 (iv (σ 24))) →
    (σ 25 = .int .i64 (iv (σ 25))) →
    (σ 26 = .int .i64 (iv (σ 26))) →
    (σ 29 = .int .i64 (iv (σ 29))) →
    (σ 31 = .int .i64 (iv (σ 31))) →
    (σ 34 = .int .i64 (iv (σ 34))) →
    (iv (σ 1) = (iv (σ 0) : Int).tmod (3652059)) →
    (iv (σ 2) = IntKind.i64.wrap (iv (σ 1))) →
    (iv (σ 3) = IntKind.i64.wrap (iv (σ 2) - 693593)) →
    (fv (σ 4) = FloatKind.f64.nearest (iv (σ 3))) →
    (toR [σ 4, σ 5, σ 6, σ 7, σ 8]) →
    (fromR [σ 5, σ 6, σ 7, σ 9, σ 10]) →
    (isTrue [σ 11]) →
    (wdR [σ 4, σ 16, σ 17]) →
    (iv (σ 19) = IntKind.i64.wrap (iv (σ 3) + 1)) →
    (fv (σ 20) = FloatKind.f64.nearest (iv (σ 19))) →
    (toR [σ 20, σ 21, σ 22, σ 23, σ 24]) →
    (wdR [σ 20, σ 25, σ 26]) →
    (iv (σ 29) = IntKind.i64.wrap (iv (σ 7) + 1)) →
    (iv (σ 31) = IntKind.i64.wrap (iv (σ 6) + 1)) →
    (iv (σ 34) = IntKind.i64.wrap (iv (σ 5) + 1)) →
    (iv (σ 6) ≠ 12) →
    (iv (σ 21) = iv (σ 34)) →
    (iv (σ 23) ≠ 1) →
    (iv (σ 22) = iv (σ 31)) →
    (iv (σ 23) ≠ iv (σ 29)) →
    (iv (σ 22) = iv (σ 6)) →
    (iv (σ 21) = iv (σ 5)) →
    (iv (σ 3) ≠ 2958465) →
    (ford (fv (σ 9)) (fv (σ 4)) = some .eq) →
    (iv (σ 10) = 0) →
    (iv (σ 8) = 0) →
    (bv (σ 11) = !false) →
    daysLR [σ 0, (Value.bool false)]

def daysL_L11 : Prop := ∀ σ : Nat → Value,
    (σ 0 = .int .u32 (iv (σ 0))) →
    (0 ≤ iv (σ 0)) →
    (iv (σ 0) ≤ 4294967295) →
    (σ 1 = .int .u32 (iv (σ 1))) →
    (σ 2 = .int .i64 (iv (σ 2))) →
    (σ 3 = .int .i64 (iv (σ 3))) →
    (σ 4 = .float .f64 (fv (σ 4))) →
    (σ 5 = .int .i64 (iv (σ 5))) →
    (σ 6 = .int .i64 (iv (σ 6))) →
    (σ 7 = .int .i64 (iv (σ 7))) →
    (σ 8 = .int .i64 (iv (σ 8))) →
    (σ 9 = .float .f64 (fv (σ 9))) →
    (σ 10 = .int .i64 (iv (σ 10))) →
    (σ 11 = .bool (bv (σ 11))) →
    (σ 16 = .int .i64 (iv (σ 16))) →
    (σ 17 = .int .i64 (iv (σ 17))) →
    (σ 19 = .int .i64 (iv (σ 19))) →
    (σ 20 = .float .f64 (fv (σ 20))) →
    (σ 21 = .int .i64 (iv (σ 21))) →
    (σ 22 = .int .i64 (iv (σ 22))) →
    (σ 23 = .int .i64 (iv (σ 23))) →
    (σ 24 = .int .i64 (iv (σ 24))) →
    (σ 25 = .int .i64 (iv (σ 25))) →
    (σ 26 = .int .i64 (iv (σ 26))) →
    (σ 29 = .int .i64 (iv (σ 29))) →
    (σ 31 = .int .i64 (iv (σ 31))) →
    (σ 34 = .int .i64 (iv (σ 34))) →
    (iv (σ 1) = (iv (σ 0) : Int).tmod (3652059)) →
    (iv (σ 2) = IntKind.i64.wrap (iv (σ 1))) →
    (iv (σ 3) = IntKind.i64.wrap (iv (σ 2) - 693593)) →
    (fv (σ 4) = FloatKind.f64.nearest (iv (σ 3))) →
    (toR [σ 4, σ 5, σ 6, σ 7, σ 8]) →
    (fromR [σ 5, σ 6, σ 7, σ 9, σ 10]) →
    (isTrue [σ 11]) →
    (wdR [σ 4, σ 16, σ 17]) →
    (iv (σ 19) = IntKind.i64.wrap (iv (σ 3) + 1)) →
    (fv (σ 20) = FloatKind.f64.nearest (iv (σ 19))) →
    (toR [σ 20, σ 21, σ 22, σ 23, σ 24]) →
    (wdR [σ 20, σ 25, σ 26]) →
    (iv (σ 29) = IntKind.i64.wrap (iv (σ 7) + 1)) →
    (iv (σ 31) = IntKind.i64.wrap (iv (σ 6) + 1)) →
    (iv (σ 34) = IntKind.i64.wrap (iv (σ 5) + 1)) →
    (iv (σ 21) ≠ iv (σ 34)) →
    (iv (σ 23) ≠ 1) →
    (iv (σ 22) = iv (σ 31)) →
    (iv (σ 23) ≠ iv (σ 29)) →
    (iv (σ 22) = iv (σ 6)) →
    (iv (σ 21) = iv (σ 5)) →
    (iv (σ 3) ≠ 2958465) →
    (ford (fv (σ 9)) (fv (σ 4)) = some .eq) →
    (iv (σ 10) = 0) →
    (iv (σ 8) = 0) →
    (bv (σ 11) = !false) →
    daysLR [σ 0, (Value.bool false)]

def daysL_L12 : Prop := ∀ σ : Nat → Value,
    (σ 0 = .int .u32 (iv (σ 0))) →
    (0 ≤ iv (σ 0)) →
    (iv (σ 0) ≤ 4294967295) →
    (σ 1 = .int .u32 (iv (σ 1))) →
    (σ 2 = .int .i64 (iv (σ 2))) →
    (σ 3 = .int .i64 (iv (σ 3))) →
    (σ 4 = .float .f64 (fv (σ 4))) →
    (σ 5 = .int .i64 (iv (σ 5))) →
    (σ 6 = .int .i64 (iv (σ 6))) →
    (σ 7 = .int .i64 (iv (σ 7))) →
    (σ 8 = .int .i64 (iv (σ 8))) →
    (σ 9 = .float .f64 (fv (σ 9))) →
    (σ 10 = .int .i64 (iv (σ 10))) →
    (σ 11 = .bool (bv (σ 11))) →
    (σ 16 = .int .i64 (iv (σ 16))) →
    (σ 17 = .int .i64 (iv (σ 17))) →
    (σ 19 = .int .i64 (iv (σ 19))) →
    (σ 20 = .float .f64 (fv (σ 20))) →
    (σ 21 = .int .i64 (iv (σ 21))) →
    (σ 22 = .int .i64 (iv (σ 22))) →
    (σ 23 = .int .i64 (iv (σ 23))) →
    (σ 24 = .int .i64 (iv (σ 24))) →
    (σ 25 = .int .i64 (iv (σ 25))) →
    (σ 26 = .int .i64 (iv (σ 26))) →
    (σ 29 = .int .i64 (iv (σ 29))) →
    (σ 31 = .int .i64 (iv (σ 31))) →
    (σ 33 = .int .i64 (iv (σ 33))) →
    (σ 38 = .int .i64 (iv (σ 38))) →
    (σ 39 = .int .i64 (iv (σ 39))) →
    (σ 40 = .bool (bv (σ 40))) →
    (iv (σ 1) = (iv (σ 0) : Int).tmod (3652059)) →
    (iv (σ 2) = IntKind.i64.wrap (iv (σ 1))) →
    (iv (σ 3) = IntKind.i64.wrap (iv (σ 2) - 693593)) →
    (fv (σ 4) = FloatKind.f64.nearest (iv (σ 3))) →
    (toR [σ 4, σ 5, σ 6, σ 7, σ 8]) →
    (fromR [σ 5, σ 6, σ 7, σ 9, σ 10]) →
    (isTrue [σ 11]) →
    (wdR [σ 4, σ 16, σ 17]) →
    (iv (σ 19) = IntKind.i64.wrap (iv (σ 3) + 1)) →
    (fv (σ 20) = FloatKind.f64.nearest (iv (σ 19))) →
    (toR [σ 20, σ 21, σ 22, σ 23, σ 24]) →
    (wdR [σ 20, σ 25, σ 26]) →
    (iv (σ 29) = IntKind.i64.wrap (iv (σ 7) + 1)) →
    (iv (σ 31) = IntKind.i64.wrap (iv (σ 6) + 1)) →
    (iv (σ 33) = IntKind.i64.wrap (iv (σ 5) + 1)) →
    (iv (σ 38) = (iv (σ 16) : Int).tmod (7)) →
    (iv (σ 39) = IntKind.i64.wrap (iv (σ 38) + 1)) →
    (bv (σ 40) = decide (iv (σ 25) = iv (σ 39))) →
    (iv (σ 23) = 1) →
    (iv (σ 22) = 1) →
    (iv (σ 6) = 12) →
    (iv (σ 21) = iv (σ 33)) →
    (iv (σ 22) ≠ iv (σ 31)) →
    (iv (σ 23) ≠ iv (σ 29)) →
    (iv (σ 22) = iv (σ 6)) →
    (iv (σ 21) = iv (σ 5)) →
    (iv (σ 3) ≠ 2958465) →
    (ford (fv (σ 9)) (fv (σ 4)) = some .eq) →
    (iv (σ 10) = 0) →
    (iv (σ 8) = 0) →
    (bv (σ 11) = !false) →
    daysLR [σ 0, σ 40]

def daysL_L13 : Prop := ∀ σ : Nat → Value,
    (σ 0 = .int .u32 (iv (σ 0))) →
    (0 ≤ iv (σ 0)) →
    (iv (σ 0) ≤ 4294967295) →
    (σ 1 = .int .u32 (iv (σ 1))) →
    (σ 2 = .int .i64 (iv (σ 2))) →
    (σ 3 = .int .i64 (iv (σ 3))) →
    (σ 4 = .float .f64 (fv (σ 4))) →
    (σ 5 = .int .i64 (iv (σ 5))) →
    (σ 6 = .int .i64 (iv (σ 6))) →
    (σ 7 = .int .i64 (iv (σ 7))) →
    (σ 8 = .int .i64 (iv (σ 8))) →
    (σ 9 = .float .f64 (fv (σ 9))) →
    (σ 10 = .int .i64 (iv (σ 10))) →
    (σ 11 = .bool (bv (σ 11))) →
    (σ 16 = .int .i64 (iv (σ 16))) →
    (σ 17 = .int .i64 (iv (σ 17))) →
    (σ 19 = .int .i64 (iv (σ 19))) →
    (σ 20 = .float .f64 (fv (σ 20))) →
    (σ 21 = .int .i64 (iv (σ 21))) →
    (σ 22 = .int .i64 (iv (σ 22))) →
    (σ 23 = .int .i64 (iv (σ 23))) →
    (σ 24 = .int .i64 (iv (σ 24))) →
    (σ 25 = .int .i64 (iv (σ 25))) →
    (σ 26 = .int .i64 (iv (σ 26))) →
    (σ 29 = .int .i64 (iv (σ 29))) →
    (σ 31 = .int .i64 (iv (σ 31))) →
    (σ 33 = .int .i64 (iv (σ 33))) →
    (iv (σ 1) = (iv (σ 0) : Int).tmod (3652059)) →
    (iv (σ 2) = IntKind.i64.wrap (iv (σ 1))) →
    (iv (σ 3) = IntKind.i64.wrap (iv (σ 2) - 693593)) →
    (fv (σ 4) = FloatKind.f64.nearest (iv (σ 3))) →
    (toR [σ 4, σ 5, σ 6, σ 7, σ 8]) →
    (fromR [σ 5, σ 6, σ 7, σ 9, σ 10]) →
    (isTrue [σ 11]) →
    (wdR [σ 4, σ 16, σ 17]) →
    (iv (σ 19) = IntKind.i64.wrap (iv (σ 3) + 1)) →
    (fv (σ 20) = FloatKind.f64.nearest (iv (σ 19))) →
    (toR [σ 20, σ 21, σ 22, σ 23, σ 24]) →
    (wdR [σ 20, σ 25, σ 26]) →
    (iv (σ 29) = IntKind.i64.wrap (iv (σ 7) + 1)) →
    (iv (σ 31) = IntKind.i64.wrap (iv (σ 6) + 1)) →
    (iv (σ 33) = IntKind.i64.wrap (iv (σ 5) + 1)) →
    (iv (σ 23) ≠ 1) →
    (iv (σ 22) = 1) →
    (iv (σ 6) = 12) →
    (iv (σ 21) = iv (σ 33)) →
    (iv (σ 22) ≠ iv (σ 31)) →
    (iv (σ 23) ≠ iv (σ 29)) →
    (iv (σ 22) = iv (σ 6)) →
    (iv (σ 21) = iv (σ 5)) →
    (iv (σ 3) ≠ 2958465) →
    (ford (fv (σ 9)) (fv (σ 4)) = some .eq) →
    (iv (σ 10) = 0) →
    (iv (σ 8) = 0) →
    (bv (σ 11) = !false) →
    daysLR [σ 0, (Value.bool false)]

def daysL_L14 : Prop := ∀ σ : Nat → Value,
    (σ 0 = .int .u32 (iv (σ 0))) →
    (0 ≤ iv (σ 0)) →
    (iv (σ 0) ≤ 4294967295) →
    (σ 1 = .int .u32 (iv (σ 1))) →
    (σ 2 = .int .i64 (iv (σ 2))) →
    (σ 3 = .int .i64 (iv (σ 3))) →
    (σ 4 = .float .f64 (fv (σ 4))) →
    (σ 5 = .int .i64 (iv (σ 5))) →
    (σ 6 = .int .i64 (iv (σ 6))) →
    (σ 7 = .int .i64 (iv (σ 7))) →
    (σ 8 = .int .i64 (iv (σ 8))) →
    (σ 9 = .float .f64 (fv (σ 9))) →
    (σ 10 = .int .i64 (iv (σ 10))) →
    (σ 11 = .bool (bv (σ 11))) →
    (σ 16 = .int .i64 (iv (σ 16))) →
    (σ 17 = .int .i64 (iv (σ 17))) →
    (σ 19 = .int .i64 (iv (σ 19))) →
    (σ 20 = .float .f64 (fv (σ 20))) →
    (σ 21 = .int .i64 (iv (σ 21))) →
    (σ 22 = .int .i64 (iv (σ 22))) →
    (σ 23 = .int .i64 (iv (σ 23))) →
    (σ 24 = .int .i64 (iv (σ 24))) →
    (σ 25 = .int .i64 (iv (σ 25))) →
    (σ 26 = .int .i64 (iv (σ 26))) →
    (σ 29 = .int .i64 (iv (σ 29))) →
    (σ 31 = .int .i64 (iv (σ 31))) →
    (σ 33 = .int .i64 (iv (σ 33))) →
    (iv (σ 1) = (iv (σ 0) : Int).tmod (3652059)) →
    (iv (σ 2) = IntKind.i64.wrap (iv (σ 1))) →
    (iv (σ 3) = IntKind.i64.wrap (iv (σ 2) - 693593)) →
    (fv (σ 4) = FloatKind.f64.nearest (iv (σ 3))) →
    (toR [σ 4, σ 5, σ 6, σ 7, σ 8]) →
    (fromR [σ 5, σ 6, σ 7, σ 9, σ 10]) →
    (isTrue [σ 11]) →
    (wdR [σ 4, σ 16, σ 17]) →
    (iv (σ 19) = IntKind.i64.wrap (iv (σ 3) + 1)) →
    (fv (σ 20) = FloatKind.f64.nearest (iv (σ 19))) →
    (toR [σ 20, σ 21, σ 22, σ 23, σ 24]) →
    (wdR [σ 20, σ 25, σ 26]) →
    (iv (σ 29) = IntKind.i64.wrap (iv (σ 7) + 1)) →
    (iv (σ 31) = IntKind.i64.wrap (iv (σ 6) + 1)) →
    (iv (σ 33) = IntKind.i64.wrap (iv (σ 5) + 1)) →
    (iv (σ 22) ≠ 1) →
    (iv (σ 6) = 12) →
    (iv (σ 21) = iv (σ 33)) →
    (iv (σ 22) ≠ iv (σ 31)) →
    (iv (σ 23) ≠ iv (σ 29)) →
    (iv (σ 22) = iv (σ 6)) →
    (iv (σ 21) = iv (σ 5)) →
    (iv (σ 3) ≠ 2958465) →
    (ford (fv (σ 9)) (fv (σ 4)) = some .eq) →
    (iv (σ 10) = 0) →
    (iv (σ 8) = 0) →
    (bv (σ 11) = !false) →
    daysLR [σ 0, (Value.bool false)]

def daysL_L15 : Prop := ∀ σ : Nat → Value,
    (σ 0 = .int .u32 (iv (σ 0))) →
    (0 ≤ iv (σ 0)) →
    (iv (σ 0) ≤ 4294967295) →
    (σ 1 = .int .u32 (iv (σ 1))) →
    (σ 2 = .int .i64 (iv (σ 2))) →
    (σ 3 = .int .i64 (iv (σ 3))) →
    (σ 4 = .float .f64 (fv (σ 4))) →
    (σ 5 = .int .i64 (iv (σ 5))) →
    (σ 6 = .int .i64 (iv (σ 6))) →
    (σ 7 = .int .i64 (iv (σ 7))) →
    (σ 8 = .int .i64 (iv (σ 8))) →
    (σ 9 = .float .f64 (fv (σ 9))) →
    (σ 10 = .int .i64 (iv (σ 10))) →
    (σ 11 = .bool (bv (σ 11))) →
    (σ 16 = .int .i64 (iv (σ 16))) →
    (σ 17 = .int .i64 (iv (σ 17))) →
    (σ 19 = .int .i64 (iv (σ 19))) →
    (σ 20 = .float .f64 (fv (σ 20))) →
    (σ 21 = .int .i64 (iv (σ 21))) →
    (σ 22 = .int .i64 (iv (σ 22))) →
    (σ 23 = .int .i64 (iv (σ 23))) →
    (σ 24 = .int .i64 (iv (σ 24))) →
    (σ 25 = .int .i64 (iv (σ 25))) →
    (σ 26 = .int .i64 (iv (σ 26))) →
    (σ 29 = .int .i64 (iv (σ 29))) →
    (σ 31 = .int .i64 (iv (σ 31))) →
    (σ 33 = .int .i64 (iv (σ 33))) →
    (iv (σ 1) = (iv (σ 0) : Int).tmod (3652059)) →
    (iv (σ 2) = IntKind.i64.wrap (iv (σ 1))) →
    (iv (σ 3) = IntKind.i64.wrap (iv (σ 2) - 693593)) →
    (fv (σ 4) = FloatKind.f64.nearest (iv (σ 3))) →
    (toR [σ 4, σ 5, σ 6, σ 7, σ 8]) →
    (fromR [σ 5, σ 6, σ 7, σ 9, σ 10]) →
    (isTrue [σ 11]) →
    (wdR [σ 4, σ 16, σ 17]) →
    (iv (σ 19) = IntKind.i64.wrap (iv (σ 3) + 1)) →
    (fv (σ 20) = FloatKind.f64.nearest (iv (σ 19))) →
    (toR [σ 20, σ 21, σ 22, σ 23, σ 24]) →
    (wdR [σ 20, σ 25, σ 26]) →
    (iv (σ 29) = IntKind.i64.wrap (iv (σ 7) + 1)) →
    (iv (σ 31) = IntKind.i64.wrap (iv (σ 6) + 1)) →
    (iv (σ 33) = IntKind.i64.wrap (iv (σ 5) + 1)) →
    (iv (σ 6) ≠ 12) →
    (iv (σ 21) = iv (σ 33)) →
    (iv (σ 22) ≠ iv (σ 31)) →
    (iv (σ 23) ≠ iv (σ 29)) →
    (iv (σ 22) = iv (σ 6)) →
    (iv (σ 21) = iv (σ 5)) →
    (iv (σ 3) ≠ 2958465) →
    (ford (fv (σ 9)) (fv (σ 4)) = some .eq) →
    (iv (σ 10) = 0) →
    (iv (σ 8) = 0) →
    (bv (σ 11) = !false) →
    daysLR [σ 0, (Value.bool false)]

def daysL_L16 : Prop := ∀ σ : Nat → Value,
    (σ 0 = .int .u32 (iv (σ 0))) →
    (0 ≤ iv (σ 0)) →
    (iv (σ 0) ≤ 4294967295) →
    (σ 1 = .int .u32 (iv (σ 1))) →
    (σ 2 = .int .i64 (iv (σ 2))) →
    (σ 3 = .int .i64 (iv (σ 3))) →
    (σ 4 = .float .f64 (fv (σ 4))) →
    (σ 5 = .int .i64 (iv (σ 5))) →
    (σ 6 = .int .i64 (iv (σ 6))) →
    (σ 7 = .int .i64 (iv (σ 7))) →
    (σ 8 = .int .i64 (iv (σ 8))) →
    (σ 9 = .float .f64 (fv (σ 9))) →
    (σ 10 = .int .i64 (iv (σ 10))) →
    (σ 11 = .bool (bv (σ 11))) →
    (σ 16 = .int .i64 (iv (σ 16))) →
    (σ 17 = .int .i64 (iv (σ 17))) →
    (σ 19 = .int .i64 (iv (σ 19))) →
    (σ 20 = .float .f64 (fv (σ 20))) →
    (σ 21 = .int .i64 (iv (σ 21))) →
    (σ 22 = .int .i64 (iv (σ 22))) →
    (σ 23 = .int .i64 (iv (σ 23))) →
    (σ 24 = .int .i64 (iv (σ 24))) →
    (σ 25 = .int .i64 (iv (σ 25))) →
    (σ 26 = .int .i64 (iv (σ 26))) →
    (σ 29 = .int .i64 (iv (σ 29))) →
    (σ 31 = .int .i64 (iv (σ 31))) →
    (σ 33 = .int .i64 (iv (σ 33))) →
    (iv (σ 1) = (iv (σ 0) : Int).tmod (3652059)) →
    (iv (σ 2) = IntKind.i64.wrap (iv (σ 1))) →
    (iv (σ 3) = IntKind.i64.wrap (iv (σ 2) - 693593)) →
    (fv (σ 4) = FloatKind.f64.nearest (iv (σ 3))) →
    (toR [σ 4, σ 5, σ 6, σ 7, σ 8]) →
    (fromR [σ 5, σ 6, σ 7, σ 9, σ 10]) →
    (isTrue [σ 11]) →
    (wdR [σ 4, σ 16, σ 17]) →
    (iv (σ 19) = IntKind.i64.wrap (iv (σ 3) + 1)) →
    (fv (σ 20) = FloatKind.f64.nearest (iv (σ 19))) →
    (toR [σ 20, σ 21, σ 22, σ 23, σ 24]) →
    (wdR [σ 20, σ 25, σ 26]) →
    (iv (σ 29) = IntKind.i64.wrap (iv (σ 7) + 1)) →
    (iv (σ 31) = IntKind.i64.wrap (iv (σ 6) + 1)) →
    (iv (σ 33) = IntKind.i64.wrap (iv (σ 5) + 1)) →
    (iv (σ 21) ≠ iv (σ 33)) →
    (iv (σ 22) ≠ iv (σ 31)) →
    (iv (σ 23) ≠ iv (σ 29)) →
    (iv (σ 22) = iv (σ 6)) →
    (iv (σ 21) = iv (σ 5)) →
    (iv (σ 3) ≠ 2958465) →
    (ford (fv (σ 9)) (fv (σ 4)) = some .eq) →
    (iv (σ 10) = 0) →
    (iv (σ 8) = 0) →
    (bv (σ 11) = !false) →
    daysLR [σ 0, (Value.bool false)]

def daysL_L17 : Prop := ∀ σ : Nat → Value,
    (σ 0 = .int .u32 (iv (σ 0))) →
    (0 ≤ iv (σ 0)) →
    (iv (σ 0) ≤ 4294967295) →
    (σ 1 = .int .u32 (iv (σ 1))) →
    (σ 2 = .int .i64 (iv (σ 2))) →
    (σ 3 = .int .i64 (iv (σ 3))) →
    (σ 4 = .float .f64 (fv (σ 4))) →
    (σ 5 = .int .i64 (iv (σ 5))) →
    (σ 6 = .int .i64 (iv (σ 6))) →
    (σ 7 = .int .i64 (iv (σ 7))) →
    (σ 8 = .int .i64 (iv (σ 8))) →
    (σ 9 = .float .f64 (fv (σ 9))) →
    (σ 10 = .int .i64 (iv (σ 10))) →
    (σ 11 = .bool (bv (σ 11))) →
    (σ 16 = .int .i64 (iv (σ 16))) →
    (σ 17 = .int .i64 (iv (σ 17))) →
    (σ 19 = .int .i64 (iv (σ 19))) →
    (σ 20 = .float .f64 (fv (σ 20))) →
    (σ 21 = .int .i64 (iv (σ 21))) →
    (σ 22 = .int .i64 (iv (σ 22))) →
    (σ 23 = .int .i64 (iv (σ 23))) →
    (σ 24 = .int .i64 (iv (σ 24))) →
    (σ 25 = .int .i64 (iv (σ 25))) →
    (σ 26 = .int .i64 (iv (σ 26))) →
    (σ 29 = .int .i64 (iv (σ 29))) →
    (σ 32 = .int .i64 (iv (σ 32))) →
    (σ 33 = .int .i64 (iv (σ 33))) →
    (σ 34 = .bool (bv (σ 34))) →
    (iv (σ 1) = (iv (σ 0) : Int).tmod (3652059)) →
    (iv (σ 2) = IntKind.i64.wrap (iv (σ 1))) →
    (iv (σ 3) = IntKind.i64.wrap (iv (σ 2) - 693593)) →
    (fv (σ 4) = FloatKind.f64.nearest (iv (σ 3))) →
    (toR [σ 4, σ 5, σ 6, σ 7, σ 8]) →
    (fromR [σ 5, σ 6, σ 7, σ 9, σ 10]) →
    (isTrue [σ 11]) →
    (wdR [σ 4, σ 16, σ 17]) →
    (iv (σ 19) = IntKind.i64.wrap (iv (σ 3) + 1)) →
    (fv (σ 20) = FloatKind.f64.nearest (iv (σ 19))) →
    (toR [σ 20, σ 21, σ 22, σ 23, σ 24]) →
    (wdR [σ 20, σ 25, σ 26]) →
    (iv (σ 29) = IntKind.i64.wrap (iv (σ 6) + 1)) →
    (iv (σ 32) = (iv (σ 16) : Int).tmod (7)) →
    (iv (σ 33) = IntKind.i64.wrap (iv (σ 32) + 1)) →
    (bv (σ 34) = decide (iv (σ 25) = iv (σ 33))) →
    (iv (σ 23) = 1) →
    (iv (σ 22) = iv (σ 29)) →
    (iv (σ 22) ≠ iv (σ 6)) →
    (iv (σ 21) = iv (σ 5)) →
    (iv (σ 3) ≠ 2958465) →
    (ford (fv (σ 9)) (fv (σ 4)) = some .eq) →
    (iv (σ 10) = 0) →
    (iv (σ 8) = 0) →
    (bv (σ 11) = !false) →
    daysLR [σ 0, σ 34]

def daysL_L18 : Prop := ∀ σ : Nat → Value,
    (σ 0 = .int .u32 (iv (σ 0))) →
    (0 ≤ iv (σ 0)) →
    (iv (σ 0) ≤ 4294967295) →
    (σ 1 = .int .u32 (iv (σ 1))) →
    (σ 2 = .int .i64 (iv (σ 2))) →
    (σ 3 = .int .i64 (iv (σ 3))) →
    (σ 4 = .float .f64 (fv (σ 4))) →
    (σ 5 = .int .i64 (iv (σ 5))) →
    (σ 6 = .int .i64 (iv (σ 6))) →
    (σ 7 = .int .i64 (iv (σ 7))) →
    (σ 8 = .int .i64 (iv (σ 8))) →
    (σ 9 = .float .f64 (fv (σ 9))) →
    (σ 10 = .int .i64 (iv (σ 10))) →
    (σ 11 = .bool (bv (σ 11))) →
    (σ 16 = .int .i64 (iv (σ 16))) →
    (σ 17 = .int .i64 (iv (σ 17))) →
    (σ 19 = .int .i64 (iv (σ 19))) →
    (σ 20 = .float .f64 (fv (σ 20))) →
    (σ 21 = .int .i64 (iv (σ 21))) →
    (σ 22 = .int .i64 (iv (σ 22))) →
    (σ 23 = .int .i64 (iv (σ 23))) →
    (σ 24 = .int .i64 (iv (σ 24))) →
    (σ 25 = .int .i64 (iv (σ 25))) →
    (σ 26 = .int .i64 (iv (σ 26))) →
    (σ 29 = .int .i64 (iv (σ 29))) →
    (σ 32 = .int .i64 (iv (σ 32))) →
    (iv (σ 1) = (iv (σ 0) : Int).tmod (3652059)) →
    (iv (σ 2) = IntKind.i64.wrap (iv (σ 1))) →
    (iv (σ 3) = IntKind.i64.wrap (iv (σ 2) - 693593)) →
    (fv (σ 4) = FloatKind.f64.nearest (iv (σ 3))) →
    (toR [σ 4, σ 5, σ 6, σ 7, σ 8]) →
    (fromR [σ 5, σ 6, σ 7, σ 9, σ 10]) →
    (isTrue [σ 11]) →
    (wdR [σ 4, σ 16, σ 17]) →
    (iv (σ 19) = IntKind.i64.wrap (iv (σ 3) + 1)) →
    (fv (σ 20) = FloatKind.f64.nearest (iv (σ 19))) →
    (toR [σ 20, σ 21, σ 22, σ 23, σ 24]) →
    (wdR [σ 20, σ 25, σ 26]) →
    (iv (σ 29) = IntKind.i64.wrap (iv (σ 6) + 1)) →
    (iv (σ 32) = IntKind.i64.wrap (iv (σ 5) + 1)) →
    (iv (σ 22) = 1) →
    (iv (σ 6) = 12) →
    (iv (σ 21) = iv (σ 32)) →
    (iv (σ 23) ≠ 1) →
    (iv (σ 22) = iv (σ 29)) →
    (iv (σ 22) ≠ iv (σ 6)) →
    (iv (σ 21) = iv (σ 5)) →
    (iv (σ 3) ≠ 2958465) →
    (ford (fv (σ 9)) (fv (σ 4)) = some .eq) →
    (iv (σ 10) = 0) →
    (iv (σ 8) = 0) →
    (bv (σ 11) = !false) →
    daysLR [σ 0, (Value.bool false)]

def daysL_L19 : Prop := ∀ σ : Nat → Value,
    (σ 0 = .int .u32 (iv (σ 0))) →
    (0 ≤ iv (σ 0)) →
    (iv (σ 0) ≤ 4294967295) →
    (σ 1 = .int .u32 (iv (σ 1))) →
    (σ 2 = .int .i64 (iv (σ 2))) →
    (σ 3 = .int .i64 (iv (σ 3))) →
    (σ 4 = .float .f64 (fv (σ 4))) →
    (σ 5 = .int .i64 (iv (σ 5))) →
    (σ 6 = .int .i64 (iv (σ 6))) →
    (σ 7 = .int .i64 (iv (σ 7))) →
    (σ 8 = .int .i64 (iv (σ 8))) →
    (σ 9 = .float .f64 (fv (σ 9))) →
    (σ 10 = .int .i64 (iv (σ 10))) →
    (σ 11 = .bool (bv (σ 11))) →
    (σ 16 = .int .i64 (iv (σ 16))) →
    (σ 17 = .int .i64 (iv (σ 17))) →
    (σ 19 = .int .i64 (iv (σ 19))) →
    (σ 20 = .float .f64 (fv (σ 20))) →
    (σ 21 = .int .i64 (iv (σ 21))) →
    (σ 22 = .int .i64 (iv (σ 22))) →
    (σ 23 = .int .i64 (iv (σ 23))) →
    (σ 24 = .int .i64 (iv (σ 24))) →
    (σ 25 = .int .i64 (iv (σ 25))) →
    (σ 26 = .int .i64 (iv (σ 26))) →
    (σ 29 = .int .i64 (iv (σ 29))) →
    (σ 32 = .int .i64 (iv (σ 32))) →
    (iv (σ 1) = (iv (σ 0) : Int).tmod (3652059)) →
    (iv (σ 2) = IntKind.i64.wrap (iv (σ 1))) →
    (iv (σ 3) = IntKind.i64.wrap (iv (σ 2) - 693593)) →
    (fv (σ 4) = FloatKind.f64.nearest (iv (σ 3))) →
    (toR [σ 4, σ 5, σ 6, σ 7, σ 8]) →
    (fromR [σ 5, σ 6, σ 7, σ 9, σ 10]) →
    (isTrue [σ 11]) →
    (wdR [σ 4, σ 16, σ 17]) →
    (iv (σ 19) = IntKind.i64.wrap (iv (σ 3) + 1)) →
    (fv (σ 20) = FloatKind.f64.nearest (iv (σ 19))) →
    (toR [σ 20, σ 21, σ 22, σ 23, σ 24]) →
    (wdR [σ 20, σ 25, σ 26]) →
    (iv (σ 29) = IntKind.i64.wrap (iv (σ 6) + 1)) →
    (iv (σ 32) = IntKind.i64.wrap (iv (σ 5) + 1)) →
    (iv (σ 22) ≠ 1) →
    (iv (σ 6) = 12) →
    (iv (σ 21) = iv (σ 32)) →
    (iv (σ 23) ≠ 1) →
    (iv (σ 22) = iv (σ 29)) →
    (iv (σ 22) ≠ iv (σ 6)) →
    (iv (σ 21) = iv (σ 5)) →
    (iv (σ 3) ≠ 2958465) →
    (ford (fv (σ 9)) (fv (σ 4)) = some .eq) →
    (iv (σ 10) = 0) →
    (iv (σ 8) = 0) →
    (bv (σ 11) = !false) →
    daysLR [σ 0, (Value.bool false)]

def daysL_L20 : Prop := ∀ σ : Nat → Value,
    (σ 0 = .int .u32 (iv (σ 0))) →
    (0 ≤ iv (σ 0)) →
    (iv (σ 0) ≤ 4294967295) →
    (σ 1 = .int .u32 (iv (σ 1))) →
    (σ 2 = .int .i64 (iv (σ 2))) →
    (σ 3 = .int .i64 (iv (σ 3))) →
    (σ 4 = .float .f64 (fv (σ 4))) →
    (σ 5 = .int .i64 (iv (σ 5))) →
    (σ 6 = .int .i64 (iv (σ 6))) →
    (σ 7 = .int .i64 (iv (σ 7))) →
    (σ 8 = .int .i64 (iv (σ 8))) →
    (σ 9 = .float .f64 (fv (σ 9))) →
    (σ 10 = .int .i64 (iv (σ 10))) →
    (σ 11 = .bool (bv (σ 11))) →
    (σ 16 = .int .i64 (iv (σ 16))) →
    (σ 17 = .int .i64 (iv (σ 17))) →
    (σ 19 = .int .i64 (iv (σ 19))) →
    (σ 20 = .float .f64 (fv (σ 20))) →
    (σ 21 = .int .i64 (iv (σ 21))) →
    (σ 22 = .int .i64 (iv (σ 22))) →
    (σ 23 = .int .i64 (iv (σ 23))) →
    (σ 24 = .int .i64 (iv (σ 24))) →
    (σ 25 = .int .i64 (iv (σ 25))) →
    (σ 26 = .int .i64 (iv (σ 26))) →
    (σ 29 = .int .i64 (iv (σ 29))) →
    (σ 32 = .int .i64 (iv (σ 32))) →
    (iv (σ 1) = (iv (σ 0) : Int).tmod (3652059)) →
    (iv (σ 2) = IntKind.i64.wrap (iv (σ 1))) →
    (iv (σ 3) = IntKind.i64.wrap (iv (σ 2) - 693593)) →
    (fv (σ 4) = FloatKind.f64.nearest (iv (σ 3))) →
    (toR [σ 4, σ 5, σ 6, σ 7, σ 8]) →
    (fromR [σ 5, σ 6, σ 7, σ 9, σ 10]) →
    (isTrue [σ 11]) →
    (wdR [σ 4, σ 16, σ 17]) →
    (iv (σ 19) = IntKind.i64.wrap (iv (σ 3) + 1)) →
    (fv (σ 20) = FloatKind.f64.nearest (iv (σ 19))) →
    (toR [σ 20, σ 21, σ 22, σ 23, σ 24]) →
    (wdR [σ 20, σ 25, σ 26]) →
    (iv (σ 29) = IntKind.i64.wrap (iv (σ 6) + 1)) →
    (iv (σ 32) = IntKind.i64.wrap (iv (σ 5) + 1)) →
    (iv (σ 6) ≠ 12) →
    (iv (σ 21) = iv (σ 32)) →
    (iv (σ 23) ≠ 1) →
    (iv (σ 22) = iv (σ 29)) →
    (iv (σ 22) ≠ iv (σ 6)) →
    (iv (σ 21) = iv (σ 5)) →
    (iv (σ 3) ≠ 2958465) →
    (ford (fv (σ 9)) (fv (σ 4)) = some .eq) →
    (iv (σ 10) = 0) →
    (iv (σ 8) = 0) →
    (bv (σ 11) = !false) →
    daysLR [σ 0, (Value.bool false)]

def daysL_L21 : Prop := ∀ σ : Nat → Value,
    (σ 0 = .int .u32 (iv (σ 0))) →
    (0 ≤ iv (σ 0)) →
    (iv (σ 0) ≤ 4294967295) →
    (σ 1 = .int .u32 (iv (σ 1))) →
    (σ 2 = .int .i64 (iv (σ 2))) →
    (σ 3 = .int .i64 (iv (σ 3))) →
    (σ 4 = .float .f64 (fv (σ 4))) →
    (σ 5 = .int .i64 (iv (σ 5))) →
    (σ 6 = .int .i64 (iv (σ 6))) →
    (σ 7 = .int .i64 (iv (σ 7))) →
    (σ 8 = .int .i64 (iv (σ 8))) →
    (σ 9 = .float .f64 (fv (σ 9))) →
    (σ 10 = .int .i64 (iv (σ 10))) →
    (σ 11 = .bool (bv (σ 11))) →
    (σ 16 = .int .i64 (iv (σ 16))) →
    (σ 17 = .int .i64 (iv (σ 17))) →
    (σ 19 = .int .i64 (iv (σ 19))) →
    (σ 20 = .float .f64 (fv (σ 20))) →
    (σ 21 = .int .i64 (iv (σ 21))) →
    (σ 22 = .int .i64 (iv (σ 22))) →
    (σ 23 = .int .i64 (iv (σ 23))) →
    (σ 24 = .int .i64 (iv (σ 24))) →
    (σ 25 = .int .i64 (iv (σ 25))) →
    (σ 26 = .int .i64 (iv (σ 26))) →
    (σ 29 = .int .i64 (iv (σ 29))) →
    (σ 32 = .int .i64 (iv (σ 32))) →
    (iv (σ 1) = (iv (σ 0) : Int).tmod (3652059)) →
    (iv (σ 2) = IntKind.i64.wrap (iv (σ 1))) →
    (iv (σ 3) = IntKind.i64.wrap (iv (σ 2) - 693593)) →
    (fv (σ 4) = FloatKind.f64.nearest (iv (σ 3))) →
    (toR [σ 4, σ 5, σ 6, σ 7, σ 8]) →
    (fromR [σ 5, σ 6, σ 7, σ 9, σ 10]) →
    (isTrue [σ 11]) →
    (wdR [σ 4, σ 16, σ 17]) →
    (iv (σ 19) = IntKind.i64.wrap (iv (σ 3) + 1)) →
    (fv (σ 20) = FloatKind.f64.nearest (iv (σ 19))) →
    (toR [σ 20, σ 21, σ 22, σ 23, σ 24]) →
    (wdR [σ 20, σ 25, σ 26]) →
    (iv (σ 29) = IntKind.i64.wrap (iv (σ 6) + 1)) →
    (iv (σ 32) = IntKind.i64.wrap (iv (σ 5) + 1)) →
    (iv (σ 21) ≠ iv (σ 32)) →
    (iv (σ 23) ≠ 1) →
    (iv (σ 22) = iv (σ 29)) →
    (iv (σ 22) ≠ iv (σ 6)) →
    (iv (σ 21) = iv (σ 5)) →
    (iv (σ 3) ≠ 2958465) →
    (ford (fv (σ 9)) (fv (σ 4)) = some .eq) →
    (iv (σ 10) = 0) →
    (iv (σ 8) = 0) →
    (bv (σ 11) = !false) →
    daysLR [σ 0, (Value.bool false)]

def daysL_L22 : Prop := ∀ σ : Nat → Value,
    (σ 0 = .int .u32 (iv (σ 0))) →
    (0 ≤ iv (σ 0)) →
    (iv (σ 0) ≤ 4294967295) →
    (σ 1 = .int .u32 (iv (σ 1))) →
    (σ 2 = .int .i64 (iv (σ 2))) →
    (σ 3 = .int .i64 (iv (σ 3))) →
    (σ 4 = .float .f64 (fv (σ 4))) →
    (σ 5 = .int .i64 (iv (σ 5))) →
    (σ 6 = .int .i64 (iv (σ 6))) →
    (σ 7 = .int .i64 (iv (σ 7))) →
    (σ 8 = .int .i64 (iv (σ 8))) →
    (σ 9 = .float .f64 (fv (σ 9))) →
    (σ 10 = .int .i64 (iv (σ 10))) →
    (σ 11 = .bool (bv (σ 11))) →
    (σ 16 = .int .i64 (iv (σ 16))) →
    (σ 17 = .int .i64 (iv (σ 17))) →
    (σ 19 = .int .i64 (iv (σ 19))) →
    (σ 20 = .float .f64 (fv (σ 20))) →
    (σ 21 = .int .i64 (iv (σ 21))) →
    (σ 22 = .int .i64 (iv (σ 22))) →
    (σ 23 = .int .i64 (iv (σ 23))) →
    (σ 24 = .int .i64 (iv (σ 24))) →
    (σ 25 = .int .i64 (iv (σ 25))) →
    (σ 26 = .int .i64 (iv (σ 26))) →
    (σ 29 = .int .i64 (iv (σ 29))) →
    (σ 31 = .int .i64 (iv (σ 31))) →
    (σ 36 = .int .i64 (iv (σ 36))) →
    (σ 37 = .int .i64 (iv (σ 37))) →
    (σ 38 = .bool (bv (σ 38))) →
    (iv (σ 1) = (iv (σ 0) : Int).tmod (3652059)) →
    (iv (σ 2) = IntKind.i64.wrap (iv (σ 1))) →
    (iv (σ 3) = IntKind.i64.wrap (iv (σ 2) - 693593)) →
    (fv (σ 4) = FloatKind.f64.nearest (iv (σ 3))) →
    (toR [σ 4, σ 5, σ 6, σ 7, σ 8]) →
    (fromR [σ 5, σ 6, σ 7, σ 9, σ 10]) →
    (isTrue [σ 11]) →
    (wdR [σ 4, σ 16, σ 17]) →
    (iv (σ 19) = IntKind.i64.wrap (iv (σ 3) + 1)) →
    (fv (σ 20) = FloatKind.f64.nearest (iv (σ 19))) →
    (toR [σ 20, σ 21, σ 22, σ 23, σ 24]) →
    (wdR [σ 20, σ 25, σ 26]) →
    (iv (σ 29) = IntKind.i64.wrap (iv (σ 6) + 1)) →
    (iv (σ 31) = IntKind.i64.wrap (iv (σ 5) + 1)) →
    (iv (σ 36) = (iv (σ 16) : Int).tmod (7)) →
    (iv (σ 37) = IntKind.i64.wrap (iv (σ 36) + 1)) →
    (bv (σ 38) = decide (iv (σ 25) = iv (σ 37))) →
    (iv (σ 23) = 1) →
    (iv (σ 22) = 1) →
    (iv (σ 6) = 12) →
    (iv (σ 21) = iv (σ 31)) →
    (iv (σ 22) ≠ iv (σ 29)) →
    (iv (σ 22) ≠ iv (σ 6)) →
    (iv (σ 21) = iv (σ 5)) →
    (iv (σ 3) ≠ 2958465) →
    (ford (fv (σ 9)) (fv (σ 4)) = some .eq) →
    (iv (σ 10) = 0) →
    (iv (σ 8) = 0) →
    (bv (σ 11) = !false) →
    daysLR [σ 0, σ 38]

def daysL_L23 : Prop := ∀ σ : Nat → Value,
    (σ 0 = .int .u32 (iv (σ 0))) →
    (0 ≤ iv (σ 0)) →
    (iv (σ 0) ≤ 4294967295) →
    (σ 1 = .int .u32 (iv (σ 1))) →
    (σ 2 = .int .i64 (iv (σ 2))) →
    (σ 3 = .int .i64 (iv (σ 3))) →
    (σ 4 = .float .f64 (fv (σ 4))) →
    (σ 5 = .int .i64 (iv (σ 5))) →
    (σ 6 = .int .i64 (iv (σ 6))) →
    (σ 7 = .int .i64 (iv (σ 7))) →
    (σ 8 = .int .i64 (iv (σ 8))) →
    (σ 9 = .float .f64 (fv (σ 9))) →
    (σ 10 = .int .i64 (iv (σ 10))) →
    (σ 11 = .bool (bv (σ 11))) →
    (σ 16 = .int .i64 (iv (σ 16))) →
    (σ 17 = .int .i64 (iv (σ 17))) →
    (σ 19 = .int .i64 (iv (σ 19))) →
    (σ 20 = .float .f64 (fv (σ 20))) →
    (σ 21 = .int .i64 (iv (σ 21))) →
    (σ 22 = .int .i64 (iv (σ 22))) →
    (σ 23 = .int .i64 (iv (σ 23))) →
    (σ 24 = .int .i64 (iv (σ 24))) →
    (σ 25 = .int .i64 (iv (σ 25))) →
    (σ 26 = .int .i64 (iv (σ 26))) →
    (σ 29 = .int .i64 (iv (σ 29))) →
    (σ 31 = .int .i64 (iv (σ 31))) →
    (iv (σ 1) = (iv (σ 0) : Int).tmod (3652059)) →
    (iv (σ 2) = IntKind.i64.wrap (iv (σ 1))) →
    (iv (σ 3) = IntKind.i64.wrap (iv (σ 2) - 693593)) →
    (fv (σ 4) = FloatKind.f64.nearest (iv (σ 3))) →
    (toR [σ 4, σ 5, σ 6, σ 7, σ 8]) →
    (fromR [σ 5, σ 6, σ 7, σ 9, σ 10]) →
    (isTrue [σ 11]) →
    (wdR [σ 4, σ 16, σ 17]) →
    (iv (σ 19) = IntKind.i64.wrap (iv (σ 3) + 1)) →
    (fv (σ 20) = FloatKind.f64.nearest (iv (σ 19))) →
    (toR [σ 20, σ 21, σ 22, σ 23, σ 24]) →
    (wdR [σ 20, σ 25, σ 26]) →
    (iv (σ 29) = IntKind.i64.wrap (iv (σ 6) + 1)) →
    (iv (σ 31) = IntKind.i64.wrap (iv (σ 5) + 1)) →
    (iv (σ 23) ≠ 1) →
    (iv (σ 22) = 1) →
    (iv (σ 6) = 12) →
    (iv (σ 21) = iv (σ 31)) →
    (iv (σ 22) ≠ iv (σ 29)) →
    (iv (σ 22) ≠ iv (σ 6)) →
    (iv (σ 21) = iv (σ 5)) →
    (iv (σ 3) ≠ 2958465) →
    (ford (fv (σ 9)) (fv (σ 4)) = some .eq) →
    (iv (σ 10) = 0) →
    (iv (σ 8) = 0) →
    (bv (σ 11) = !false) →
    daysLR [σ 0, (Value.bool false)]

def daysL_L24 : Prop := ∀ σ : Nat → Value,
    (σ 0 = .int .u32 (iv (σ 0))) →
    (0 ≤ iv (σ 0)) →
    (iv (σ 0) ≤ 4294967295) →
    (σ 1 = .int .u32 (iv (σ 1))) →
    (σ 2 = .int .i64 (iv (σ 2))) →
    (σ 3 = .int .i64 (iv (σ 3))) →
    (σ 4 = .float .f64 (fv (σ 4))) →
    (σ 5 = .int .i64 (iv (σ 5))) →
    (σ 6 = .int .i64 (iv (σ 6))) →
    (σ 7 = .int .i64 (iv (σ 7))) →
    (σ 8 = .int .i64 (iv (σ 8))) →
    (σ 9 = .float .f64 (fv (σ 9))) →
    (σ 10 = .int .i64 (iv (σ 10))) →
    (σ 11 = .bool (bv (σ 11))) →
    (σ 16 = .int .i64 (iv (σ 16))) →
    (σ 17 = .int .i64 (iv (σ 17))) →
    (σ 19 = .int .i64 (iv (σ 19))) →
    (σ 20 = .float .f64 (fv (σ 20))) →
    (σ 21 = .int .i64 (iv (σ 21))) →
    (σ 22 = .int .i64 (iv (σ 22))) →
    (σ 23 = .int .i64 (iv (σ 23))) →
    (σ 24 = .int .i64 (iv (σ 24))) →
    (σ 25 = .int .i64 (iv (σ 25))) →
    (σ 26 = .int .i64 (iv (σ 26))) →
    (σ 29 = .int .i64 (iv (σ 29))) →
    (σ 31 = .int .i64 (iv (σ 31))) →
    (iv (σ 1) = (iv (σ 0) : Int).tmod (3652059)) →
    (iv (σ 2) = IntKind.i64.wrap (iv (σ 1))) →
    (iv (σ 3) = IntKind.i64.wrap (iv (σ 2) - 693593)) →
    (fv (σ 4) = FloatKind.f64.nearest (iv (σ 3))) →
    (toR [σ 4, σ 5, σ 6, σ 7, σ 8]) →
    (fromR [σ 5, σ 6, σ 7, σ 9, σ 10]) →
    (isTrue [σ 11]) →
    (wdR [σ 4, σ 16, σ 17]) →
    (iv (σ 19) = IntKind.i64.wrap (iv (σ 3) + 1)) →
    (fv (σ 20) = FloatKind.f64.nearest (iv (σ 19))) →
    (toR [σ 20, σ 21, σ 22, σ 23, σ 24]) →
    (wdR [σ 20, σ 25, σ 26]) →
    (iv (σ 29) = IntKind.i64.wrap (iv (σ 6) + 1)) →
    (iv (σ 31) = IntKind.i64.wrap (iv (σ 5) + 1)) →
    (iv (σ 22) ≠ 1) →
    (iv (σ 6) = 12) →
    (iv (σ 21) = iv (σ 31)) →
    (iv (σ 22) ≠ iv (σ 29)) →
    (iv (σ 22) ≠ iv (σ 6)) →
    (iv (σ 21) = iv (σ 5)) →
    (iv (σ 3) ≠ 2958465) →
    (ford (fv (σ 9)) (fv (σ 4)) = some .eq) →
    (iv (σ 10) = 0) →
    (iv (σ 8) = 0) →
    (bv (σ 11) = !false) →
    daysLR [σ 0, (Value.bool false)]

def daysL_L25 : Prop := ∀ σ : Nat → Value,
    (σ 0 = .int .u32 (iv (σ 0))) →
    (0 ≤ iv (σ 0)) →
    (iv (σ 0) ≤ 4294967295) →
    (σ 1 = .int .u32 (iv (σ 1))) →
    (σ 2 = .int .i64 (iv (σ 2))) →
    (σ 3 = .int .i64 (iv (σ 3))) →
    (σ 4 = .float .f64 (fv (σ 4))) →
    (σ 5 = .int .i64 (iv (σ 5))) →
    (σ 6 = .int .i64 (iv (σ 6))) →
    (σ 7 = .int .i64 (iv (σ 7))) →
    (σ 8 = .int .i64 (iv (σ 8))) →
    (σ 9 = .float .f64 (fv (σ 9))) →
    (σ 10 = .int .i64 (iv (σ 10))) →
    (σ 11 = .bool (bv (σ 11))) →
    (σ 16 = .int .i64 (iv (σ 16))) →
    (σ 17 = .int .i64 (iv (σ 17))) →
    (σ 19 = .int .i64 (iv (σ 19))) →
    (σ 20 = .float .f64 (fv (σ 20))) →
    (σ 21 = .int .i64 (iv (σ 21))) →
    (σ 22 = .int .i64 (iv (σ 22))) →
    (σ 23 = .int .i64 (iv (σ 23))) →
    (σ 24 = .int .i64 (iv (σ 24))) →
    (σ 25 = .int .i64 (iv (σ 25))) →
    (σ 26 = .int .i64 (iv (σ 26))) →
    (σ 29 = .int .i64 (iv (σ 29))) →
    (σ 31 = .int .i64 (iv (σ 31))) →
    (iv (σ 1) = (iv (σ 0) : Int).tmod (3652059)) →
    (iv (σ 2) = IntKind.i64.wrap (iv (σ 1))) →
    (iv (σ 3) = IntKind.i64.wrap (iv (σ 2) - 693593)) →
    (fv (σ 4) = FloatKind.f64.nearest (iv (σ 3))) →
    (toR [σ 4, σ 5, σ 6, σ 7, σ 8]) →
    (fromR [σ 5, σ 6, σ 7, σ 9, σ 10]) →
    (isTrue [σ 11]) →
    (wdR [σ 4, σ 16, σ 17]) →
    (iv (σ 19) = IntKind.i64.wrap (iv (σ 3) + 1)) →
    (fv (σ 20) = FloatKind.f64.nearest (iv (σ 19))) →
    (toR [σ 20, σ 21, σ 22, σ 23, σ 24]) →
    (wdR [σ 20, σ 25, σ 26]) →
    (iv (σ 29) = IntKind.i64.wrap (iv (σ 6) + 1)) →
    (iv (σ 31) = IntKind.i64.wrap (iv (σ 5) + 1)) →
    (iv (σ 6) ≠ 12) →
    (iv (σ 21) = iv (σ 31)) →
    (iv (σ 22) ≠ iv (σ 29)) →
    (iv (σ 22) ≠ iv (σ 6)) →
    (iv (σ 21) = iv (σ 5)) →
    (iv (σ 3) ≠ 2958465) →
    (ford (fv (σ 9)) (fv (σ 4)) = some .eq) →
    (iv (σ 10) = 0) →
    (iv (σ 8) = 0) →
    (bv (σ 11) = !false) →
    daysLR [σ 0, (Value.bool false)]

def daysL_L26 : Prop := ∀ σ : Nat → Value,
    (σ 0 = .int .u32 (iv (σ 0))) →
    (0 ≤ iv (σ 0)) →
    (iv (σ 0) ≤ 4294967295) →
    (σ 1 = .int .u32 (iv (σ 1))) →
    (σ 2 = .int .i64 (iv (σ 2))) →
    (σ 3 = .int .i64 (iv (σ 3))) →
    (σ 4 = .float .f64 (fv (σ 4))) →
    (σ 5 = .int .i64 (iv (σ 5))) →
    (σ 6 = .int .i64 (iv (σ 6))) →
    (σ 7 = .int .i64 (iv (σ 7))) →
    (σ 8 = .int .i64 (iv (σ 8))) →
    (σ 9 = .float .f64 (fv (σ 9))) →
    (σ 10 = .int .i64 (iv (σ 10))) →
    (σ 11 = .bool (bv (σ 11))) →
    (σ 16 = .int .i64 (iv (σ 16))) →
    (σ 17 = .int .i64 (iv (σ 17))) →
    (σ 19 = .int .i64 (iv (σ 19))) →
    (σ 20 = .float .f64 (fv (σ 20))) →
    (σ 21 = .int .i64 (iv (σ 21))) →
    (σ 22 = .int .i64 (iv (σ 22))) →
    (σ 23 = .int .i64 (iv (σ 23))) →
    (σ 24 = .int .i64 (iv (σ 24))) →
    (σ 25 = .int .i64 (iv (σ 25))) →
    (σ 26 = .int .i64 (iv (σ 26))) →
    (σ 29 = .int .i64 (iv (σ 29))) →
    (σ 31 = .int .i64 (iv (σ 31))) →
    (iv (σ 1) = (iv (σ 0) : Int).tmod (3652059)) →
    (iv (σ 2) = IntKind.i64.wrap (iv (σ 1))) →
    (iv (σ 3) = IntKind.i64.wrap (iv (σ 2) - 693593)) →
    (fv (σ 4) = FloatKind.f64.nearest (iv (σ 3))) →
    (toR [σ 4, σ 5, σ 6, σ 7, σ 8]) →
    (fromR [σ 5, σ 6, σ 7, σ 9, σ 10]) →
    (isTrue [σ 11]) →
    (wdR [σ 4, σ 16, σ 17]) →
    (iv (σ 19) = IntKind.i64.wrap (iv (σ 3) + 1)) →
    (fv (σ 20) = FloatKind.f64.nearest (iv (σ 19))) →
    (toR [σ 20, σ 21, σ 22, σ 23, σ 24]) →
    (wdR [σ 20, σ 25, σ 26]) →
    (iv (σ 29) = IntKind.i64.wrap (iv (σ 6) + 1)) →
    (iv (σ 31) = IntKind.i64.wrap (iv (σ 5) + 1)) →
    (iv (σ 21) ≠ iv (σ 31)) →
    (iv (σ 22) ≠ iv (σ 29)) →
    (iv (σ 22) ≠ iv (σ 6)) →
    (iv (σ 21) = iv (σ 5)) →
    (iv (σ 3) ≠ 2958465) →
    (ford (fv (σ 9)) (fv (σ 4)) = some .eq) →
    (iv (σ 10) = 0) →
    (iv (σ 8) = 0) →
    (bv (σ 11) = !false) →
    daysLR [σ 0, (Value.bool false)]

def daysL_L27 : Prop := ∀ σ : Nat → Value,
    (σ 0 = .int .u32 (iv (σ 0))) →
    (0 ≤ iv (σ 0)) →
    (iv (σ 0) ≤ 4294967295) →
    (σ 1 = .int .u32 (iv (σ 1))) →
    (σ 2 = .int .i64 (iv (σ 2))) →
    (σ 3 = .int .i64 (iv (σ 3))) →
    (σ 4 = .float .f64 (fv (σ 4))) →
    (σ 5 = .int .i64 (iv (σ 5))) →
    (σ 6 = .int .i64 (iv (σ 6))) →
    (σ 7 = .int .i64 (iv (σ 7))) →
    (σ 8 = .int .i64 (iv (σ 8))) →
    (σ 9 = .float .f64 (fv (σ 9))) →
    (σ 10 = .int .i64 (iv (σ 10))) →
    (σ 11 = .bool (bv (σ 11))) →
    (σ 16 = .int .i64 (iv (σ 16))) →
    (σ 17 = .int .i64 (iv (σ 17))) →
    (σ 19 = .int .i64 (iv (σ 19))) →
    (σ 20 = .float .f64 (fv (σ 20))) →
    (σ 21 = .int .i64 (iv (σ 21))) →
    (σ 22 = .int .i64 (iv (σ 22))) →
    (σ 23 = .int .i64 (iv (σ 23))) →
    (σ 24 = .int .i64 (iv (σ 24))) →
    (σ 25 = .int .i64 (iv (σ 25))) →
    (σ 26 = .int .i64 (iv (σ 26))) →
    (σ 28 = .int .i64 (iv (σ 28))) →
    (σ 33 = .int .i64 (iv (σ 33))) →
    (σ 34 = .int .i64 (iv (σ 34))) →
    (σ 35 = .bool (bv (σ 35))) →
    (iv (σ 1) = (iv (σ 0) : Int).tmod (3652059)) →
    (iv (σ 2) = IntKind.i64.wrap (iv (σ 1))) →
    (iv (σ 3) = IntKind.i64.wrap (iv (σ 2) - 693593)) →
    (fv (σ 4) = FloatKind.f64.nearest (iv (σ 3))) →
    (toR [σ 4, σ 5, σ 6, σ 7, σ 8]) →
    (fromR [σ 5, σ 6, σ 7, σ 9, σ 10]) →
    (isTrue [σ 11]) →
    (wdR [σ 4, σ 16, σ 17]) →
    (iv (σ 19) = IntKind.i64.wrap (iv (σ 3) + 1)) →
    (fv (σ 20) = FloatKind.f64.nearest (iv (σ 19))) →
    (toR [σ 20, σ 21, σ 22, σ 23, σ 24]) →
    (wdR [σ 20, σ 25, σ 26]) →
    (iv (σ 28) = IntKind.i64.wrap (iv (σ 5) + 1)) →
    (iv (σ 33) = (iv (σ 16) : Int).tmod (7)) →
    (iv (σ 34) = IntKind.i64.wrap (iv (σ 33) + 1)) →
    (bv (σ 35) = decide (iv (σ 25) = iv (σ 34))) →
    (iv (σ 23) = 1) →
    (iv (σ 22) = 1) →
    (iv (σ 6) = 12) →
    (iv (σ 21) = iv (σ 28)) →
    (iv (σ 21) ≠ iv (σ 5)) →
    (iv (σ 3) ≠ 2958465) →
    (ford (fv (σ 9)) (fv (σ 4)) = some .eq) →
    (iv (σ 10) = 0) →
    (iv (σ 8) = 0) →
    (bv (σ 11) = !false) →
    daysLR [σ 0, σ 35]

def daysL_L28 : Prop := ∀ σ : Nat → Value,
    (σ 0 = .int .u32 (iv (σ 0))) →
    (0 ≤ iv (σ 0)) →
    (iv (σ 0) ≤ 4294967295) →
    (σ 1 = .int .u32 (iv (σ 1))) →
    (σ 2 = .int .i64 (iv (σ 2))) →
    (σ 3 = .int .i64 (iv (σ 3))) →
    (σ 4 = .float .f64 (fv (σ 4))) →
    (σ 5 = .int .i64 (iv (σ 5))) →
    (σ 6 = .int .i64 (iv (σ 6))) →
    (σ 7 = .int .i64 (iv (σ 7))) →
    (σ 8 = .int .i64 (iv (σ 8))) →
    (σ 9 = .float .f64 (fv (σ 9))) →
    (σ 10 = .int .i64 (iv (σ 10))) →
    (σ 11 = .bool (bv (σ 11))) →
    (σ 16 = .int .i64 (iv (σ 16))) →
    (σ 17 = .int .i64 (iv (σ 17))) →
    (σ 19 = .int .i64 (iv (σ 19))) →
    (σ 20 = .float .f64 (fv (σ 20))) →
    (σ 21 = .int .i64 (iv (σ 21))) →
    (σ 22 = .int .i64 (iv (σ 22))) →
    (σ 23 = .int .i64 (iv (σ 23))) →
    (σ 24 = .int .i64 (iv (σ 24))) →
    (σ 25 = .int .i64 (iv (σ 25))) →
    (σ 26 = .int .i64 (iv (σ 26))) →
    (σ 28 = .int .i64 (iv (σ 28))) →
    (iv (σ 1) = (iv (σ 0) : Int).tmod (3652059)) →
    (iv (σ 2) = IntKind.i64.wrap (iv (σ 1))) →
    (iv (σ 3) = IntKind.i64.wrap (iv (σ 2) - 693593)) →
    (fv (σ 4) = FloatKind.f64.nearest (iv (σ 3))) →
    (toR [σ 4, σ 5, σ 6, σ 7, σ 8]) →
    (fromR [σ 5, σ 6, σ 7, σ 9, σ 10]) →
    (isTrue [σ 11]) →
    (wdR [σ 4, σ 16, σ 17]) →
    (iv (σ 19) = IntKind.i64.wrap (iv (σ 3) + 1)) →
    (fv (σ 20) = FloatKind.f64.nearest (iv (σ 19))) →
    (toR [σ 20, σ 21, σ 22, σ 23, σ 24]) →
    (wdR [σ 20, σ 25, σ 26]) →
    (iv (σ 28) = IntKind.i64.wrap (iv (σ 5) + 1)) →
    (iv (σ 23) ≠ 1) →
    (iv (σ 22) = 1) →
    (iv (σ 6) = 12) →
    (iv (σ 21) = iv (σ 28)) →
    (iv (σ 21) ≠ iv (σ 5)) →
    (iv (σ 3) ≠ 2958465) →
    (ford (fv (σ 9)) (fv (σ 4)) = some .eq) →
    (iv (σ 10) = 0) →
    (iv (σ 8) = 0) →
    (bv (σ 11) = !false) →
    daysLR [σ 0, (Value.bool false)]

def daysL_L29 : Prop := ∀ σ : Nat → Value,
    (σ 0 = .int .u32 (iv (σ 0))) →
    (0 ≤ iv (σ 0)) →
    (iv (σ 0) ≤ 4294967295) →
    (σ 1 = .int .u32 (iv (σ 1))) →
    (σ 2 = .int .i64 (iv (σ 2))) →
    (σ 3 = .int .i64 (iv (σ 3))) →
    (σ 4 = .float .f64 (fv (σ 4))) →
    (σ 5 = .int .i64 (iv (σ 5))) →
    (σ 6 = .int .i64 (iv (σ 6))) →
    (σ 7 = .int .i64 (iv (σ 7))) →
    (σ 8 = .int .i64 (iv (σ 8))) →
    (σ 9 = .float .f64 (fv (σ 9))) →
    (σ 10 = .int .i64 (iv (σ 10))) →
    (σ 11 = .bool (bv (σ 11))) →
    (σ 16 = .int .i64 (iv (σ 16))) →
    (σ 17 = .int .i64 (iv (σ 17))) →
    (σ 19 = .int .i64 (iv (σ 19))) →
    (σ 20 = .float .f64 (fv (σ 20))) →
    (σ 21 = .int .i64 (iv (σ 21))) →
    (σ 22 = .int .i64 (iv (σ 22))) →
    (σ 23 = .int .i64 (iv (σ 23))) →
    (σ 24 = .int .i64 (iv (σ 24))) →
    (σ 25 = .int .i64 (iv (σ 25))) →
    (σ 26 = .int .i64 (iv (σ 26))) →
    (σ 28 = .int .i64 (iv (σ 28))) →
    (iv (σ 1) = (iv (σ 0) : Int).tmod (3652059)) →
    (iv (σ 2) = IntKind.i64.wrap (iv (σ 1))) →
    (iv (σ 3) = IntKind.i64.wrap (iv (σ 2) - 693593)) →
    (fv (σ 4) = FloatKind.f64.nearest (iv (σ 3))) →
    (toR [σ 4, σ 5, σ 6, σ 7, σ 8]) →
    (fromR [σ 5, σ 6, σ 7, σ 9, σ 10]) →
    (isTrue [σ 11]) →
    (wdR [σ 4, σ 16, σ 17]) →
    (iv (σ 19) = IntKind.i64.wrap (iv (σ 3) + 1)) →
    (fv (σ 20) = FloatKind.f64.nearest (iv (σ 19))) →
    (toR [σ 20, σ 21, σ 22, σ 23, σ 24]) →
    (wdR [σ 20, σ 25, σ 26]) →
    (iv (σ 28) = IntKind.i64.wrap (iv (σ 5) + 1)) →
    (iv (σ 22) ≠ 1) →
    (iv (σ 6) = 12) →
    (iv (σ 21) = iv (σ 28)) →
    (iv (σ 21) ≠ iv (σ 5)) →
    (iv (σ 3) ≠ 2958465) →
    (ford (fv (σ 9)) (fv (σ 4)) = some .eq) →
    (iv (σ 10) = 0) →
    (iv (σ 8) = 0) →
    (bv (σ 11) = !false) →
    daysLR [σ 0, (Value.bool false)]

def daysL_L30 : Prop := ∀ σ : Nat → Value,
    (σ 0 = .int .u32 (iv (σ 0))) →
    (0 ≤ iv (σ 0)) →
    (iv (σ 0) ≤ 4294967295) →
    (σ 1 = .int .u32 (iv (σ 1))) →
    (σ 2 = .int .i64 (iv (σ 2))) →
    (σ 3 = .int .i64 (iv (σ 3))) →
    (σ 4 = .float .f64 (fv (σ 4))) →
    (σ 5 = .int .i64 (iv (σ 5))) →
    (σ 6 = .int .i64 (iv (σ 6))) →
    (σ 7 = .int .i64 (iv (σ 7))) →
    (σ 8 = .int .i64 (iv (σ 8))) →
    (σ 9 = .float .f64 (fv (σ 9))) →
    (σ 10 = .int .i64 (iv (σ 10))) →
    (σ 11 = .bool (bv (σ 11))) →
    (σ 16 = .int .i64 (iv (σ 16))) →
    (σ 17 = .int .i64 (iv (σ 17))) →
    (σ 19 = .int .i64 (iv (σ 19))) →
    (σ 20 = .float .f64 (fv (σ 20))) →
    (σ 21 = .int .i64 (iv (σ 21))) →
    (σ 22 = .int .i64 (iv (σ 22))) →
    (σ 23 = .int .i64 (iv (σ 23))) →
    (σ 24 = .int .i64 (iv (σ 24))) →
    (σ 25 = .int .i64 (iv (σ 25))) →
    (σ 26 = .int .i64 (iv (σ 26))) →
    (σ 28 = .int .i64 (iv (σ 28))) →
    (iv (σ 1) = (iv (σ 0) : Int).tmod (3652059)) →
    (iv (σ 2) = IntKind.i64.wrap (iv (σ 1))) →
    (iv (σ 3) = IntKind.i64.wrap (iv (σ 2) - 693593)) →
    (fv (σ 4) = FloatKind.f64.nearest (iv (σ 3))) →
    (toR [σ 4, σ 5, σ 6, σ 7, σ 8]) →
    (fromR [σ 5, σ 6, σ 7, σ 9, σ 10]) →
    (isTrue [σ 11]) →
    (wdR [σ 4, σ 16, σ 17]) →
    (iv (σ 19) = IntKind.i64.wrap (iv (σ 3) + 1)) →
    (fv (σ 20) = FloatKind.f64.nearest (iv (σ 19))) →
    (toR [σ 20, σ 21, σ 22, σ 23, σ 24]) →
    (wdR [σ 20, σ 25, σ 26]) →
    (iv (σ 28) = IntKind.i64.wrap (iv (σ 5) + 1)) →
    (iv (σ 6) ≠ 12) →
    (iv (σ 21) = iv (σ 28)) →
    (iv (σ 21) ≠ iv (σ 5)) →
    (iv (σ 3) ≠ 2958465) →
    (ford (fv (σ 9)) (fv (σ 4)) = some .eq) →
    (iv (σ 10) = 0) →
    (iv (σ 8) = 0) →
    (bv (σ 11) = !false) →
    daysLR [σ 0, (Value.bool false)]

def daysL_L31 : Prop := ∀ σ : Nat → Value,
    (σ 0 = .int .u32 (iv (σ 0))) →
    (0 ≤ iv (σ 0)) →
    (iv (σ 0) ≤ 4294967295) →
    (σ 1 = .int .u32 (iv (σ 1))) →
    (σ 2 = .int .i64 (iv (σ 2))) →
    (σ 3 = .int .i64 (iv (σ 3))) →
    (σ 4 = .float .f64 (fv (σ 4))) →
    (σ 5 = .int .i64 (iv (σ 5))) →
    (σ 6 = .int .i64 (iv (σ 6))) →
    (σ 7 = .int .i64 (iv (σ 7))) →
    (σ 8 = .int .i64 (iv (σ 8))) →
    (σ 9 = .float .f64 (fv (σ 9))) →
    (σ 10 = .int .i64 (iv (σ 10))) →
    (σ 11 = .bool (bv (σ 11))) →
    (σ 16 = .int .i64 (iv (σ 16))) →
    (σ 17 = .int .i64 (iv (σ 17))) →
    (σ 19 = .int .i64 (iv (σ 19))) →
    (σ 20 = .float .f64 (fv (σ 20))) →
    (σ 21 = .int .i64 (iv (σ 21))) →
    (σ 22 = .int .i64 (iv (σ 22))) →
    (σ 23 = .int .i64 (iv (σ 23))) →
    (σ 24 = .int .i64 (iv (σ 24))) →
    (σ 25 = .int .i64 (iv (σ 25))) →
    (σ 26 = .int .i64 (iv (σ 26))) →
    (σ 28 = .int .i64 (iv (σ 28))) →
    (iv (σ 1) = (iv (σ 0) : Int).tmod (3652059)) →
    (iv (σ 2) = IntKind.i64.wrap (iv (σ 1))) →
    (iv (σ 3) = IntKind.i64.wrap (iv (σ 2) - 693593)) →
    (fv (σ 4) = FloatKind.f64.nearest (iv (σ 3))) →
    (toR [σ 4, σ 5, σ 6, σ 7, σ 8]) →
    (fromR [σ 5, σ 6, σ 7, σ 9, σ 10]) →
    (isTrue [σ 11]) →
    (wdR [σ 4, σ 16, σ 17]) →
    (iv (σ 19) = IntKind.i64.wrap (iv (σ 3) + 1)) →
    (fv (σ 20) = FloatKind.f64.nearest (iv (σ 19))) →
    (toR [σ 20, σ 21, σ 22, σ 23, σ 24]) →
    (wdR [σ 20, σ 25, σ 26]) →
    (iv (σ 28) = IntKind.i64.wrap (iv (σ 5) + 1)) →
    (iv (σ 21) ≠ iv (σ 28)) →
    (iv (σ 21) ≠ iv (σ 5)) →
    (iv (σ 3) ≠ 2958465) →
    (ford (fv (σ 9)) (fv (σ 4)) = some .eq) →
    (iv (σ 10) = 0) →
    (iv (σ 8) = 0) →
    (bv (σ 11) = !false) →
    daysLR [σ 0, (Value.bool false)]

theorem daysL_tie : daysLC.goals (cfgC Tryz.prog (entersOf Tryz.prog) X [toC, fromC, liveC, wdC]) [] 2000 = (daysL_L0 ∧ daysL_L1 ∧ daysL_L2 ∧ daysL_L3 ∧ daysL_L4 ∧ daysL_L5 ∧ daysL_L6 ∧ daysL_L7 ∧ daysL_L8 ∧ daysL_L9 ∧ daysL_L10 ∧ daysL_L11 ∧ daysL_L12 ∧ daysL_L13 ∧ daysL_L14 ∧ daysL_L15 ∧ daysL_L16 ∧ daysL_L17 ∧ daysL_L18 ∧ daysL_L19 ∧ daysL_L20 ∧ daysL_L21 ∧ daysL_L22 ∧ daysL_L23 ∧ daysL_L24 ∧ daysL_L25 ∧ daysL_L26 ∧ daysL_L27 ∧ daysL_L28 ∧ daysL_L29 ∧ daysL_L30 ∧ daysL_L31 ∧ True) := by kernel_rfl

theorem n0_of {a b c d : Int} (h0 : 0 ≤ a) (h1 : b = a.tmod 3652059) (h2 : c = IntKind.i64.wrap b) (h3 : d = IntKind.i64.wrap (c - 693593)) : -693593 ≤ d ∧ d ≤ 2958465 := by
  rw [tmod_nn h0] at h1
  rw [IntWalk.i64_in _ (by omega)] at h2
  rw [IntWalk.i64_in _ (by omega)] at h3
  omega
/-- The tale of a day, its date and back. -/
theorem one_day {x y m d e z f : Value} {n : Int} (hn : -693593 ≤ n ∧ n ≤ 2958465) (hx : fv x = FloatKind.f64.nearest n) (h : toR [x, y, m, d, e]) (k : fromR [y, m, d, z, f]) :
    iv e = 0 ∧ iv f = 0 ∧ ford (fv z) (fv x) = some .eq ∧ IsDate (n + 693593) (iv y) (iv m) (iv d) := by
  have t := toR_num hx hn.1 hn.2 h
  have u := fromR_date t.2 k
  exact ⟨t.1, u.1, same_ford u.2 hx (by omega) (by omega), t.2⟩
theorem next_day {x y m d w v x' y' m' d' e' w' v' : Value} {n n' : Int} (hn : -693593 ≤ n ∧ n ≤ 2958465) (hne : n ≠ 2958465) (hx : fv x = FloatKind.f64.nearest n) (hd : IsDate (n + 693593) (iv y) (iv m) (iv d)) (hw : wdR [x, w, v])
    (hn' : n' = IntKind.i64.wrap (n + 1)) (hx' : fv x' = FloatKind.f64.nearest n') (h' : toR [x', y', m', d', e']) (hw' : wdR [x', w', v']) :
    iv w = (n + 693594) % 7 + 1 ∧ iv w' = (n + 693595) % 7 + 1 ∧ ((iv y' = iv y ∧ iv m' = iv m ∧ iv d' = iv d + 1) ∨ (iv y' = iv y ∧ iv m' = iv m + 1 ∧ iv d' = 1) ∨ (iv y' = iv y + 1 ∧ iv m = 12 ∧ iv m' = 1 ∧ iv d' = 1)) ∧ 1 ≤ iv y ∧ iv y ≤ 9999 ∧ 1 ≤ iv m ∧ iv m ≤ 12 ∧ 1 ≤ iv d ∧ iv d ≤ 31 := by
  rw [IntWalk.i64_in _ (by omega)] at hn'
  subst hn'
  have t := toR_num hx' (by omega) (by omega) h'
  have e : n + 1 + 693593 = n + 693593 + 1 := by omega
  rw [e] at t
  have e2 : n + 1 + 693594 = n + 693595 := by omega
  have w2 := (wdR_num hx' (by omega) (by omega) hw').2
  rw [e2] at w2
  have mp := monI_pos (iv y) (iv m)
  have := hd.d2
  exact ⟨(wdR_num hx hn.1 hn.2 hw).2, w2, hd.next t.2, hd.y1, hd.y2, hd.m1, hd.m2, hd.d1, by omega⟩
theorem mod7 {n a b c w : Int} (h : w = (n + 693594) % 7 + 1) (ha : a = w.tmod 7) (hb : b = IntKind.i64.wrap (a + 1)) (hc : c = (n + 693595) % 7 + 1) : c = b := by
  rw [tmod_nn (by omega)] at ha
  rw [IntWalk.i64_in _ (by omega)] at hb
  omega
theorem daysL_L0_ok : daysL_L0 := by (
  intro σ; intros
  have n3 := n0_of ‹0 ≤ iv (σ 0)› ‹iv (σ 1) = (iv (σ 0) : Int).tmod 3652059› ‹iv (σ 2) = IntKind.i64.wrap (iv (σ 1))› ‹iv (σ 3) = IntKind.i64.wrap (iv (σ 2) - 693593)›
  obtain ⟨o1, o2, o3, o4⟩ := one_day n3 ‹fv (σ 4) = FloatKind.f64.nearest (iv (σ 3))› ‹toR [σ 4, σ 5, σ 6, σ 7, σ 8]› ‹fromR [σ 5, σ 6, σ 7, σ 9, σ 10]›
  have l1 : bv (σ 11) = true := by
    have := ‹isTrue [σ 11]›
    simp only [isTrue, List.cons.injEq, and_true] at this
    rw [this]; rfl
  show bv _ = true
  first
  | (exfalso; have q := l1.symm.trans ‹bv (σ 11) = !true›; cases q)
  | (exfalso; omega)
  | (exact absurd o3 ‹_›)
  | (have w := (wdR_num ‹fv (σ 4) = FloatKind.f64.nearest (iv (σ 3))› n3.1 n3.2 ‹wdR [σ 4, σ 16, σ 17]›).2
     first
     | (exfalso; omega)
     | (refine Eq.trans ‹_› (decide_eq_true ?_); omega))
  | (obtain ⟨w1, w2, nx, y1, y2, m1, m2, d1, d2⟩ := next_day n3 ‹iv (σ 3) ≠ 2958465› ‹fv (σ 4) = FloatKind.f64.nearest (iv (σ 3))› o4 ‹wdR [σ 4, σ 16, σ 17]› ‹iv (σ 19) = IntKind.i64.wrap (iv (σ 3) + 1)› ‹fv (σ 20) = FloatKind.f64.nearest (iv (σ 19))› ‹toR [σ 20, σ 21, σ 22, σ 23, σ 24]› ‹wdR [σ 20, σ 25, σ 26]›
     first
     | (refine Eq.trans ‹_› (decide_eq_true ?_); exact mod7 w1 ‹_› ‹_› w2)
     | (exfalso; (repeat (simp (disch := omega) only [IntWalk.i64_in, tdiv_nn, tmod_nn] at *)); omega)))
theorem daysL_L1_ok : daysL_L1 := by (
  intro σ; intros
  have n3 := n0_of ‹0 ≤ iv (σ 0)› ‹iv (σ 1) = (iv (σ 0) : Int).tmod 3652059› ‹iv (σ 2) = IntKind.i64.wrap (iv (σ 1))› ‹iv (σ 3) = IntKind.i64.wrap (iv (σ 2) - 693593)›
  obtain ⟨o1, o2, o3, o4⟩ := one_day n3 ‹fv (σ 4) = FloatKind.f64.nearest (iv (σ 3))› ‹toR [σ 4, σ 5, σ 6, σ 7, σ 8]› ‹fromR [σ 5, σ 6, σ 7, σ 9, σ 10]›
  have l1 : bv (σ 11) = true := by
    have := ‹isTrue [σ 11]›
    simp only [isTrue, List.cons.injEq, and_true] at this
    rw [this]; rfl
  show bv _ = true
  first
  | (exfalso; have q := l1.symm.trans ‹bv (σ 11) = !true›; cases q)
  | (exfalso; omega)
  | (exact absurd o3 ‹_›)
  | (have w := (wdR_num ‹fv (σ 4) = FloatKind.f64.nearest (iv (σ 3))› n3.1 n3.2 ‹wdR [σ 4, σ 16, σ 17]›).2
     first
     | (exfalso; omega)
     | (refine Eq.trans ‹_› (decide_eq_true ?_); omega))
  | (obtain ⟨w1, w2, nx, y1, y2, m1, m2, d1, d2⟩ := next_day n3 ‹iv (σ 3) ≠ 2958465› ‹fv (σ 4) = FloatKind.f64.nearest (iv (σ 3))› o4 ‹wdR [σ 4, σ 16, σ 17]› ‹iv (σ 19) = IntKind.i64.wrap (iv (σ 3) + 1)› ‹fv (σ 20) = FloatKind.f64.nearest (iv (σ 19))› ‹toR [σ 20, σ 21, σ 22, σ 23, σ 24]› ‹wdR [σ 20, σ 25, σ 26]›
     first
     | (refine Eq.trans ‹_› (decide_eq_true ?_); exact mod7 w1 ‹_› ‹_› w2)
     | (exfalso; (repeat (simp (disch := omega) only [IntWalk.i64_in, tdiv_nn, tmod_nn] at *)); omega)))
theorem daysL_L2_ok : daysL_L2 := by (
  intro σ; intros
  have n3 := n0_of ‹0 ≤ iv (σ 0)› ‹iv (σ 1) = (iv (σ 0) : Int).tmod 3652059› ‹iv (σ 2) = IntKind.i64.wrap (iv (σ 1))› ‹iv (σ 3) = IntKind.i64.wrap (iv (σ 2) - 693593)›
  obtain ⟨o1, o2, o3, o4⟩ := one_day n3 ‹fv (σ 4) = FloatKind.f64.nearest (iv (σ 3))› ‹toR [σ 4, σ 5, σ 6, σ 7, σ 8]› ‹fromR [σ 5, σ 6, σ 7, σ 9, σ 10]›
  have l1 : bv (σ 11) = true := by
    have := ‹isTrue [σ 11]›
    simp only [isTrue, List.cons.injEq, and_true] at this
    rw [this]; rfl
  show bv _ = true
  first
  | (exfalso; have q := l1.symm.trans ‹bv (σ 11) = !true›; cases q)
  | (exfalso; omega)
  | (exact absurd o3 ‹_›)
  | (have w := (wdR_num ‹fv (σ 4) = FloatKind.f64.nearest (iv (σ 3))› n3.1 n3.2 ‹wdR [σ 4, σ 16, σ 17]›).2
     first
     | (exfalso; omega)
     | (refine Eq.trans ‹_› (decide_eq_true ?_); omega))
  | (obtain ⟨w1, w2, nx, y1, y2, m1, m2, d1, d2⟩ := next_day n3 ‹iv (σ 3) ≠ 2958465› ‹fv (σ 4) = FloatKind.f64.nearest (iv (σ 3))› o4 ‹wdR [σ 4, σ 16, σ 17]› ‹iv (σ 19) = IntKind.i64.wrap (iv (σ 3) + 1)› ‹fv (σ 20) = FloatKind.f64.nearest (iv (σ 19))› ‹toR [σ 20, σ 21, σ 22, σ 23, σ 24]› ‹wdR [σ 20, σ 25, σ 26]›
     first
     | (refine Eq.trans ‹_› (decide_eq_true ?_); exact mod7 w1 ‹_› ‹_› w2)
     | (exfalso; (repeat (simp (disch := omega) only [IntWalk.i64_in, tdiv_nn, tmod_nn] at *)); omega)))
theorem daysL_L3_ok : daysL_L3 := by (
  intro σ; intros
  have n3 := n0_of ‹0 ≤ iv (σ 0)› ‹iv (σ 1) = (iv (σ 0) : Int).tmod 3652059› ‹iv (σ 2) = IntKind.i64.wrap (iv (σ 1))› ‹iv (σ 3) = IntKind.i64.wrap (iv (σ 2) - 693593)›
  obtain ⟨o1, o2, o3, o4⟩ := one_day n3 ‹fv (σ 4) = FloatKind.f64.nearest (iv (σ 3))› ‹toR [σ 4, σ 5, σ 6, σ 7, σ 8]› ‹fromR [σ 5, σ 6, σ 7, σ 9, σ 10]›
  have l1 : bv (σ 11) = true := by
    have := ‹isTrue [σ 11]›
    simp only [isTrue, List.cons.injEq, and_true] at this
    rw [this]; rfl
  show bv _ = true
  first
  | (exfalso; have q := l1.symm.trans ‹bv (σ 11) = !true›; cases q)
  | (exfalso; omega)
  | (exact absurd o3 ‹_›)
  | (have w := (wdR_num ‹fv (σ 4) = FloatKind.f64.nearest (iv (σ 3))› n3.1 n3.2 ‹wdR [σ 4, σ 16, σ 17]›).2
     first
     | (exfalso; omega)
     | (refine Eq.trans ‹_› (decide_eq_true ?_); omega))
  | (obtain ⟨w1, w2, nx, y1, y2, m1, m2, d1, d2⟩ := next_day n3 ‹iv (σ 3) ≠ 2958465› ‹fv (σ 4) = FloatKind.f64.nearest (iv (σ 3))› o4 ‹wdR [σ 4, σ 16, σ 17]› ‹iv (σ 19) = IntKind.i64.wrap (iv (σ 3) + 1)› ‹fv (σ 20) = FloatKind.f64.nearest (iv (σ 19))› ‹toR [σ 20, σ 21, σ 22, σ 23, σ 24]› ‹wdR [σ 20, σ 25, σ 26]›
     first
     | (refine Eq.trans ‹_› (decide_eq_true ?_); exact mod7 w1 ‹_› ‹_› w2)
     | (exfalso; (repeat (simp (disch := omega) only [IntWalk.i64_in, tdiv_nn, tmod_nn] at *)); omega)))
theorem daysL_L4_ok : daysL_L4 := by (
  intro σ; intros
  have n3 := n0_of ‹0 ≤ iv (σ 0)› ‹iv (σ 1) = (iv (σ 0) : Int).tmod 3652059› ‹iv (σ 2) = IntKind.i64.wrap (iv (σ 1))› ‹iv (σ 3) = IntKind.i64.wrap (iv (σ 2) - 693593)›
  obtain ⟨o1, o2, o3, o4⟩ := one_day n3 ‹fv (σ 4) = FloatKind.f64.nearest (iv (σ 3))› ‹toR [σ 4, σ 5, σ 6, σ 7, σ 8]› ‹fromR [σ 5, σ 6, σ 7, σ 9, σ 10]›
  have l1 : bv (σ 11) = true := by
    have := ‹isTrue [σ 11]›
    simp only [isTrue, List.cons.injEq, and_true] at this
    rw [this]; rfl
  show bv _ = true
  first
  | (exfalso; have q := l1.symm.trans ‹bv (σ 11) = !true›; cases q)
  | (exfalso; omega)
  | (exact absurd o3 ‹_›)
  | (have w := (wdR_num ‹fv (σ 4) = FloatKind.f64.nearest (iv (σ 3))› n3.1 n3.2 ‹wdR [σ 4, σ 16, σ 17]›).2
     first
     | (exfalso; omega)
     | (refine Eq.trans ‹_› (decide_eq_true ?_); omega))
  | (obtain ⟨w1, w2, nx, y1, y2, m1, m2, d1, d2⟩ := next_day n3 ‹iv (σ 3) ≠ 2958465› ‹fv (σ 4) = FloatKind.f64.nearest (iv (σ 3))› o4 ‹wdR [σ 4, σ 16, σ 17]› ‹iv (σ 19) = IntKind.i64.wrap (iv (σ 3) + 1)› ‹fv (σ 20) = FloatKind.f64.nearest (iv (σ 19))› ‹toR [σ 20, σ 21, σ 22, σ 23, σ 24]› ‹wdR [σ 20, σ 25, σ 26]›
     first
     | (refine Eq.trans ‹_› (decide_eq_true ?_); exact mod7 w1 ‹_› ‹_› w2)
     | (exfalso; (repeat (simp (disch := omega) only [IntWalk.i64_in, tdiv_nn, tmod_nn] at *)); omega)))
theorem daysL_L5_ok : daysL_L5 := by (
  intro σ; intros
  have n3 := n0_of ‹0 ≤ iv (σ 0)› ‹iv (σ 1) = (iv (σ 0) : Int).tmod 3652059› ‹iv (σ 2) = IntKind.i64.wrap (iv (σ 1))› ‹iv (σ 3) = IntKind.i64.wrap (iv (σ 2) - 693593)›
  obtain ⟨o1, o2, o3, o4⟩ := one_day n3 ‹fv (σ 4) = FloatKind.f64.nearest (iv (σ 3))› ‹toR [σ 4, σ 5, σ 6, σ 7, σ 8]› ‹fromR [σ 5, σ 6, σ 7, σ 9, σ 10]›
  have l1 : bv (σ 11) = true := by
    have := ‹isTrue [σ 11]›
    simp only [isTrue, List.cons.injEq, and_true] at this
    rw [this]; rfl
  show bv _ = true
  first
  | (exfalso; have q := l1.symm.trans ‹bv (σ 11) = !true›; cases q)
  | (exfalso; omega)
  | (exact absurd o3 ‹_›)
  | (have w := (wdR_num ‹fv (σ 4) = FloatKind.f64.nearest (iv (σ 3))› n3.1 n3.2 ‹wdR [σ 4, σ 16, σ 17]›).2
     first
     | (exfalso; omega)
     | (refine Eq.trans ‹_› (decide_eq_true ?_); omega))
  | (obtain ⟨w1, w2, nx, y1, y2, m1, m2, d1, d2⟩ := next_day n3 ‹iv (σ 3) ≠ 2958465› ‹fv (σ 4) = FloatKind.f64.nearest (iv (σ 3))› o4 ‹wdR [σ 4, σ 16, σ 17]› ‹iv (σ 19) = IntKind.i64.wrap (iv (σ 3) + 1)› ‹fv (σ 20) = FloatKind.f64.nearest (iv (σ 19))› ‹toR [σ 20, σ 21, σ 22, σ 23, σ 24]› ‹wdR [σ 20, σ 25, σ 26]›
     first
     | (refine Eq.trans ‹_› (decide_eq_true ?_); exact mod7 w1 ‹_› ‹_› w2)
     | (exfalso; (repeat (simp (disch := omega) only [IntWalk.i64_in, tdiv_nn, tmod_nn] at *)); omega)))
theorem daysL_L6_ok : daysL_L6 := by (
  intro σ; intros
  have n3 := n0_of ‹0 ≤ iv (σ 0)› ‹iv (σ 1) = (iv (σ 0) : Int).tmod 3652059› ‹iv (σ 2) = IntKind.i64.wrap (iv (σ 1))› ‹iv (σ 3) = IntKind.i64.wrap (iv (σ 2) - 693593)›
  obtain ⟨o1, o2, o3, o4⟩ := one_day n3 ‹fv (σ 4) = FloatKind.f64.nearest (iv (σ 3))› ‹toR [σ 4, σ 5, σ 6, σ 7, σ 8]› ‹fromR [σ 5, σ 6, σ 7, σ 9, σ 10]›
  have l1 : bv (σ 11) = true := by
    have := ‹isTrue [σ 11]›
    simp only [isTrue, List.cons.injEq, and_true] at this
    rw [this]; rfl
  show bv _ = true
  first
  | (exfalso; have q := l1.symm.trans ‹bv (σ 11) = !true›; cases q)
  | (exfalso; omega)
  | (exact absurd o3 ‹_›)
  | (have w := (wdR_num ‹fv (σ 4) = FloatKind.f64.nearest (iv (σ 3))› n3.1 n3.2 ‹wdR [σ 4, σ 16, σ 17]›).2
     first
     | (exfalso; omega)
     | (refine Eq.trans ‹_› (decide_eq_true ?_); omega))
  | (obtain ⟨w1, w2, nx, y1, y2, m1, m2, d1, d2⟩ := next_day n3 ‹iv (σ 3) ≠ 2958465› ‹fv (σ 4) = FloatKind.f64.nearest (iv (σ 3))› o4 ‹wdR [σ 4, σ 16, σ 17]› ‹iv (σ 19) = IntKind.i64.wrap (iv (σ 3) + 1)› ‹fv (σ 20) = FloatKind.f64.nearest (iv (σ 19))› ‹toR [σ 20, σ 21, σ 22, σ 23, σ 24]› ‹wdR [σ 20, σ 25, σ 26]›
     first
     | (refine Eq.trans ‹_› (decide_eq_true ?_); exact mod7 w1 ‹_› ‹_› w2)
     | (exfalso; (repeat (simp (disch := omega) only [IntWalk.i64_in, tdiv_nn, tmod_nn] at *)); omega)))
theorem daysL_L7_ok : daysL_L7 := by (
  intro σ; intros
  have n3 := n0_of ‹0 ≤ iv (σ 0)› ‹iv (σ 1) = (iv (σ 0) : Int).tmod 3652059› ‹iv (σ 2) = IntKind.i64.wrap (iv (σ 1))› ‹iv (σ 3) = IntKind.i64.wrap (iv (σ 2) - 693593)›
  obtain ⟨o1, o2, o3, o4⟩ := one_day n3 ‹fv (σ 4) = FloatKind.f64.nearest (iv (σ 3))› ‹toR [σ 4, σ 5, σ 6, σ 7, σ 8]› ‹fromR [σ 5, σ 6, σ 7, σ 9, σ 10]›
  have l1 : bv (σ 11) = true := by
    have := ‹isTrue [σ 11]›
    simp only [isTrue, List.cons.injEq, and_true] at this
    rw [this]; rfl
  show bv _ = true
  first
  | (exfalso; have q := l1.symm.trans ‹bv (σ 11) = !true›; cases q)
  | (exfalso; omega)
  | (exact absurd o3 ‹_›)
  | (have w := (wdR_num ‹fv (σ 4) = FloatKind.f64.nearest (iv (σ 3))› n3.1 n3.2 ‹wdR [σ 4, σ 16, σ 17]›).2
     first
     | (exfalso; omega)
     | (refine Eq.trans ‹_› (decide_eq_true ?_); omega))
  | (obtain ⟨w1, w2, nx, y1, y2, m1, m2, d1, d2⟩ := next_day n3 ‹iv (σ 3) ≠ 2958465› ‹fv (σ 4) = FloatKind.f64.nearest (iv (σ 3))› o4 ‹wdR [σ 4, σ 16, σ 17]› ‹iv (σ 19) = IntKind.i64.wrap (iv (σ 3) + 1)› ‹fv (σ 20) = FloatKind.f64.nearest (iv (σ 19))› ‹toR [σ 20, σ 21, σ 22, σ 23, σ 24]› ‹wdR [σ 20, σ 25, σ 26]›
     first
     | (refine Eq.trans ‹_› (decide_eq_true ?_); exact mod7 w1 ‹_› ‹_› w2)
     | (exfalso; (repeat (simp (disch := omega) only [IntWalk.i64_in, tdiv_nn, tmod_nn] at *)); omega)))
theorem daysL_L8_ok : daysL_L8 := by (
  intro σ; intros
  have n3 := n0_of ‹0 ≤ iv (σ 0)› ‹iv (σ 1) = (iv (σ 0) : Int).tmod 3652059› ‹iv (σ 2) = IntKind.i64.wrap (iv (σ 1))› ‹iv (σ 3) = IntKind.i64.wrap (iv (σ 2) - 693593)›
  obtain ⟨o1, o2, o3, o4⟩ := one_day n3 ‹fv (σ 4) = FloatKind.f64.nearest (iv (σ 3))› ‹toR [σ 4, σ 5, σ 6, σ 7, σ 8]› ‹fromR [σ 5, σ 6, σ 7, σ 9, σ 10]›
  have l1 : bv (σ 11) = true := by
    have := ‹isTrue [σ 11]›
    simp only [isTrue, List.cons.injEq, and_true] at this
    rw [this]; rfl
  show bv _ = true
  first
  | (exfalso; have q := l1.symm.trans ‹bv (σ 11) = !true›; cases q)
  | (exfalso; omega)
  | (exact absurd o3 ‹_›)
  | (have w := (wdR_num ‹fv (σ 4) = FloatKind.f64.nearest (iv (σ 3))› n3.1 n3.2 ‹wdR [σ 4, σ 16, σ 17]›).2
     first
     | (exfalso; omega)
     | (refine Eq.trans ‹_› (decide_eq_true ?_); omega))
  | (obtain ⟨w1, w2, nx, y1, y2, m1, m2, d1, d2⟩ := next_day n3 ‹iv (σ 3) ≠ 2958465› ‹fv (σ 4) = FloatKind.f64.nearest (iv (σ 3))› o4 ‹wdR [σ 4, σ 16, σ 17]› ‹iv (σ 19) = IntKind.i64.wrap (iv (σ 3) + 1)› ‹fv (σ 20) = FloatKind.f64.nearest (iv (σ 19))› ‹toR [σ 20, σ 21, σ 22, σ 23, σ 24]› ‹wdR [σ 20, σ 25, σ 26]›
     first
     | (refine Eq.trans ‹_› (decide_eq_true ?_); exact mod7 w1 ‹_› ‹_› w2)
     | (exfalso; (repeat (simp (disch := omega) only [IntWalk.i64_in, tdiv_nn, tmod_nn] at *)); omega)))
theorem daysL_L9_ok : daysL_L9 := by (
  intro σ; intros
  have n3 := n0_of ‹0 ≤ iv (σ 0)› ‹iv (σ 1) = (iv (σ 0) : Int).tmod 3652059› ‹iv (σ 2) = IntKind.i64.wrap (iv (σ 1))› ‹iv (σ 3) = IntKind.i64.wrap (iv (σ 2) - 693593)›
  obtain ⟨o1, o2, o3, o4⟩ := one_day n3 ‹fv (σ 4) = FloatKind.f64.nearest (iv (σ 3))› ‹toR [σ 4, σ 5, σ 6, σ 7, σ 8]› ‹fromR [σ 5, σ 6, σ 7, σ 9, σ 10]›
  have l1 : bv (σ 11) = true := by
    have := ‹isTrue [σ 11]›
    simp only [isTrue, List.cons.injEq, and_true] at this
    rw [this]; rfl
  show bv _ = true
  first
  | (exfalso; have q := l1.symm.trans ‹bv (σ 11) = !true›; cases q)
  | (exfalso; omega)
  | (exact absurd o3 ‹_›)
  | (have w := (wdR_num ‹fv (σ 4) = FloatKind.f64.nearest (iv (σ 3))› n3.1 n3.2 ‹wdR [σ 4, σ 16, σ 17]›).2
     first
     | (exfalso; omega)
     | (refine Eq.trans ‹_› (decide_eq_true ?_); omega))
  | (obtain ⟨w1, w2, nx, y1, y2, m1, m2, d1, d2⟩ := next_day n3 ‹iv (σ 3) ≠ 2958465› ‹fv (σ 4) = FloatKind.f64.nearest (iv (σ 3))› o4 ‹wdR [σ 4, σ 16, σ 17]› ‹iv (σ 19) = IntKind.i64.wrap (iv (σ 3) + 1)› ‹fv (σ 20) = FloatKind.f64.nearest (iv (σ 19))› ‹toR [σ 20, σ 21, σ 22, σ 23, σ 24]› ‹wdR [σ 20, σ 25, σ 26]›
     first
     | (refine Eq.trans ‹_› (decide_eq_true ?_); exact mod7 w1 ‹_› ‹_› w2)
     | (exfalso; (repeat (simp (disch := omega) only [IntWalk.i64_in, tmod_nn] at *)); omega)))
theorem daysL_L10_ok : daysL_L10 := by (
  intro σ; intros
  have n3 := n0_of ‹0 ≤ iv (σ 0)› ‹iv (σ 1) = (iv (σ 0) : Int).tmod 3652059› ‹iv (σ 2) = IntKind.i64.wrap (iv (σ 1))› ‹iv (σ 3) = IntKind.i64.wrap (iv (σ 2) - 693593)›
  obtain ⟨o1, o2, o3, o4⟩ := one_day n3 ‹fv (σ 4) = FloatKind.f64.nearest (iv (σ 3))› ‹toR [σ 4, σ 5, σ 6, σ 7, σ 8]› ‹fromR [σ 5, σ 6, σ 7, σ 9, σ 10]›
  have l1 : bv (σ 11) = true := by
    have := ‹isTrue [σ 11]›
    simp only [isTrue, List.cons.injEq, and_true] at this
    rw [this]; rfl
  show bv _ = true
  first
  | (exfalso; have q := l1.symm.trans ‹bv (σ 11) = !true›; cases q)
  | (exfalso; omega)
  | (exact absurd o3 ‹_›)
  | (have w := (wdR_num ‹fv (σ 4) = FloatKind.f64.nearest (iv (σ 3))› n3.1 n3.2 ‹wdR [σ 4, σ 16, σ 17]›).2
     first
     | (exfalso; omega)
     | (refine Eq.trans ‹_› (decide_eq_true ?_); omega))
  | (obtain ⟨w1, w2, nx, y1, y2, m1, m2, d1, d2⟩ := next_day n3 ‹iv (σ 3) ≠ 2958465› ‹fv (σ 4) = FloatKind.f64.nearest (iv (σ 3))› o4 ‹wdR [σ 4, σ 16, σ 17]› ‹iv (σ 19) = IntKind.i64.wrap (iv (σ 3) + 1)› ‹fv (σ 20) = FloatKind.f64.nearest (iv (σ 19))› ‹toR [σ 20, σ 21, σ 22, σ 23, σ 24]› ‹wdR [σ 20, σ 25, σ 26]›
     first
     | (refine Eq.trans ‹_› (decide_eq_true ?_); exact mod7 w1 ‹_› ‹_› w2)
     | (exfalso; (repeat (simp (disch := omega) only [IntWalk.i64_in, tmod_nn] at *)); omega)))
theorem daysL_L11_ok : daysL_L11 := by (
  intro σ; intros
  have n3 := n0_of ‹0 ≤ iv (σ 0)› ‹iv (σ 1) = (iv (σ 0) : Int).tmod 3652059› ‹iv (σ 2) = IntKind.i64.wrap (iv (σ 1))› ‹iv (σ 3) = IntKind.i64.wrap (iv (σ 2) - 693593)›
  obtain ⟨o1, o2, o3, o4⟩ := one_day n3 ‹fv (σ 4) = FloatKind.f64.nearest (iv (σ 3))› ‹toR [σ 4, σ 5, σ 6, σ 7, σ 8]› ‹fromR [σ 5, σ 6, σ 7, σ 9, σ 10]›
  have l1 : bv (σ 11) = true := by
    have := ‹isTrue [σ 11]›
    simp only [isTrue, List.cons.injEq, and_true] at this
    rw [this]; rfl
  show bv _ = true
  first
  | (exfalso; have q := l1.symm.trans ‹bv (σ 11) = !true›; cases q)
  | (exfalso; omega)
  | (exact absurd o3 ‹_›)
  | (have w := (wdR_num ‹fv (σ 4) = FloatKind.f64.nearest (iv (σ 3))› n3.1 n3.2 ‹wdR [σ 4, σ 16, σ 17]›).2
     first
     | (exfalso; omega)
     | (refine Eq.trans ‹_› (decide_eq_true ?_); omega))
  | (obtain ⟨w1, w2, nx, y1, y2, m1, m2, d1, d2⟩ := next_day n3 ‹iv (σ 3) ≠ 2958465› ‹fv (σ 4) = FloatKind.f64.nearest (iv (σ 3))› o4 ‹wdR [σ 4, σ 16, σ 17]› ‹iv (σ 19) = IntKind.i64.wrap (iv (σ 3) + 1)› ‹fv (σ 20) = FloatKind.f64.nearest (iv (σ 19))› ‹toR [σ 20, σ 21, σ 22, σ 23, σ 24]› ‹wdR [σ 20, σ 25, σ 26]›
     first
     | (refine Eq.trans ‹_› (decide_eq_true ?_); exact mod7 w1 ‹_› ‹_› w2)
     | (exfalso; (repeat (simp (disch := omega) only [IntWalk.i64_in, tmod_nn] at *)); omega)))
theorem daysL_L12_ok : daysL_L12 := by (
  intro σ; intros
  have n3 := n0_of ‹0 ≤ iv (σ 0)› ‹iv (σ 1) = (iv (σ 0) : Int).tmod 3652059› ‹iv (σ 2) = IntKind.i64.wrap (iv (σ 1))› ‹iv (σ 3) = IntKind.i64.wrap (iv (σ 2) - 693593)›
  obtain ⟨o1, o2, o3, o4⟩ := one_day n3 ‹fv (σ 4) = FloatKind.f64.nearest (iv (σ 3))› ‹toR [σ 4, σ 5, σ 6, σ 7, σ 8]› ‹fromR [σ 5, σ 6, σ 7, σ 9, σ 10]›
  have l1 : bv (σ 11) = true := by
    have := ‹isTrue [σ 11]›
    simp only [isTrue, List.cons.injEq, and_true] at this
    rw [this]; rfl
  show bv _ = true
  first
  | (exfalso; have q := l1.symm.trans ‹bv (σ 11) = !true›; cases q)
  | (exfalso; omega)
  | (exact absurd o3 ‹_›)
  | (have w := (wdR_num ‹fv (σ 4) = FloatKind.f64.nearest (iv (σ 3))› n3.1 n3.2 ‹wdR [σ 4, σ 16, σ 17]›).2
     first
     | (exfalso; omega)
     | (refine Eq.trans ‹_› (decide_eq_true ?_); omega))
  | (obtain ⟨w1, w2, nx, y1, y2, m1, m2, d1, d2⟩ := next_day n3 ‹iv (σ 3) ≠ 2958465› ‹fv (σ 4) = FloatKind.f64.nearest (iv (σ 3))› o4 ‹wdR [σ 4, σ 16, σ 17]› ‹iv (σ 19) = IntKind.i64.wrap (iv (σ 3) + 1)› ‹fv (σ 20) = FloatKind.f64.nearest (iv (σ 19))› ‹toR [σ 20, σ 21, σ 22, σ 23, σ 24]› ‹wdR [σ 20, σ 25, σ 26]›
     first
     | (refine Eq.trans ‹_› (decide_eq_true ?_); exact mod7 w1 ‹_› ‹_› w2)
     | (exfalso; (repeat (simp (disch := omega) only [IntWalk.i64_in, tdiv_nn, tmod_nn] at *)); omega)))
theorem daysL_L13_ok : daysL_L13 := by (
  intro σ; intros
  have n3 := n0_of ‹0 ≤ iv (σ 0)› ‹iv (σ 1) = (iv (σ 0) : Int).tmod 3652059› ‹iv (σ 2) = IntKind.i64.wrap (iv (σ 1))› ‹iv (σ 3) = IntKind.i64.wrap (iv (σ 2) - 693593)›
  obtain ⟨o1, o2, o3, o4⟩ := one_day n3 ‹fv (σ 4) = FloatKind.f64.nearest (iv (σ 3))› ‹toR [σ 4, σ 5, σ 6, σ 7, σ 8]› ‹fromR [σ 5, σ 6, σ 7, σ 9, σ 10]›
  have l1 : bv (σ 11) = true := by
    have := ‹isTrue [σ 11]›
    simp only [isTrue, List.cons.injEq, and_true] at this
    rw [this]; rfl
  show bv _ = true
  first
  | (exfalso; have q := l1.symm.trans ‹bv (σ 11) = !true›; cases q)
  | (exfalso; omega)
  | (exact absurd o3 ‹_›)
  | (have w := (wdR_num ‹fv (σ 4) = FloatKind.f64.nearest (iv (σ 3))› n3.1 n3.2 ‹wdR [σ 4, σ 16, σ 17]›).2
     first
     | (exfalso; omega)
     | (refine Eq.trans ‹_› (decide_eq_true ?_); omega))
  | (obtain ⟨w1, w2, nx, y1, y2, m1, m2, d1, d2⟩ := next_day n3 ‹iv (σ 3) ≠ 2958465› ‹fv (σ 4) = FloatKind.f64.nearest (iv (σ 3))› o4 ‹wdR [σ 4, σ 16, σ 17]› ‹iv (σ 19) = IntKind.i64.wrap (iv (σ 3) + 1)› ‹fv (σ 20) = FloatKind.f64.nearest (iv (σ 19))› ‹toR [σ 20, σ 21, σ 22, σ 23, σ 24]› ‹wdR [σ 20, σ 25, σ 26]›
     first
     | (refine Eq.trans ‹_› (decide_eq_true ?_); exact mod7 w1 ‹_› ‹_› w2)
     | (exfalso; (repeat (simp (disch := omega) only [IntWalk.i64_in, tdiv_nn, tmod_nn] at *)); omega)))
theorem daysL_L14_ok : daysL_L14 := by (
  intro σ; intros
  have n3 := n0_of ‹0 ≤ iv (σ 0)› ‹iv (σ 1) = (iv (σ 0) : Int).tmod 3652059› ‹iv (σ 2) = IntKind.i64.wrap (iv (σ 1))› ‹iv (σ 3) = IntKind.i64.wrap (iv (σ 2) - 693593)›
  obtain ⟨o1, o2, o3, o4⟩ := one_day n3 ‹fv (σ 4) = FloatKind.f64.nearest (iv (σ 3))› ‹toR [σ 4, σ 5, σ 6, σ 7, σ 8]› ‹fromR [σ 5, σ 6, σ 7, σ 9, σ 10]›
  have l1 : bv (σ 11) = true := by
    have := ‹isTrue [σ 11]›
    simp only [isTrue, List.cons.injEq, and_true] at this
    rw [this]; rfl
  show bv _ = true
  first
  | (exfalso; have q := l1.symm.trans ‹bv (σ 11) = !true›; cases q)
  | (exfalso; omega)
  | (exact absurd o3 ‹_›)
  | (have w := (wdR_num ‹fv (σ 4) = FloatKind.f64.nearest (iv (σ 3))› n3.1 n3.2 ‹wdR [σ 4, σ 16, σ 17]›).2
     first
     | (exfalso; omega)
     | (refine Eq.trans ‹_› (decide_eq_true ?_); omega))
  | (obtain ⟨w1, w2, nx, y1, y2, m1, m2, d1, d2⟩ := next_day n3 ‹iv (σ 3) ≠ 2958465› ‹fv (σ 4) = FloatKind.f64.nearest (iv (σ 3))› o4 ‹wdR [σ 4, σ 16, σ 17]› ‹iv (σ 19) = IntKind.i64.wrap (iv (σ 3) + 1)› ‹fv (σ 20) = FloatKind.f64.nearest (iv (σ 19))› ‹toR [σ 20, σ 21, σ 22, σ 23, σ 24]› ‹wdR [σ 20, σ 25, σ 26]›
     first
     | (refine Eq.trans ‹_› (decide_eq_true ?_); exact mod7 w1 ‹_› ‹_› w2)
     | (exfalso; (repeat (simp (disch := omega) only [IntWalk.i64_in, tmod_nn] at *)); omega)))
theorem daysL_L15_ok : daysL_L15 := by (
  intro σ; intros
  have n3 := n0_of ‹0 ≤ iv (σ 0)› ‹iv (σ 1) = (iv (σ 0) : Int).tmod 3652059› ‹iv (σ 2) = IntKind.i64.wrap (iv (σ 1))› ‹iv (σ 3) = IntKind.i64.wrap (iv (σ 2) - 693593)›
  obtain ⟨o1, o2, o3, o4⟩ := one_day n3 ‹fv (σ 4) = FloatKind.f64.nearest (iv (σ 3))› ‹toR [σ 4, σ 5, σ 6, σ 7, σ 8]› ‹fromR [σ 5, σ 6, σ 7, σ 9, σ 10]›
  have l1 : bv (σ 11) = true := by
    have := ‹isTrue [σ 11]›
    simp only [isTrue, List.cons.injEq, and_true] at this
    rw [this]; rfl
  show bv _ = true
  first
  | (exfalso; have q := l1.symm.trans ‹bv (σ 11) = !true›; cases q)
  | (exfalso; omega)
  | (exact absurd o3 ‹_›)
  | (have w := (wdR_num ‹fv (σ 4) = FloatKind.f64.nearest (iv (σ 3))› n3.1 n3.2 ‹wdR [σ 4, σ 16, σ 17]›).2
     first
     | (exfalso; omega)
     | (refine Eq.trans ‹_› (decide_eq_true ?_); omega))
  | (obtain ⟨w1, w2, nx, y1, y2, m1, m2, d1, d2⟩ := next_day n3 ‹iv (σ 3) ≠ 2958465› ‹fv (σ 4) = FloatKind.f64.nearest (iv (σ 3))› o4 ‹wdR [σ 4, σ 16, σ 17]› ‹iv (σ 19) = IntKind.i64.wrap (iv (σ 3) + 1)› ‹fv (σ 20) = FloatKind.f64.nearest (iv (σ 19))› ‹toR [σ 20, σ 21, σ 22, σ 23, σ 24]› ‹wdR [σ 20, σ 25, σ 26]›
     first
     | (refine Eq.trans ‹_› (decide_eq_true ?_); exact mod7 w1 ‹_› ‹_› w2)
     | (exfalso; (repeat (simp (disch := omega) only [IntWalk.i64_in, tmod_nn] at *)); omega)))
theorem daysL_L16_ok : daysL_L16 := by (
  intro σ; intros
  have n3 := n0_of ‹0 ≤ iv (σ 0)› ‹iv (σ 1) = (iv (σ 0) : Int).tmod 3652059› ‹iv (σ 2) = IntKind.i64.wrap (iv (σ 1))› ‹iv (σ 3) = IntKind.i64.wrap (iv (σ 2) - 693593)›
  obtain ⟨o1, o2, o3, o4⟩ := one_day n3 ‹fv (σ 4) = FloatKind.f64.nearest (iv (σ 3))› ‹toR [σ 4, σ 5, σ 6, σ 7, σ 8]› ‹fromR [σ 5, σ 6, σ 7, σ 9, σ 10]›
  have l1 : bv (σ 11) = true := by
    have := ‹isTrue [σ 11]›
    simp only [isTrue, List.cons.injEq, and_true] at this
    rw [this]; rfl
  show bv _ = true
  first
  | (exfalso; have q := l1.symm.trans ‹bv (σ 11) = !true›; cases q)
  | (exfalso; omega)
  | (exact absurd o3 ‹_›)
  | (have w := (wdR_num ‹fv (σ 4) = FloatKind.f64.nearest (iv (σ 3))› n3.1 n3.2 ‹wdR [σ 4, σ 16, σ 17]›).2
     first
     | (exfalso; omega)
     | (refine Eq.trans ‹_› (decide_eq_true ?_); omega))
  | (obtain ⟨w1, w2, nx, y1, y2, m1, m2, d1, d2⟩ := next_day n3 ‹iv (σ 3) ≠ 2958465› ‹fv (σ 4) = FloatKind.f64.nearest (iv (σ 3))› o4 ‹wdR [σ 4, σ 16, σ 17]› ‹iv (σ 19) = IntKind.i64.wrap (iv (σ 3) + 1)› ‹fv (σ 20) = FloatKind.f64.nearest (iv (σ 19))› ‹toR [σ 20, σ 21, σ 22, σ 23, σ 24]› ‹wdR [σ 20, σ 25, σ 26]›
     first
     | (refine Eq.trans ‹_› (decide_eq_true ?_); exact mod7 w1 ‹_› ‹_› w2)
     | (exfalso; (repeat (simp (disch := omega) only [IntWalk.i64_in, tmod_nn] at *)); omega)))
theorem daysL_L17_ok : daysL_L17 := by (
  intro σ; intros
  have n3 := n0_of ‹0 ≤ iv (σ 0)› ‹iv (σ 1) = (iv (σ 0) : Int).tmod 3652059› ‹iv (σ 2) = IntKind.i64.wrap (iv (σ 1))› ‹iv (σ 3) = IntKind.i64.wrap (iv (σ 2) - 693593)›
  obtain ⟨o1, o2, o3, o4⟩ := one_day n3 ‹fv (σ 4) = FloatKind.f64.nearest (iv (σ 3))› ‹toR [σ 4, σ 5, σ 6, σ 7, σ 8]› ‹fromR [σ 5, σ 6, σ 7, σ 9, σ 10]›
  have l1 : bv (σ 11) = true := by
    have := ‹isTrue [σ 11]›
    simp only [isTrue, List.cons.injEq, and_true] at this
    rw [this]; rfl
  show bv _ = true
  first
  | (exfalso; have q := l1.symm.trans ‹bv (σ 11) = !true›; cases q)
  | (exfalso; omega)
  | (exact absurd o3 ‹_›)
  | (have w := (wdR_num ‹fv (σ 4) = FloatKind.f64.nearest (iv (σ 3))› n3.1 n3.2 ‹wdR [σ 4, σ 16, σ 17]›).2
     first
     | (exfalso; omega)
     | (refine Eq.trans ‹_› (decide_eq_true ?_); omega))
  | (obtain ⟨w1, w2, nx, y1, y2, m1, m2, d1, d2⟩ := next_day n3 ‹iv (σ 3) ≠ 2958465› ‹fv (σ 4) = FloatKind.f64.nearest (iv (σ 3))› o4 ‹wdR [σ 4, σ 16, σ 17]› ‹iv (σ 19) = IntKind.i64.wrap (iv (σ 3) + 1)› ‹fv (σ 20) = FloatKind.f64.nearest (iv (σ 19))› ‹toR [σ 20, σ 21, σ 22, σ 23, σ 24]› ‹wdR [σ 20, σ 25, σ 26]›
     first
     | (refine Eq.trans ‹_› (decide_eq_true ?_); exact mod7 w1 ‹_› ‹_› w2)
     | (exfalso; (repeat (simp (disch := omega) only [IntWalk.i64_in, tdiv_nn, tmod_nn] at *)); omega)))
theorem daysL_L18_ok : daysL_L18 := by (
  intro σ; intros
  have n3 := n0_of ‹0 ≤ iv (σ 0)› ‹iv (σ 1) = (iv (σ 0) : Int).tmod 3652059› ‹iv (σ 2) = IntKind.i64.wrap (iv (σ 1))› ‹iv (σ 3) = IntKind.i64.wrap (iv (σ 2) - 693593)›
  obtain ⟨o1, o2, o3, o4⟩ := one_day n3 ‹fv (σ 4) = FloatKind.f64.nearest (iv (σ 3))› ‹toR [σ 4, σ 5, σ 6, σ 7, σ 8]› ‹fromR [σ 5, σ 6, σ 7, σ 9, σ 10]›
  have l1 : bv (σ 11) = true := by
    have := ‹isTrue [σ 11]›
    simp only [isTrue, List.cons.injEq, and_true] at this
    rw [this]; rfl
  show bv _ = true
  first
  | (exfalso; have q := l1.symm.trans ‹bv (σ 11) = !true›; cases q)
  | (exfalso; omega)
  | (exact absurd o3 ‹_›)
  | (have w := (wdR_num ‹fv (σ 4) = FloatKind.f64.nearest (iv (σ 3))› n3.1 n3.2 ‹wdR [σ 4, σ 16, σ 17]›).2
     first
     | (exfalso; omega)
     | (refine Eq.trans ‹_› (decide_eq_true ?_); omega))
  | (obtain ⟨w1, w2, nx, y1, y2, m1, m2, d1, d2⟩ := next_day n3 ‹iv (σ 3) ≠ 2958465› ‹fv (σ 4) = FloatKind.f64.nearest (iv (σ 3))› o4 ‹wdR [σ 4, σ 16, σ 17]› ‹iv (σ 19) = IntKind.i64.wrap (iv (σ 3) + 1)› ‹fv (σ 20) = FloatKind.f64.nearest (iv (σ 19))› ‹toR [σ 20, σ 21, σ 22, σ 23, σ 24]› ‹wdR [σ 20, σ 25, σ 26]›
     first
     | (refine Eq.trans ‹_› (decide_eq_true ?_); exact mod7 w1 ‹_› ‹_› w2)
     | (exfalso; (repeat (simp (disch := omega) only [IntWalk.i64_in, tmod_nn] at *)); omega)))
theorem daysL_L19_ok : daysL_L19 := by (
  intro σ; intros
  have n3 := n0_of ‹0 ≤ iv (σ 0)› ‹iv (σ 1) = (iv (σ 0) : Int).tmod 3652059› ‹iv (σ 2) = IntKind.i64.wrap (iv (σ 1))› ‹iv (σ 3) = IntKind.i64.wrap (iv (σ 2) - 693593)›
  obtain ⟨o1, o2, o3, o4⟩ := one_day n3 ‹fv (σ 4) = FloatKind.f64.nearest (iv (σ 3))› ‹toR [σ 4, σ 5, σ 6, σ 7, σ 8]› ‹fromR [σ 5, σ 6, σ 7, σ 9, σ 10]›
  have l1 : bv (σ 11) = true := by
    have := ‹isTrue [σ 11]›
    simp only [isTrue, List.cons.injEq, and_true] at this
    rw [this]; rfl
  show bv _ = true
  first
  | (exfalso; have q := l1.symm.trans ‹bv (σ 11) = !true›; cases q)
  | (exfalso; omega)
  | (exact absurd o3 ‹_›)
  | (have w := (wdR_num ‹fv (σ 4) = FloatKind.f64.nearest (iv (σ 3))› n3.1 n3.2 ‹wdR [σ 4, σ 16, σ 17]›).2
     first
     | (exfalso; omega)
     | (refine Eq.trans ‹_› (decide_eq_true ?_); omega))
  | (obtain ⟨w1, w2, nx, y1, y2, m1, m2, d1, d2⟩ := next_day n3 ‹iv (σ 3) ≠ 2958465› ‹fv (σ 4) = FloatKind.f64.nearest (iv (σ 3))› o4 ‹wdR [σ 4, σ 16, σ 17]› ‹iv (σ 19) = IntKind.i64.wrap (iv (σ 3) + 1)› ‹fv (σ 20) = FloatKind.f64.nearest (iv (σ 19))› ‹toR [σ 20, σ 21, σ 22, σ 23, σ 24]› ‹wdR [σ 20, σ 25, σ 26]›
     first
     | (refine Eq.trans ‹_› (decide_eq_true ?_); exact mod7 w1 ‹_› ‹_› w2)
     | (exfalso; (repeat (simp (disch := omega) only [IntWalk.i64_in, tmod_nn] at *)); omega)))
theorem daysL_L20_ok : daysL_L20 := by (
  intro σ; intros
  have n3 := n0_of ‹0 ≤ iv (σ 0)› ‹iv (σ 1) = (iv (σ 0) : Int).tmod 3652059› ‹iv (σ 2) = IntKind.i64.wrap (iv (σ 1))› ‹iv (σ 3) = IntKind.i64.wrap (iv (σ 2) - 693593)›
  obtain ⟨o1, o2, o3, o4⟩ := one_day n3 ‹fv (σ 4) = FloatKind.f64.nearest (iv (σ 3))› ‹toR [σ 4, σ 5, σ 6, σ 7, σ 8]› ‹fromR [σ 5, σ 6, σ 7, σ 9, σ 10]›
  have l1 : bv (σ 11) = true := by
    have := ‹isTrue [σ 11]›
    simp only [isTrue, List.cons.injEq, and_true] at this
    rw [this]; rfl
  show bv _ = true
  first
  | (exfalso; have q := l1.symm.trans ‹bv (σ 11) = !true›; cases q)
  | (exfalso; omega)
  | (exact absurd o3 ‹_›)
  | (have w := (wdR_num ‹fv (σ 4) = FloatKind.f64.nearest (iv (σ 3))› n3.1 n3.2 ‹wdR [σ 4, σ 16, σ 17]›).2
     first
     | (exfalso; omega)
     | (refine Eq.trans ‹_› (decide_eq_true ?_); omega))
  | (obtain ⟨w1, w2, nx, y1, y2, m1, m2, d1, d2⟩ := next_day n3 ‹iv (σ 3) ≠ 2958465› ‹fv (σ 4) = FloatKind.f64.nearest (iv (σ 3))› o4 ‹wdR [σ 4, σ 16, σ 17]› ‹iv (σ 19) = IntKind.i64.wrap (iv (σ 3) + 1)› ‹fv (σ 20) = FloatKind.f64.nearest (iv (σ 19))› ‹toR [σ 20, σ 21, σ 22, σ 23, σ 24]› ‹wdR [σ 20, σ 25, σ 26]›
     first
     | (refine Eq.trans ‹_› (decide_eq_true ?_); exact mod7 w1 ‹_› ‹_› w2)
     | (exfalso; (repeat (simp (disch := omega) only [IntWalk.i64_in, tmod_nn] at *)); omega)))
theorem daysL_L21_ok : daysL_L21 := by (
  intro σ; intros
  have n3 := n0_of ‹0 ≤ iv (σ 0)› ‹iv (σ 1) = (iv (σ 0) : Int).tmod 3652059› ‹iv (σ 2) = IntKind.i64.wrap (iv (σ 1))› ‹iv (σ 3) = IntKind.i64.wrap (iv (σ 2) - 693593)›
  obtain ⟨o1, o2, o3, o4⟩ := one_day n3 ‹fv (σ 4) = FloatKind.f64.nearest (iv (σ 3))› ‹toR [σ 4, σ 5, σ 6, σ 7, σ 8]› ‹fromR [σ 5, σ 6, σ 7, σ 9, σ 10]›
  have l1 : bv (σ 11) = true := by
    have := ‹isTrue [σ 11]›
    simp only [isTrue, List.cons.injEq, and_true] at this
    rw [this]; rfl
  show bv _ = true
  first
  | (exfalso; have q := l1.symm.trans ‹bv (σ 11) = !true›; cases q)
  | (exfalso; omega)
  | (exact absurd o3 ‹_›)
  | (have w := (wdR_num ‹fv (σ 4) = FloatKind.f64.nearest (iv (σ 3))› n3.1 n3.2 ‹wdR [σ 4, σ 16, σ 17]›).2
     first
     | (exfalso; omega)
     | (refine Eq.trans ‹_› (decide_eq_true ?_); omega))
  | (obtain ⟨w1, w2, nx, y1, y2, m1, m2, d1, d2⟩ := next_day n3 ‹iv (σ 3) ≠ 2958465› ‹fv (σ 4) = FloatKind.f64.nearest (iv (σ 3))› o4 ‹wdR [σ 4, σ 16, σ 17]› ‹iv (σ 19) = IntKind.i64.wrap (iv (σ 3) + 1)› ‹fv (σ 20) = FloatKind.f64.nearest (iv (σ 19))› ‹toR [σ 20, σ 21, σ 22, σ 23, σ 24]› ‹wdR [σ 20, σ 25, σ 26]›
     first
     | (refine Eq.trans ‹_› (decide_eq_true ?_); exact mod7 w1 ‹_› ‹_› w2)
     | (exfalso; (repeat (simp (disch := omega) only [IntWalk.i64_in, tmod_nn] at *)); omega)))
theorem daysL_L22_ok : daysL_L22 := by (
  intro σ; intros
  have n3 := n0_of ‹0 ≤ iv (σ 0)› ‹iv (σ 1) = (iv (σ 0) : Int).tmod 3652059› ‹iv (σ 2) = IntKind.i64.wrap (iv (σ 1))› ‹iv (σ 3) = IntKind.i64.wrap (iv (σ 2) - 693593)›
  obtain ⟨o1, o2, o3, o4⟩ := one_day n3 ‹fv (σ 4) = FloatKind.f64.nearest (iv (σ 3))› ‹toR [σ 4, σ 5, σ 6, σ 7, σ 8]› ‹fromR [σ 5, σ 6, σ 7, σ 9, σ 10]›
  have l1 : bv (σ 11) = true := by
    have := ‹isTrue [σ 11]›
    simp only [isTrue, List.cons.injEq, and_true] at this
    rw [this]; rfl
  show bv _ = true
  first
  | (exfalso; have q := l1.symm.trans ‹bv (σ 11) = !true›; cases q)
  | (exfalso; omega)
  | (exact absurd o3 ‹_›)
  | (have w := (wdR_num ‹fv (σ 4) = FloatKind.f64.nearest (iv (σ 3))› n3.1 n3.2 ‹wdR [σ 4, σ 16, σ 17]›).2
     first
     | (exfalso; omega)
     | (refine Eq.trans ‹_› (decide_eq_true ?_); omega))
  | (obtain ⟨w1, w2, nx, y1, y2, m1, m2, d1, d2⟩ := next_day n3 ‹iv (σ 3) ≠ 2958465› ‹fv (σ 4) = FloatKind.f64.nearest (iv (σ 3))› o4 ‹wdR [σ 4, σ 16, σ 17]› ‹iv (σ 19) = IntKind.i64.wrap (iv (σ 3) + 1)› ‹fv (σ 20) = FloatKind.f64.nearest (iv (σ 19))› ‹toR [σ 20, σ 21, σ 22, σ 23, σ 24]› ‹wdR [σ 20, σ 25, σ 26]›
     first
     | (refine Eq.trans ‹_› (decide_eq_true ?_); exact mod7 w1 ‹_› ‹_› w2)
     | (exfalso; (repeat (simp (disch := omega) only [IntWalk.i64_in, tdiv_nn, tmod_nn] at *)); omega)))
theorem daysL_L23_ok : daysL_L23 := by (
  intro σ; intros
  have n3 := n0_of ‹0 ≤ iv (σ 0)› ‹iv (σ 1) = (iv (σ 0) : Int).tmod 3652059› ‹iv (σ 2) = IntKind.i64.wrap (iv (σ 1))› ‹iv (σ 3) = IntKind.i64.wrap (iv (σ 2) - 693593)›
  obtain ⟨o1, o2, o3, o4⟩ := one_day n3 ‹fv (σ 4) = FloatKind.f64.nearest (iv (σ 3))› ‹toR [σ 4, σ 5, σ 6, σ 7, σ 8]› ‹fromR [σ 5, σ 6, σ 7, σ 9, σ 10]›
  have l1 : bv (σ 11) = true := by
    have := ‹isTrue [σ 11]›
    simp only [isTrue, List.cons.injEq, and_true] at this
    rw [this]; rfl
  show bv _ = true
  first
  | (exfalso; have q := l1.symm.trans ‹bv (σ 11) = !true›; cases q)
  | (exfalso; omega)
  | (exact absurd o3 ‹_›)
  | (have w := (wdR_num ‹fv (σ 4) = FloatKind.f64.nearest (iv (σ 3))› n3.1 n3.2 ‹wdR [σ 4, σ 16, σ 17]›).2
     first
     | (exfalso; omega)
     | (refine Eq.trans ‹_› (decide_eq_true ?_); omega))
  | (obtain ⟨w1, w2, nx, y1, y2, m1, m2, d1, d2⟩ := next_day n3 ‹iv (σ 3) ≠ 2958465› ‹fv (σ 4) = FloatKind.f64.nearest (iv (σ 3))› o4 ‹wdR [σ 4, σ 16, σ 17]› ‹iv (σ 19) = IntKind.i64.wrap (iv (σ 3) + 1)› ‹fv (σ 20) = FloatKind.f64.nearest (iv (σ 19))› ‹toR [σ 20, σ 21, σ 22, σ 23, σ 24]› ‹wdR [σ 20, σ 25, σ 26]›
     first
     | (refine Eq.trans ‹_› (decide_eq_true ?_); exact mod7 w1 ‹_› ‹_› w2)
     | (exfalso; (repeat (simp (disch := omega) only [IntWalk.i64_in, tmod_nn] at *)); omega)))
theorem daysL_L24_ok : daysL_L24 := by (
  intro σ; intros
  have n3 := n0_of ‹0 ≤ iv (σ 0)› ‹iv (σ 1) = (iv (σ 0) : Int).tmod 3652059› ‹iv (σ 2) = IntKind.i64.wrap (iv (σ 1))› ‹iv (σ 3) = IntKind.i64.wrap (iv (σ 2) - 693593)›
  obtain ⟨o1, o2, o3, o4⟩ := one_day n3 ‹fv (σ 4) = FloatKind.f64.nearest (iv (σ 3))› ‹toR [σ 4, σ 5, σ 6, σ 7, σ 8]› ‹fromR [σ 5, σ 6, σ 7, σ 9, σ 10]›
  have l1 : bv (σ 11) = true := by
    have := ‹isTrue [σ 11]›
    simp only [isTrue, List.cons.injEq, and_true] at this
    rw [this]; rfl
  show bv _ = true
  first
  | (exfalso; have q := l1.symm.trans ‹bv (σ 11) = !true›; cases q)
  | (exfalso; omega)
  | (exact absurd o3 ‹_›)
  | (have w := (wdR_num ‹fv (σ 4) = FloatKind.f64.nearest (iv (σ 3))› n3.1 n3.2 ‹wdR [σ 4, σ 16, σ 17]›).2
     first
     | (exfalso; omega)
     | (refine Eq.trans ‹_› (decide_eq_true ?_); omega))
  | (obtain ⟨w1, w2, nx, y1, y2, m1, m2, d1, d2⟩ := next_day n3 ‹iv (σ 3) ≠ 2958465› ‹fv (σ 4) = FloatKind.f64.nearest (iv (σ 3))› o4 ‹wdR [σ 4, σ 16, σ 17]› ‹iv (σ 19) = IntKind.i64.wrap (iv (σ 3) + 1)› ‹fv (σ 20) = FloatKind.f64.nearest (iv (σ 19))› ‹toR [σ 20, σ 21, σ 22, σ 23, σ 24]› ‹wdR [σ 20, σ 25, σ 26]›
     first
     | (refine Eq.trans ‹_› (decide_eq_true ?_); exact mod7 w1 ‹_› ‹_› w2)
     | (exfalso; (repeat (simp (disch := omega) only [IntWalk.i64_in, tmod_nn] at *)); omega)))
theorem daysL_L25_ok : daysL_L25 := by (
  intro σ; intros
  have n3 := n0_of ‹0 ≤ iv (σ 0)› ‹iv (σ 1) = (iv (σ 0) : Int).tmod 3652059› ‹iv (σ 2) = IntKind.i64.wrap (iv (σ 1))› ‹iv (σ 3) = IntKind.i64.wrap (iv (σ 2) - 693593)›
  obtain ⟨o1, o2, o3, o4⟩ := one_day n3 ‹fv (σ 4) = FloatKind.f64.nearest (iv (σ 3))› ‹toR [σ 4, σ 5, σ 6, σ 7, σ 8]› ‹fromR [σ 5, σ 6, σ 7, σ 9, σ 10]›
  have l1 : bv (σ 11) = true := by
    have := ‹isTrue [σ 11]›
    simp only [isTrue, List.cons.injEq, and_true] at this
    rw [this]; rfl
  show bv _ = true
  first
  | (exfalso; have q := l1.symm.trans ‹bv (σ 11) = !true›; cases q)
  | (exfalso; omega)
  | (exact absurd o3 ‹_›)
  | (have w := (wdR_num ‹fv (σ 4) = FloatKind.f64.nearest (iv (σ 3))› n3.1 n3.2 ‹wdR [σ 4, σ 16, σ 17]›).2
     first
     | (exfalso; omega)
     | (refine Eq.trans ‹_› (decide_eq_true ?_); omega))
  | (obtain ⟨w1, w2, nx, y1, y2, m1, m2, d1, d2⟩ := next_day n3 ‹iv (σ 3) ≠ 2958465› ‹fv (σ 4) = FloatKind.f64.nearest (iv (σ 3))› o4 ‹wdR [σ 4, σ 16, σ 17]› ‹iv (σ 19) = IntKind.i64.wrap (iv (σ 3) + 1)› ‹fv (σ 20) = FloatKind.f64.nearest (iv (σ 19))› ‹toR [σ 20, σ 21, σ 22, σ 23, σ 24]› ‹wdR [σ 20, σ 25, σ 26]›
     first
     | (refine Eq.trans ‹_› (decide_eq_true ?_); exact mod7 w1 ‹_› ‹_› w2)
     | (exfalso; (repeat (simp (disch := omega) only [IntWalk.i64_in, tmod_nn] at *)); omega)))
theorem daysL_L26_ok : daysL_L26 := by (
  intro σ; intros
  have n3 := n0_of ‹0 ≤ iv (σ 0)› ‹iv (σ 1) = (iv (σ 0) : Int).tmod 3652059› ‹iv (σ 2) = IntKind.i64.wrap (iv (σ 1))› ‹iv (σ 3) = IntKind.i64.wrap (iv (σ 2) - 693593)›
  obtain ⟨o1, o2, o3, o4⟩ := one_day n3 ‹fv (σ 4) = FloatKind.f64.nearest (iv (σ 3))› ‹toR [σ 4, σ 5, σ 6, σ 7, σ 8]› ‹fromR [σ 5, σ 6, σ 7, σ 9, σ 10]›
  have l1 : bv (σ 11) = true := by
    have := ‹isTrue [σ 11]›
    simp only [isTrue, List.cons.injEq, and_true] at this
    rw [this]; rfl
  show bv _ = true
  first
  | (exfalso; have q := l1.symm.trans ‹bv (σ 11) = !true›; cases q)
  | (exfalso; omega)
  | (exact absurd o3 ‹_›)
  | (have w := (wdR_num ‹fv (σ 4) = FloatKind.f64.nearest (iv (σ 3))› n3.1 n3.2 ‹wdR [σ 4, σ 16, σ 17]›).2
     first
     | (exfalso; omega)
     | (refine Eq.trans ‹_› (decide_eq_true ?_); omega))
  | (obtain ⟨w1, w2, nx, y1, y2, m1, m2, d1, d2⟩ := next_day n3 ‹iv (σ 3) ≠ 2958465› ‹fv (σ 4) = FloatKind.f64.nearest (iv (σ 3))› o4 ‹wdR [σ 4, σ 16, σ 17]› ‹iv (σ 19) = IntKind.i64.wrap (iv (σ 3) + 1)› ‹fv (σ 20) = FloatKind.f64.nearest (iv (σ 19))› ‹toR [σ 20, σ 21, σ 22, σ 23, σ 24]› ‹wdR [σ 20, σ 25, σ 26]›
     first
     | (refine Eq.trans ‹_› (decide_eq_true ?_); exact mod7 w1 ‹_› ‹_› w2)
     | (exfalso; (repeat (simp (disch := omega) only [IntWalk.i64_in, tmod_nn] at *)); omega)))
theorem daysL_L27_ok : daysL_L27 := by (
  intro σ; intros
  have n3 := n0_of ‹0 ≤ iv (σ 0)› ‹iv (σ 1) = (iv (σ 0) : Int).tmod 3652059› ‹iv (σ 2) = IntKind.i64.wrap (iv (σ 1))› ‹iv (σ 3) = IntKind.i64.wrap (iv (σ 2) - 693593)›
  obtain ⟨o1, o2, o3, o4⟩ := one_day n3 ‹fv (σ 4) = FloatKind.f64.nearest (iv (σ 3))› ‹toR [σ 4, σ 5, σ 6, σ 7, σ 8]› ‹fromR [σ 5, σ 6, σ 7, σ 9, σ 10]›
  have l1 : bv (σ 11) = true := by
    have := ‹isTrue [σ 11]›
    simp only [isTrue, List.cons.injEq, and_true] at this
    rw [this]; rfl
  show bv _ = true
  first
  | (exfalso; have q := l1.symm.trans ‹bv (σ 11) = !true›; cases q)
  | (exfalso; omega)
  | (exact absurd o3 ‹_›)
  | (have w := (wdR_num ‹fv (σ 4) = FloatKind.f64.nearest (iv (σ 3))› n3.1 n3.2 ‹wdR [σ 4, σ 16, σ 17]›).2
     first
     | (exfalso; omega)
     | (refine Eq.trans ‹_› (decide_eq_true ?_); omega))
  | (obtain ⟨w1, w2, nx, y1, y2, m1, m2, d1, d2⟩ := next_day n3 ‹iv (σ 3) ≠ 2958465› ‹fv (σ 4) = FloatKind.f64.nearest (iv (σ 3))› o4 ‹wdR [σ 4, σ 16, σ 17]› ‹iv (σ 19) = IntKind.i64.wrap (iv (σ 3) + 1)› ‹fv (σ 20) = FloatKind.f64.nearest (iv (σ 19))› ‹toR [σ 20, σ 21, σ 22, σ 23, σ 24]› ‹wdR [σ 20, σ 25, σ 26]›
     first
     | (refine Eq.trans ‹_› (decide_eq_true ?_); exact mod7 w1 ‹_› ‹_› w2)
     | (exfalso; (repeat (simp (disch := omega) only [IntWalk.i64_in, tdiv_nn, tmod_nn] at *)); omega)))
theorem daysL_L28_ok : daysL_L28 := by (
  intro σ; intros
  have n3 := n0_of ‹0 ≤ iv (σ 0)› ‹iv (σ 1) = (iv (σ 0) : Int).tmod 3652059› ‹iv (σ 2) = IntKind.i64.wrap (iv (σ 1))› ‹iv (σ 3) = IntKind.i64.wrap (iv (σ 2) - 693593)›
  obtain ⟨o1, o2, o3, o4⟩ := one_day n3 ‹fv (σ 4) = FloatKind.f64.nearest (iv (σ 3))› ‹toR [σ 4, σ 5, σ 6, σ 7, σ 8]› ‹fromR [σ 5, σ 6, σ 7, σ 9, σ 10]›
  have l1 : bv (σ 11) = true := by
    have := ‹isTrue [σ 11]›
    simp only [isTrue, List.cons.injEq, and_true] at this
    rw [this]; rfl
  show bv _ = true
  first
  | (exfalso; have q := l1.symm.trans ‹bv (σ 11) = !true›; cases q)
  | (exfalso; omega)
  | (exact absurd o3 ‹_›)
  | (have w := (wdR_num ‹fv (σ 4) = FloatKind.f64.nearest (iv (σ 3))› n3.1 n3.2 ‹wdR [σ 4, σ 16, σ 17]›).2
     first
     | (exfalso; omega)
     | (refine Eq.trans ‹_› (decide_eq_true ?_); omega))
  | (obtain ⟨w1, w2, nx, y1, y2, m1, m2, d1, d2⟩ := next_day n3 ‹iv (σ 3) ≠ 2958465› ‹fv (σ 4) = FloatKind.f64.nearest (iv (σ 3))› o4 ‹wdR [σ 4, σ 16, σ 17]› ‹iv (σ 19) = IntKind.i64.wrap (iv (σ 3) + 1)› ‹fv (σ 20) = FloatKind.f64.nearest (iv (σ 19))› ‹toR [σ 20, σ 21, σ 22, σ 23, σ 24]› ‹wdR [σ 20, σ 25, σ 26]›
     first
     | (refine Eq.trans ‹_› (decide_eq_true ?_); exact mod7 w1 ‹_› ‹_› w2)
     | (exfalso; (repeat (simp (disch := omega) only [IntWalk.i64_in, tmod_nn] at *)); omega)))
theorem daysL_L29_ok : daysL_L29 := by (
  intro σ; intros
  have n3 := n0_of ‹0 ≤ iv (σ 0)› ‹iv (σ 1) = (iv (σ 0) : Int).tmod 3652059› ‹iv (σ 2) = IntKind.i64.wrap (iv (σ 1))› ‹iv (σ 3) = IntKind.i64.wrap (iv (σ 2) - 693593)›
  obtain ⟨o1, o2, o3, o4⟩ := one_day n3 ‹fv (σ 4) = FloatKind.f64.nearest (iv (σ 3))› ‹toR [σ 4, σ 5, σ 6, σ 7, σ 8]› ‹fromR [σ 5, σ 6, σ 7, σ 9, σ 10]›
  have l1 : bv (σ 11) = true := by
    have := ‹isTrue [σ 11]›
    simp only [isTrue, List.cons.injEq, and_true] at this
    rw [this]; rfl
  show bv _ = true
  first
  | (exfalso; have q := l1.symm.trans ‹bv (σ 11) = !true›; cases q)
  | (exfalso; omega)
  | (exact absurd o3 ‹_›)
  | (have w := (wdR_num ‹fv (σ 4) = FloatKind.f64.nearest (iv (σ 3))› n3.1 n3.2 ‹wdR [σ 4, σ 16, σ 17]›).2
     first
     | (exfalso; omega)
     | (refine Eq.trans ‹_› (decide_eq_true ?_); omega))
  | (obtain ⟨w1, w2, nx, y1, y2, m1, m2, d1, d2⟩ := next_day n3 ‹iv (σ 3) ≠ 2958465› ‹fv (σ 4) = FloatKind.f64.nearest (iv (σ 3))› o4 ‹wdR [σ 4, σ 16, σ 17]› ‹iv (σ 19) = IntKind.i64.wrap (iv (σ 3) + 1)› ‹fv (σ 20) = FloatKind.f64.nearest (iv (σ 19))› ‹toR [σ 20, σ 21, σ 22, σ 23, σ 24]› ‹wdR [σ 20, σ 25, σ 26]›
     first
     | (refine Eq.trans ‹_› (decide_eq_true ?_); exact mod7 w1 ‹_› ‹_› w2)
     | (exfalso; (repeat (simp (disch := omega) only [IntWalk.i64_in, tmod_nn] at *)); omega)))
theorem daysL_L30_ok : daysL_L30 := by (
  intro σ; intros
  have n3 := n0_of ‹0 ≤ iv (σ 0)› ‹iv (σ 1) = (iv (σ 0) : Int).tmod 3652059› ‹iv (σ 2) = IntKind.i64.wrap (iv (σ 1))› ‹iv (σ 3) = IntKind.i64.wrap (iv (σ 2) - 693593)›
  obtain ⟨o1, o2, o3, o4⟩ := one_day n3 ‹fv (σ 4) = FloatKind.f64.nearest (iv (σ 3))› ‹toR [σ 4, σ 5, σ 6, σ 7, σ 8]› ‹fromR [σ 5, σ 6, σ 7, σ 9, σ 10]›
  have l1 : bv (σ 11) = true := by
    have := ‹isTrue [σ 11]›
    simp only [isTrue, List.cons.injEq, and_true] at this
    rw [this]; rfl
  show bv _ = true
  first
  | (exfalso; have q := l1.symm.trans ‹bv (σ 11) = !true›; cases q)
  | (exfalso; omega)
  | (exact absurd o3 ‹_›)
  | (have w := (wdR_num ‹fv (σ 4) = FloatKind.f64.nearest (iv (σ 3))› n3.1 n3.2 ‹wdR [σ 4, σ 16, σ 17]›).2
     first
     | (exfalso; omega)
     | (refine Eq.trans ‹_› (decide_eq_true ?_); omega))
  | (obtain ⟨w1, w2, nx, y1, y2, m1, m2, d1, d2⟩ := next_day n3 ‹iv (σ 3) ≠ 2958465› ‹fv (σ 4) = FloatKind.f64.nearest (iv (σ 3))› o4 ‹wdR [σ 4, σ 16, σ 17]› ‹iv (σ 19) = IntKind.i64.wrap (iv (σ 3) + 1)› ‹fv (σ 20) = FloatKind.f64.nearest (iv (σ 19))› ‹toR [σ 20, σ 21, σ 22, σ 23, σ 24]› ‹wdR [σ 20, σ 25, σ 26]›
     first
     | (refine Eq.trans ‹_› (decide_eq_true ?_); exact mod7 w1 ‹_› ‹_› w2)
     | (exfalso; (repeat (simp (disch := omega) only [IntWalk.i64_in, tmod_nn] at *)); omega)))
theorem daysL_L31_ok : daysL_L31 := by (
  intro σ; intros
  have n3 := n0_of ‹0 ≤ iv (σ 0)› ‹iv (σ 1) = (iv (σ 0) : Int).tmod 3652059› ‹iv (σ 2) = IntKind.i64.wrap (iv (σ 1))› ‹iv (σ 3) = IntKind.i64.wrap (iv (σ 2) - 693593)›
  obtain ⟨o1, o2, o3, o4⟩ := one_day n3 ‹fv (σ 4) = FloatKind.f64.nearest (iv (σ 3))› ‹toR [σ 4, σ 5, σ 6, σ 7, σ 8]› ‹fromR [σ 5, σ 6, σ 7, σ 9, σ 10]›
  have l1 : bv (σ 11) = true := by
    have := ‹isTrue [σ 11]›
    simp only [isTrue, List.cons.injEq, and_true] at this
    rw [this]; rfl
  show bv _ = true
  first
  | (exfalso; have q := l1.symm.trans ‹bv (σ 11) = !true›; cases q)
  | (exfalso; omega)
  | (exact absurd o3 ‹_›)
  | (have w := (wdR_num ‹fv (σ 4) = FloatKind.f64.nearest (iv (σ 3))› n3.1 n3.2 ‹wdR [σ 4, σ 16, σ 17]›).2
     first
     | (exfalso; omega)
     | (refine Eq.trans ‹_› (decide_eq_true ?_); omega))
  | (obtain ⟨w1, w2, nx, y1, y2, m1, m2, d1, d2⟩ := next_day n3 ‹iv (σ 3) ≠ 2958465› ‹fv (σ 4) = FloatKind.f64.nearest (iv (σ 3))› o4 ‹wdR [σ 4, σ 16, σ 17]› ‹iv (σ 19) = IntKind.i64.wrap (iv (σ 3) + 1)› ‹fv (σ 20) = FloatKind.f64.nearest (iv (σ 19))› ‹toR [σ 20, σ 21, σ 22, σ 23, σ 24]› ‹wdR [σ 20, σ 25, σ 26]›
     first
     | (refine Eq.trans ‹_› (decide_eq_true ?_); exact mod7 w1 ‹_› ‹_› w2)
     | (exfalso; (repeat (simp (disch := omega) only [IntWalk.i64_in, tmod_nn] at *)); omega)))
theorem daysL_ok : daysLC.ok Tryz.prog (Holds nl) :=
  by_tie daysL_tie (by kernel_rfl) keeps (all_cons (to_ok keeps) (all_cons (from_ok keeps) (all_cons live_ok (all_cons (wd_ok keeps) all_nil)))) ⟨daysL_L0_ok, daysL_L1_ok, daysL_L2_ok, daysL_L3_ok, daysL_L4_ok, daysL_L5_ok, daysL_L6_ok, daysL_L7_ok, daysL_L8_ok, daysL_L9_ok, daysL_L10_ok, daysL_L11_ok, daysL_L12_ok, daysL_L13_ok, daysL_L14_ok, daysL_L15_ok, daysL_L16_ok, daysL_L17_ok, daysL_L18_ok, daysL_L19_ok, daysL_L20_ok, daysL_L21_ok, daysL_L22_ok, daysL_L23_ok, daysL_L24_ok, daysL_L25_ok, daysL_L26_ok, daysL_L27_ok, daysL_L28_ok, daysL_L29_ok, daysL_L30_ok, daysL_L31_ok, trivial⟩
end Go.Proofs.Num
