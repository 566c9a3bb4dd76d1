/- The calendar of the number package: what its functions do. -/
import Derived.Test.YtdihaemeipdfgaaGreatDoorRows
import Derived.Test.YtdihaemeipdfgaaGreatDoorEvStart
import Derived.Test.YtdihaemeipdfgaaGreatDoorEvCon2
import Derived.Test.YtdihaemeipdfgaaGreatDoorDateMath
import Derived.Handy
import Derived.Test.YtdihaemeipdfgaaGreatDoorFClock
namespace Go.Proofs.Num
open Go.Ev Go.Dates Go.RowKit

abbrev i64S : Sh := .sc (.int .i64)
def g (l : List Value) (n : Nat) : Int := iv (l.getD n (.tuple #[]))
def X : List (Nat × ExtOp) := [(39, .fbits), (10, .ffrom), (51, .floor), (106, .trunc)]

def monthR : List Value → Prop | [y, m, r] => 0 ≤ iv y → iv r = monI (iv y) (iv m) | _ => False
def daysRPre : List Value → Prop | [y, m, d] => 1 ≤ iv y ∧ iv y ≤ 10000 ∧ 1 ≤ iv m ∧ iv m ≤ 12 ∧ -100000 ≤ iv d ∧ iv d ≤ 100000 | _ => False
def daysR : List Value → Prop | [y, m, d, r] => iv r = dayI (iv y) (iv m) (iv d) | _ => False
def daysI (l : List Value) : Prop := 1 ≤ g l 12 ∧ g l 12 ≤ g l 1 ∧ g l 11 = yr (g l 0) + cum (g l 0) (g l 12)
def daysIM (l : List Value) : Nat := (g l 1 - g l 12).toNat
def daysI_ : LSpec := ⟨"daysI", daysI, daysIM⟩
def beginR : List Value → Prop | [r] => iv r = 693593 | _ => False
def dateRPre : List Value → Prop | [n] => -1000000000 ≤ iv n ∧ iv n ≤ 1000000000 | _ => False
def dateR : List Value → Prop
  | [n, y, m, d, ok] => (bv ok = true ∧ IsDate (iv n + 693593) (iv y) (iv m) (iv d)) ∨ (bv ok = false ∧ (iv n + 693593 < 0 ∨ 3652058 < iv n + 693593))
  | _ => False
def yearI (l : List Value) : Prop := 1 ≤ g l 8 ∧ g l 8 ≤ 9999 ∧ yr (g l 8) ≤ g l 2
def yearIM (l : List Value) : Nat := (10000 - g l 8).toNat
def yearI_ : LSpec := ⟨"yearI", yearI, yearIM⟩
def monthI (l : List Value) : Prop := 1 ≤ g l 19 ∧ g l 19 ≤ 12 ∧ yr (g l 8) + cum (g l 8) (g l 19) ≤ g l 2
def monthIM (l : List Value) : Nat := (12 - g l 19).toNat
def monthI_ : LSpec := ⟨"monthI", monthI, monthIM⟩

def monthC : Con := { f := 34, ins := [i64S, i64S], out := i64S, id := "monthR", rel := monthR }
def daysC : Con := { f := 35, ins := [i64S, i64S, i64S], out := i64S, id := "daysR", pre := daysRPre, asks := true, rel := daysR }
def beginC : Con := { f := 36, ins := [], out := i64S, id := "beginR", rel := beginR }
def dateC : Con := { f := 32, ins := [i64S], out := .tup [i64S, i64S, i64S, .sc .bool], id := "dateR", pre := dateRPre, asks := true, rel := dateR }

set_option maxRecDepth 1000000
theorem tdiv_nn {a b : Int} (h : 0 ≤ a) : a.tdiv b = a / b := Int.tdiv_eq_ediv_of_nonneg h
theorem tmod_nn {a b : Int} (h : 0 ≤ a) : a.tmod b = a % b := Int.tmod_eq_emod_of_nonneg h
theorem g0 (a : Value) (l : List Value) : g (a :: l) 0 = iv a := rfl
theorem gs (a : Value) (l : List Value) (n : Nat) : g (a :: l) (n + 1) = g l n := rfl
theorem iv_int (k : IntKind) (n : Int) : iv (.int k n) = n := rfl
theorem bv_bool (b : Bool) : bv (.bool b) = b := rfl
theorem conj_and {a b : Prop} (h1 : a) (h2 : b) : a ∧ b := ⟨h1, h2⟩
theorem all_nil {p : Con → Prop} : ∀ c ∈ ([] : List Con), p c := fun _ h => by cases h
theorem all_cons {p : Con → Prop} {a : Con} {l : List Con} (h : p a) (t : ∀ c ∈ l, p c) : ∀ c ∈ a :: l, p c := fun c hc => by
  rcases List.mem_cons.1 hc with rfl | hc
  · exact h
  · exact t c hc
theorem mixed : Tryz.prog.follows .mixedOrders = true := by kernel_rfl
theorem extAt_get {f : Nat} {x : ExtOp} (h : (Tryz.prog.funcs[f]?).isSome = true) (hn : ((Tryz.prog.funcs[f]?.get h).name == "runtime.NumGoroutine") = false) (hb : (Tryz.prog.funcs[f]?.get h).body.isNone = true)
    (hn : Extern.findNext (Tryz.prog.funcs[f]?.get h) = none) (he : Extern.find (Tryz.prog.funcs[f]?.get h) = some x.sem) : ExtAt Tryz.prog f x :=
  extAt_of (Option.some_get h).symm ‹_› hb hn he
theorem exts_ok : ∀ p ∈ X, ExtAt Tryz.prog p.1 p.2 := by
  intro p hp
  simp only [X, List.mem_cons, List.not_mem_nil, or_false] at hp
  rcases hp with rfl | rfl | rfl | rfl <;> exact extAt_get (by kernel_rfl) (by kernel_rfl) (by kernel_rfl) (by kernel_rfl) (by kernel_rfl)
def Keeps (cond : World → Prop) : Prop := ∀ w w' : World, cond w → Below w.heap.size w w' → cond w'
theorem by_tie {c : Con} {cons : List Con} {K : List (Nat × Nat × LSpec)} {n : Nat} {Q : Prop} (tie : c.goals (cfgC Tryz.prog (entersOf Tryz.prog) X cons) K n = Q) (he : entersOf Tryz.prog c.f = true) {cond : World → Prop} (hs : Keeps cond) (hc : ∀ c ∈ cons, c.ok Tryz.prog cond) (h : Q) : c.ok Tryz.prog cond := by
  have h' : c.goals (cfgC Tryz.prog (entersOf Tryz.prog) X cons) K n := by rw [tie]; exact h
  exact con_ok (C := cfgC Tryz.prog (entersOf Tryz.prog) X cons) (K := K) (n := n) mixed he (fun w hw => cfgC_ok (fun _ h => h) exts_ok hs hc w hw) h'

def month_L0 : Prop := ∀ σ : Nat → Value,
    (σ 0 = .int .i64 (iv (σ 0))) →
    (σ 1 = .int .i64 (iv (σ 1))) →
    (iv (σ 1) = 4) →
    monthR [σ 0, σ 1, (Value.int .i64 30)]

def month_L1 : Prop := ∀ σ : Nat → Value,
    (σ 0 = .int .i64 (iv (σ 0))) →
    (σ 1 = .int .i64 (iv (σ 1))) →
    (iv (σ 1) = 6) →
    (iv (σ 1) ≠ 4) →
    monthR [σ 0, σ 1, (Value.int .i64 30)]

def month_L2 : Prop := ∀ σ : Nat → Value,
    (σ 0 = .int .i64 (iv (σ 0))) →
    (σ 1 = .int .i64 (iv (σ 1))) →
    (iv (σ 1) = 9) →
    (iv (σ 1) ≠ 6) →
    (iv (σ 1) ≠ 4) →
    monthR [σ 0, σ 1, (Value.int .i64 30)]

def month_L3 : Prop := ∀ σ : Nat → Value,
    (σ 0 = .int .i64 (iv (σ 0))) →
    (σ 1 = .int .i64 (iv (σ 1))) →
    (iv (σ 1) = 11) →
    (iv (σ 1) ≠ 9) →
    (iv (σ 1) ≠ 6) →
    (iv (σ 1) ≠ 4) →
    monthR [σ 0, σ 1, (Value.int .i64 30)]

def month_L4 : Prop := ∀ σ : Nat → Value,
    (σ 0 = .int .i64 (iv (σ 0))) →
    (σ 1 = .int .i64 (iv (σ 1))) →
    (σ 7 = .int .i64 (iv (σ 7))) →
    (σ 9 = .int .i64 (iv (σ 9))) →
    (iv (σ 7) = (iv (σ 0) : Int).tmod (4)) →
    (iv (σ 9) = (iv (σ 0) : Int).tmod (100)) →
    (iv (σ 9) ≠ 0) →
    (iv (σ 7) = 0) →
    (iv (σ 1) = 2) →
    (iv (σ 1) ≠ 11) →
    (iv (σ 1) ≠ 9) →
    (iv (σ 1) ≠ 6) →
    (iv (σ 1) ≠ 4) →
    monthR [σ 0, σ 1, (Value.int .i64 29)]

def month_L5 : Prop := ∀ σ : Nat → Value,
    (σ 0 = .int .i64 (iv (σ 0))) →
    (σ 1 = .int .i64 (iv (σ 1))) →
    (σ 7 = .int .i64 (iv (σ 7))) →
    (σ 9 = .int .i64 (iv (σ 9))) →
    (σ 11 = .int .i64 (iv (σ 11))) →
    (iv (σ 7) = (iv (σ 0) : Int).tmod (4)) →
    (iv (σ 9) = (iv (σ 0) : Int).tmod (100)) →
    (iv (σ 11) = (iv (σ 0) : Int).tmod (400)) →
    (iv (σ 11) = 0) →
    (iv (σ 9) = 0) →
    (iv (σ 7) = 0) →
    (iv (σ 1) = 2) →
    (iv (σ 1) ≠ 11) →
    (iv (σ 1) ≠ 9) →
    (iv (σ 1) ≠ 6) →
    (iv (σ 1) ≠ 4) →
    monthR [σ 0, σ 1, (Value.int .i64 29)]

def month_L6 : Prop := ∀ σ : Nat → Value,
    (σ 0 = .int .i64 (iv (σ 0))) →
    (σ 1 = .int .i64 (iv (σ 1))) →
    (σ 7 = .int .i64 (iv (σ 7))) →
    (σ 9 = .int .i64 (iv (σ 9))) →
    (σ 11 = .int .i64 (iv (σ 11))) →
    (iv (σ 7) = (iv (σ 0) : Int).tmod (4)) →
    (iv (σ 9) = (iv (σ 0) : Int).tmod (100)) →
    (iv (σ 11) = (iv (σ 0) : Int).tmod (400)) →
    (iv (σ 11) ≠ 0) →
    (iv (σ 9) = 0) →
    (iv (σ 7) = 0) →
    (iv (σ 1) = 2) →
    (iv (σ 1) ≠ 11) →
    (iv (σ 1) ≠ 9) →
    (iv (σ 1) ≠ 6) →
    (iv (σ 1) ≠ 4) →
    monthR [σ 0, σ 1, (Value.int .i64 28)]

def month_L7 : Prop := ∀ σ : Nat → Value,
    (σ 0 = .int .i64 (iv (σ 0))) →
    (σ 1 = .int .i64 (iv (σ 1))) →
    (σ 7 = .int .i64 (iv (σ 7))) →
    (iv (σ 7) = (iv (σ 0) : Int).tmod (4)) →
    (iv (σ 7) ≠ 0) →
    (iv (σ 1) = 2) →
    (iv (σ 1) ≠ 11) →
    (iv (σ 1) ≠ 9) →
    (iv (σ 1) ≠ 6) →
    (iv (σ 1) ≠ 4) →
    monthR [σ 0, σ 1, (Value.int .i64 28)]

def month_L8 : Prop := ∀ σ : Nat → Value,
    (σ 0 = .int .i64 (iv (σ 0))) →
    (σ 1 = .int .i64 (iv (σ 1))) →
    (iv (σ 1) ≠ 2) →
    (iv (σ 1) ≠ 11) →
    (iv (σ 1) ≠ 9) →
    (iv (σ 1) ≠ 6) →
    (iv (σ 1) ≠ 4) →
    monthR [σ 0, σ 1, (Value.int .i64 31)]

theorem month_tie : monthC.goals (cfgC Tryz.prog (entersOf Tryz.prog) X []) [] 2000 = (month_L0 ∧ month_L1 ∧ month_L2 ∧ month_L3 ∧ month_L4 ∧ month_L5 ∧ month_L6 ∧ month_L7 ∧ month_L8 ∧ True) := by kernel_rfl
theorem month_ok {cond : World → Prop} (hs : Keeps cond) : monthC.ok Tryz.prog cond := by
  refine by_tie month_tie (by kernel_rfl) hs (all_nil) ?_
  refine ⟨?_, ?_, ?_, ?_, ?_, ?_, ?_, ?_, ?_, trivial⟩ <;>
  · intro σ; intros; (simp only [monthR, iv_int] at *); (repeat (simp (disch := omega) only [IntWalk.i64_in, tdiv_nn, tmod_nn] at *))
    intro h0
    try simp (disch := omega) only [tmod_nn] at *
    simp only [monI, lp, leapI]
    first | omega | (split <;> omega) | (split <;> split <;> omega) | (split <;> split <;> split <;> omega)


def days_L0 : Prop := ∀ σ : Nat → Value,
    (σ 0 = .int .i64 (iv (σ 0))) →
    (σ 1 = .int .i64 (iv (σ 1))) →
    (σ 2 = .int .i64 (iv (σ 2))) →
    (σ 3 = .int .i64 (iv (σ 3))) →
    (σ 4 = .int .i64 (iv (σ 4))) →
    (σ 5 = .int .i64 (iv (σ 5))) →
    (σ 6 = .int .i64 (iv (σ 6))) →
    (σ 7 = .int .i64 (iv (σ 7))) →
    (σ 8 = .int .i64 (iv (σ 8))) →
    (σ 9 = .int .i64 (iv (σ 9))) →
    (σ 10 = .int .i64 (iv (σ 10))) →
    (daysRPre [σ 0, σ 1, σ 2]) →
    (iv (σ 3) = IntKind.i64.wrap (iv (σ 0) - 1)) →
    (iv (σ 4) = IntKind.i64.wrap (iv (σ 3) * 365)) →
    (iv (σ 5) = IntKind.i64.wrap ((iv (σ 3)).tdiv (4))) →
    (iv (σ 6) = IntKind.i64.wrap (iv (σ 4) + iv (σ 5))) →
    (iv (σ 7) = IntKind.i64.wrap ((iv (σ 3)).tdiv (100))) →
    (iv (σ 8) = IntKind.i64.wrap (iv (σ 6) - iv (σ 7))) →
    (iv (σ 9) = IntKind.i64.wrap ((iv (σ 3)).tdiv (400))) →
    (iv (σ 10) = IntKind.i64.wrap (iv (σ 8) + iv (σ 9))) →
    ((fitsL [.any, .any, .any, .any, .any, .any, .any, .any, .any, .any, .any, .int .i64, .int .i64, .any, .any, .any, .any, .any, .any, .any, .any, .any, .any] [σ 0, σ 1, σ 2, σ 3, σ 4, σ 5, σ 6, σ 7, σ 8, σ 9, σ 10, σ 10, (Value.int .i64 1), (Value.tuple #[]), (Value.tuple #[]), (Value.tuple #[]), (Value.tuple #[]), (Value.tuple #[]), (Value.tuple #[]), (Value.tuple #[]), (Value.tuple #[]), (Value.tuple #[]), (Value.tuple #[])] → ¬ daysI [σ 0, σ 1, σ 2, σ 3, σ 4, σ 5, σ 6, σ 7, σ 8, σ 9, σ 10, σ 10, (Value.int .i64 1), (Value.tuple #[]), (Value.tuple #[]), (Value.tuple #[]), (Value.tuple #[]), (Value.tuple #[]), (Value.tuple #[]), (Value.tuple #[]), (Value.tuple #[]), (Value.tuple #[]), (Value.tuple #[])])) →
    False

def days_L1 : Prop := ∀ σ : Nat → Value,
    (σ 0 = .int .i64 (iv (σ 0))) →
    (σ 1 = .int .i64 (iv (σ 1))) →
    (σ 2 = .int .i64 (iv (σ 2))) →
    (σ 3 = .int .i64 (iv (σ 3))) →
    (σ 4 = .int .i64 (iv (σ 4))) →
    (σ 5 = .int .i64 (iv (σ 5))) →
    (σ 6 = .int .i64 (iv (σ 6))) →
    (σ 7 = .int .i64 (iv (σ 7))) →
    (σ 8 = .int .i64 (iv (σ 8))) →
    (σ 9 = .int .i64 (iv (σ 9))) →
    (σ 10 = .int .i64 (iv (σ 10))) →
    (σ 11 = .int .i64 (iv (σ 11))) →
    (σ 12 = .int .i64 (iv (σ 12))) →
    (σ 24 = .int .i64 (iv (σ 24))) →
    (σ 25 = .int .i64 (iv (σ 25))) →
    (σ 26 = .int .i64 (iv (σ 26))) →
    (daysRPre [σ 0, σ 1, σ 2]) →
    (iv (σ 3) = IntKind.i64.wrap (iv (σ 0) - 1)) →
    (iv (σ 4) = IntKind.i64.wrap (iv (σ 3) * 365)) →
    (iv (σ 5) = IntKind.i64.wrap ((iv (σ 3)).tdiv (4))) →
    (iv (σ 6) = IntKind.i64.wrap (iv (σ 4) + iv (σ 5))) →
    (iv (σ 7) = IntKind.i64.wrap ((iv (σ 3)).tdiv (100))) →
    (iv (σ 8) = IntKind.i64.wrap (iv (σ 6) - iv (σ 7))) →
    (iv (σ 9) = IntKind.i64.wrap ((iv (σ 3)).tdiv (400))) →
    (iv (σ 10) = IntKind.i64.wrap (iv (σ 8) + iv (σ 9))) →
    (daysI [σ 0, σ 1, σ 2, σ 3, σ 4, σ 5, σ 6, σ 7, σ 8, σ 9, σ 10, σ 11, σ 12, σ 13, σ 14, σ 15, σ 16, σ 17, σ 18, σ 19, σ 20, σ 21, σ 22]) →
    (monthR [σ 0, σ 12, σ 24]) →
    (iv (σ 25) = IntKind.i64.wrap (iv (σ 11) + iv (σ 24))) →
    (iv (σ 26) = IntKind.i64.wrap (iv (σ 12) + 1)) →
    ((fitsL [.any, .any, .any, .any, .any, .any, .any, .any, .any, .any, .any, .int .i64, .int .i64, .any, .any, .any, .any, .any, .any, .any, .any, .any, .any] [σ 0, σ 1, σ 2, σ 3, σ 4, σ 5, σ 6, σ 7, σ 8, σ 9, σ 10, σ 25, σ 26, σ 12, σ 1, σ 23, σ 12, σ 26, σ 11, σ 0, σ 12, σ 24, σ 25] → daysI [σ 0, σ 1, σ 2, σ 3, σ 4, σ 5, σ 6, σ 7, σ 8, σ 9, σ 10, σ 25, σ 26, σ 12, σ 1, σ 23, σ 12, σ 26, σ 11, σ 0, σ 12, σ 24, σ 25] → ¬ daysIM [σ 0, σ 1, σ 2, σ 3, σ 4, σ 5, σ 6, σ 7, σ 8, σ 9, σ 10, σ 25, σ 26, σ 12, σ 1, σ 23, σ 12, σ 26, σ 11, σ 0, σ 12, σ 24, σ 25] < daysIM [σ 0, σ 1, σ 2, σ 3, σ 4, σ 5, σ 6, σ 7, σ 8, σ 9, σ 10, σ 11, σ 12, σ 13, σ 14, σ 15, σ 16, σ 17, σ 18, σ 19, σ 20, σ 21, σ 22])) →
    (iv (σ 12) < iv (σ 1)) →
    False

def days_L2 : Prop := ∀ σ : Nat → Value,
    (σ 0 = .int .i64 (iv (σ 0))) →
    (σ 1 = .int .i64 (iv (σ 1))) →
    (σ 2 = .int .i64 (iv (σ 2))) →
    (σ 3 = .int .i64 (iv (σ 3))) →
    (σ 4 = .int .i64 (iv (σ 4))) →
    (σ 5 = .int .i64 (iv (σ 5))) →
    (σ 6 = .int .i64 (iv (σ 6))) →
    (σ 7 = .int .i64 (iv (σ 7))) →
    (σ 8 = .int .i64 (iv (σ 8))) →
    (σ 9 = .int .i64 (iv (σ 9))) →
    (σ 10 = .int .i64 (iv (σ 10))) →
    (σ 11 = .int .i64 (iv (σ 11))) →
    (σ 12 = .int .i64 (iv (σ 12))) →
    (σ 24 = .int .i64 (iv (σ 24))) →
    (σ 25 = .int .i64 (iv (σ 25))) →
    (daysRPre [σ 0, σ 1, σ 2]) →
    (iv (σ 3) = IntKind.i64.wrap (iv (σ 0) - 1)) →
    (iv (σ 4) = IntKind.i64.wrap (iv (σ 3) * 365)) →
    (iv (σ 5) = IntKind.i64.wrap ((iv (σ 3)).tdiv (4))) →
    (iv (σ 6) = IntKind.i64.wrap (iv (σ 4) + iv (σ 5))) →
    (iv (σ 7) = IntKind.i64.wrap ((iv (σ 3)).tdiv (100))) →
    (iv (σ 8) = IntKind.i64.wrap (iv (σ 6) - iv (σ 7))) →
    (iv (σ 9) = IntKind.i64.wrap ((iv (σ 3)).tdiv (400))) →
    (iv (σ 10) = IntKind.i64.wrap (iv (σ 8) + iv (σ 9))) →
    (daysI [σ 0, σ 1, σ 2, σ 3, σ 4, σ 5, σ 6, σ 7, σ 8, σ 9, σ 10, σ 11, σ 12, σ 13, σ 14, σ 15, σ 16, σ 17, σ 18, σ 19, σ 20, σ 21, σ 22]) →
    (iv (σ 24) = IntKind.i64.wrap (iv (σ 11) + iv (σ 2))) →
    (iv (σ 25) = IntKind.i64.wrap (iv (σ 24) - 1)) →
    (iv (σ 1) ≤ iv (σ 12)) →
    daysR [σ 0, σ 1, σ 2, σ 25]

theorem days_tie : daysC.goals (cfgC Tryz.prog (entersOf Tryz.prog) X [monthC]) [(35, 3, daysI_)] 2000 = (days_L0 ∧ days_L1 ∧ days_L2 ∧ True) := by kernel_rfl
theorem days_L0_ok : days_L0 := by
  intro σ; intros
  specialize ‹fitsL _ _ → ¬ daysI _› (by (simp only [fitsL, Sort_.fits]; repeat' (first | exact True.intro | (with_reducible refine And.intro ?_ ?_) | exact ⟨_, ‹_›⟩ | exact ⟨_, rfl⟩)))
  (simp only [daysRPre, daysI, g0, gs, iv_int] at *); (repeat (simp (disch := omega) only [IntWalk.i64_in, tdiv_nn] at *))
  have c := cum_one (iv (σ 0))
  have e : iv (σ 3) = iv (σ 0) - 1 := by omega
  simp only [e] at *
  unfold yr at *
  omega
theorem days_L1_ok : days_L1 := by
  intro σ; intros
  specialize ‹fitsL _ _ → daysI _ → ¬ (_ : Nat) < _› (by (simp only [fitsL, Sort_.fits]; repeat' (first | exact True.intro | (with_reducible refine And.intro ?_ ?_) | exact ⟨_, ‹_›⟩ | exact ⟨_, rfl⟩)))
  (simp only [monthR, daysRPre, daysI, daysIM, g0, gs] at *); (repeat (simp (disch := omega) only [IntWalk.i64_in, tdiv_nn] at *))
  have c := cum_succ (iv (σ 0)) (iv (σ 12)) (by omega) (by omega)
  have c1 := monI_pos (iv (σ 0)) (iv (σ 12))
  have c2 := cum_bd (iv (σ 0)) (iv (σ 12))
  have c3 := yr_bd (y := iv (σ 0)) (by omega) (by omega)
  (repeat (simp (disch := omega) only [IntWalk.i64_in] at *))
  have e : iv (σ 26) = iv (σ 12) + 1 := by omega
  simp only [e] at *
  omega
theorem days_L2_ok : days_L2 := by
  intro σ; intros
  (simp only [daysRPre, daysR, daysI, g0, gs] at *); (repeat (simp (disch := omega) only [IntWalk.i64_in, tdiv_nn] at *))
  have c2 := cum_bd (iv (σ 0)) (iv (σ 12))
  have c3 := yr_bd (y := iv (σ 0)) (by omega) (by omega)
  have e : iv (σ 12) = iv (σ 1) := by omega
  simp only [e] at *
  (repeat (simp (disch := omega) only [IntWalk.i64_in] at *))
  unfold dayI
  omega
theorem days_ok {cond : World → Prop} (hs : Keeps cond) : daysC.ok Tryz.prog cond := by
  refine by_tie days_tie (by kernel_rfl) hs (all_cons (month_ok hs) (all_nil)) ?_
  exact ⟨days_L0_ok, days_L1_ok, days_L2_ok, trivial⟩


def begin_L0 : Prop := ∀ σ : Nat → Value,
    (σ 0 = .int .i64 (iv (σ 0))) →
    (daysR [(Value.int .i64 1899), (Value.int .i64 12), (Value.int .i64 30), σ 0]) →
    beginR [σ 0]

def begin_L1 : Prop := ∀ _ : Nat → Value,
    (¬ daysRPre [(Value.int .i64 1899), (Value.int .i64 12), (Value.int .i64 30)]) →
    False

theorem begin_tie : beginC.goals (cfgC Tryz.prog (entersOf Tryz.prog) X [daysC]) [] 2000 = (begin_L0 ∧ begin_L1 ∧ True) := by kernel_rfl
theorem begin_ok {cond : World → Prop} (hs : Keeps cond) : beginC.ok Tryz.prog cond := by
  refine by_tie begin_tie (by kernel_rfl) hs (all_cons (days_ok hs) (all_nil)) ?_
  refine ⟨?_, ?_, trivial⟩
  · intro σ; intros; (simp only [daysR, beginR, iv_int] at *); (repeat (simp (disch := omega) only [IntWalk.i64_in, tdiv_nn, tmod_nn] at *))
    have : dayI 1899 12 30 = 693593 := by decide
    omega
  · intro σ; intros; (simp only [daysRPre, iv_int] at *); (repeat (simp (disch := omega) only [IntWalk.i64_in, tdiv_nn, tmod_nn] at *))
    omega


def date_L0 : Prop := ∀ σ : Nat → Value,
    (σ 0 = .int .i64 (iv (σ 0))) →
    (σ 1 = .int .i64 (iv (σ 1))) →
    (σ 2 = .int .i64 (iv (σ 2))) →
    (dateRPre [σ 0]) →
    (beginR [σ 1]) →
    (iv (σ 2) = IntKind.i64.wrap (iv (σ 0) + iv (σ 1))) →
    (iv (σ 2) < 0) →
    dateR [σ 0, (Value.int .i64 0), (Value.int .i64 0), (Value.int .i64 0), (Value.bool false)]

def date_L1 : Prop := ∀ σ : Nat → Value,
    (σ 0 = .int .i64 (iv (σ 0))) →
    (σ 1 = .int .i64 (iv (σ 1))) →
    (σ 2 = .int .i64 (iv (σ 2))) →
    (σ 4 = .int .i64 (iv (σ 4))) →
    (dateRPre [σ 0]) →
    (beginR [σ 1]) →
    (iv (σ 2) = IntKind.i64.wrap (iv (σ 0) + iv (σ 1))) →
    (daysR [(Value.int .i64 9999), (Value.int .i64 12), (Value.int .i64 31), σ 4]) →
    (iv (σ 4) < iv (σ 2)) →
    (0 ≤ iv (σ 2)) →
    dateR [σ 0, (Value.int .i64 0), (Value.int .i64 0), (Value.int .i64 0), (Value.bool false)]

def date_L2 : Prop := ∀ σ : Nat → Value,
    (σ 0 = .int .i64 (iv (σ 0))) →
    (σ 1 = .int .i64 (iv (σ 1))) →
    (σ 2 = .int .i64 (iv (σ 2))) →
    (σ 4 = .int .i64 (iv (σ 4))) →
    (σ 6 = .int .i64 (iv (σ 6))) →
    (σ 7 = .int .i64 (iv (σ 7))) →
    (dateRPre [σ 0]) →
    (beginR [σ 1]) →
    (iv (σ 2) = IntKind.i64.wrap (iv (σ 0) + iv (σ 1))) →
    (daysR [(Value.int .i64 9999), (Value.int .i64 12), (Value.int .i64 31), σ 4]) →
    (iv (σ 6) = IntKind.i64.wrap ((iv (σ 2)).tdiv (366))) →
    (iv (σ 7) = IntKind.i64.wrap (iv (σ 6) + 1)) →
    ((fitsL [.any, .any, .any, .any, .any, .any, .any, .any, .int .i64, .any, .any, .any, .any, .any, .any, .any] [σ 0, σ 1, σ 2, σ 3, σ 4, σ 5, σ 6, σ 7, σ 7, (Value.tuple #[]), (Value.tuple #[]), (Value.tuple #[]), (Value.tuple #[]), (Value.tuple #[]), (Value.tuple #[]), (Value.tuple #[])] → ¬ yearI [σ 0, σ 1, σ 2, σ 3, σ 4, σ 5, σ 6, σ 7, σ 7, (Value.tuple #[]), (Value.tuple #[]), (Value.tuple #[]), (Value.tuple #[]), (Value.tuple #[]), (Value.tuple #[]), (Value.tuple #[])])) →
    (iv (σ 2) ≤ iv (σ 4)) →
    (0 ≤ iv (σ 2)) →
    False

def date_L3 : Prop := ∀ σ : Nat → Value,
    (σ 0 = .int .i64 (iv (σ 0))) →
    (σ 1 = .int .i64 (iv (σ 1))) →
    (σ 2 = .int .i64 (iv (σ 2))) →
    (σ 4 = .int .i64 (iv (σ 4))) →
    (σ 6 = .int .i64 (iv (σ 6))) →
    (σ 7 = .int .i64 (iv (σ 7))) →
    (σ 8 = .int .i64 (iv (σ 8))) →
    (σ 16 = .int .i64 (iv (σ 16))) →
    (σ 17 = .int .i64 (iv (σ 17))) →
    (dateRPre [σ 0]) →
    (beginR [σ 1]) →
    (iv (σ 2) = IntKind.i64.wrap (iv (σ 0) + iv (σ 1))) →
    (daysR [(Value.int .i64 9999), (Value.int .i64 12), (Value.int .i64 31), σ 4]) →
    (iv (σ 6) = IntKind.i64.wrap ((iv (σ 2)).tdiv (366))) →
    (iv (σ 7) = IntKind.i64.wrap (iv (σ 6) + 1)) →
    (yearI [σ 0, σ 1, σ 2, σ 3, σ 4, σ 5, σ 6, σ 7, σ 8, σ 9, σ 10, σ 11, σ 12, σ 13, σ 14, σ 15]) →
    (iv (σ 16) = IntKind.i64.wrap (iv (σ 8) + 1)) →
    (daysR [σ 16, (Value.int .i64 1), (Value.int .i64 1), σ 17]) →
    ((fitsL [.any, .any, .any, .any, .any, .any, .any, .any, .int .i64, .any, .any, .any, .any, .any, .any, .any] [σ 0, σ 1, σ 2, σ 3, σ 4, σ 5, σ 6, σ 7, σ 16, σ 8, σ 16, σ 17, σ 2, σ 18, σ 8, σ 16] → yearI [σ 0, σ 1, σ 2, σ 3, σ 4, σ 5, σ 6, σ 7, σ 16, σ 8, σ 16, σ 17, σ 2, σ 18, σ 8, σ 16] → ¬ yearIM [σ 0, σ 1, σ 2, σ 3, σ 4, σ 5, σ 6, σ 7, σ 16, σ 8, σ 16, σ 17, σ 2, σ 18, σ 8, σ 16] < yearIM [σ 0, σ 1, σ 2, σ 3, σ 4, σ 5, σ 6, σ 7, σ 8, σ 9, σ 10, σ 11, σ 12, σ 13, σ 14, σ 15])) →
    (iv (σ 17) ≤ iv (σ 2)) →
    (iv (σ 2) ≤ iv (σ 4)) →
    (0 ≤ iv (σ 2)) →
    False

def date_L4 : Prop := ∀ σ : Nat → Value,
    (σ 0 = .int .i64 (iv (σ 0))) →
    (σ 1 = .int .i64 (iv (σ 1))) →
    (σ 2 = .int .i64 (iv (σ 2))) →
    (σ 4 = .int .i64 (iv (σ 4))) →
    (σ 6 = .int .i64 (iv (σ 6))) →
    (σ 7 = .int .i64 (iv (σ 7))) →
    (σ 8 = .int .i64 (iv (σ 8))) →
    (σ 16 = .int .i64 (iv (σ 16))) →
    (σ 17 = .int .i64 (iv (σ 17))) →
    (dateRPre [σ 0]) →
    (beginR [σ 1]) →
    (iv (σ 2) = IntKind.i64.wrap (iv (σ 0) + iv (σ 1))) →
    (daysR [(Value.int .i64 9999), (Value.int .i64 12), (Value.int .i64 31), σ 4]) →
    (iv (σ 6) = IntKind.i64.wrap ((iv (σ 2)).tdiv (366))) →
    (iv (σ 7) = IntKind.i64.wrap (iv (σ 6) + 1)) →
    (yearI [σ 0, σ 1, σ 2, σ 3, σ 4, σ 5, σ 6, σ 7, σ 8, σ 9, σ 10, σ 11, σ 12, σ 13, σ 14, σ 15]) →
    (iv (σ 16) = IntKind.i64.wrap (iv (σ 8) + 1)) →
    (daysR [σ 16, (Value.int .i64 1), (Value.int .i64 1), σ 17]) →
    ((fitsL [.any, .any, .any, .any, .any, .any, .any, .any, .any, .any, .any, .any, .any, .any, .any, .any, .any, .any, .any, .int .i64, .any, .any, .any, .any, .any, .any, .any, .any, .any, .any, .any, .any] [σ 0, σ 1, σ 2, σ 3, σ 4, σ 5, σ 6, σ 7, σ 8, σ 9, σ 10, σ 11, σ 12, σ 13, σ 14, σ 15, σ 16, σ 17, σ 18, (Value.int .i64 1), (Value.tuple #[]), (Value.tuple #[]), (Value.tuple #[]), (Value.tuple #[]), (Value.tuple #[]), (Value.tuple #[]), (Value.tuple #[]), (Value.tuple #[]), (Value.tuple #[]), (Value.tuple #[]), (Value.tuple #[]), (Value.tuple #[])] → ¬ monthI [σ 0, σ 1, σ 2, σ 3, σ 4, σ 5, σ 6, σ 7, σ 8, σ 9, σ 10, σ 11, σ 12, σ 13, σ 14, σ 15, σ 16, σ 17, σ 18, (Value.int .i64 1), (Value.tuple #[]), (Value.tuple #[]), (Value.tuple #[]), (Value.tuple #[]), (Value.tuple #[]), (Value.tuple #[]), (Value.tuple #[]), (Value.tuple #[]), (Value.tuple #[]), (Value.tuple #[]), (Value.tuple #[]), (Value.tuple #[])])) →
    (iv (σ 2) < iv (σ 17)) →
    (iv (σ 2) ≤ iv (σ 4)) →
    (0 ≤ iv (σ 2)) →
    False

def date_L5 : Prop := ∀ σ : Nat → Value,
    (σ 0 = .int .i64 (iv (σ 0))) →
    (σ 1 = .int .i64 (iv (σ 1))) →
    (σ 2 = .int .i64 (iv (σ 2))) →
    (σ 4 = .int .i64 (iv (σ 4))) →
    (σ 6 = .int .i64 (iv (σ 6))) →
    (σ 7 = .int .i64 (iv (σ 7))) →
    (σ 8 = .int .i64 (iv (σ 8))) →
    (σ 16 = .int .i64 (iv (σ 16))) →
    (σ 17 = .int .i64 (iv (σ 17))) →
    (σ 19 = .int .i64 (iv (σ 19))) →
    (σ 33 = .int .i64 (iv (σ 33))) →
    (σ 34 = .int .i64 (iv (σ 34))) →
    (dateRPre [σ 0]) →
    (beginR [σ 1]) →
    (iv (σ 2) = IntKind.i64.wrap (iv (σ 0) + iv (σ 1))) →
    (daysR [(Value.int .i64 9999), (Value.int .i64 12), (Value.int .i64 31), σ 4]) →
    (iv (σ 6) = IntKind.i64.wrap ((iv (σ 2)).tdiv (366))) →
    (iv (σ 7) = IntKind.i64.wrap (iv (σ 6) + 1)) →
    (yearI [σ 0, σ 1, σ 2, σ 3, σ 4, σ 5, σ 6, σ 7, σ 8, σ 9, σ 10, σ 11, σ 12, σ 13, σ 14, σ 15]) →
    (iv (σ 16) = IntKind.i64.wrap (iv (σ 8) + 1)) →
    (daysR [σ 16, (Value.int .i64 1), (Value.int .i64 1), σ 17]) →
    (monthI [σ 0, σ 1, σ 2, σ 3, σ 4, σ 5, σ 6, σ 7, σ 8, σ 9, σ 10, σ 11, σ 12, σ 13, σ 14, σ 15, σ 16, σ 17, σ 18, σ 19, σ 20, σ 21, σ 22, σ 23, σ 24, σ 25, σ 26, σ 27, σ 28, σ 29, σ 30, σ 31]) →
    (iv (σ 33) = IntKind.i64.wrap (iv (σ 19) + 1)) →
    (daysR [σ 8, σ 33, (Value.int .i64 1), σ 34]) →
    ((fitsL [.any, .any, .any, .any, .any, .any, .any, .any, .any, .any, .any, .any, .any, .any, .any, .any, .any, .any, .any, .int .i64, .any, .any, .any, .any, .any, .any, .any, .any, .any, .any, .any, .any] [σ 0, σ 1, σ 2, σ 3, σ 4, σ 5, σ 6, σ 7, σ 8, σ 9, σ 10, σ 11, σ 12, σ 13, σ 14, σ 15, σ 16, σ 17, σ 18, σ 33, σ 19, σ 32, σ 32, σ 8, σ 19, σ 33, σ 34, σ 2, σ 35, σ 35, σ 19, σ 33] → monthI [σ 0, σ 1, σ 2, σ 3, σ 4, σ 5, σ 6, σ 7, σ 8, σ 9, σ 10, σ 11, σ 12, σ 13, σ 14, σ 15, σ 16, σ 17, σ 18, σ 33, σ 19, σ 32, σ 32, σ 8, σ 19, σ 33, σ 34, σ 2, σ 35, σ 35, σ 19, σ 33] → ¬ monthIM [σ 0, σ 1, σ 2, σ 3, σ 4, σ 5, σ 6, σ 7, σ 8, σ 9, σ 10, σ 11, σ 12, σ 13, σ 14, σ 15, σ 16, σ 17, σ 18, σ 33, σ 19, σ 32, σ 32, σ 8, σ 19, σ 33, σ 34, σ 2, σ 35, σ 35, σ 19, σ 33] < monthIM [σ 0, σ 1, σ 2, σ 3, σ 4, σ 5, σ 6, σ 7, σ 8, σ 9, σ 10, σ 11, σ 12, σ 13, σ 14, σ 15, σ 16, σ 17, σ 18, σ 19, σ 20, σ 21, σ 22, σ 23, σ 24, σ 25, σ 26, σ 27, σ 28, σ 29, σ 30, σ 31])) →
    (iv (σ 34) ≤ iv (σ 2)) →
    (iv (σ 19) < 12) →
    (iv (σ 2) < iv (σ 17)) →
    (iv (σ 2) ≤ iv (σ 4)) →
    (0 ≤ iv (σ 2)) →
    False

def date_L6 : Prop := ∀ σ : Nat → Value,
    (σ 0 = .int .i64 (iv (σ 0))) →
    (σ 1 = .int .i64 (iv (σ 1))) →
    (σ 2 = .int .i64 (iv (σ 2))) →
    (σ 4 = .int .i64 (iv (σ 4))) →
    (σ 6 = .int .i64 (iv (σ 6))) →
    (σ 7 = .int .i64 (iv (σ 7))) →
    (σ 8 = .int .i64 (iv (σ 8))) →
    (σ 16 = .int .i64 (iv (σ 16))) →
    (σ 17 = .int .i64 (iv (σ 17))) →
    (σ 19 = .int .i64 (iv (σ 19))) →
    (σ 33 = .int .i64 (iv (σ 33))) →
    (σ 34 = .int .i64 (iv (σ 34))) →
    (σ 36 = .int .i64 (iv (σ 36))) →
    (σ 37 = .int .i64 (iv (σ 37))) →
    (σ 38 = .int .i64 (iv (σ 38))) →
    (dateRPre [σ 0]) →
    (beginR [σ 1]) →
    (iv (σ 2) = IntKind.i64.wrap (iv (σ 0) + iv (σ 1))) →
    (daysR [(Value.int .i64 9999), (Value.int .i64 12), (Value.int .i64 31), σ 4]) →
    (iv (σ 6) = IntKind.i64.wrap ((iv (σ 2)).tdiv (366))) →
    (iv (σ 7) = IntKind.i64.wrap (iv (σ 6) + 1)) →
    (yearI [σ 0, σ 1, σ 2, σ 3, σ 4, σ 5, σ 6, σ 7, σ 8, σ 9, σ 10, σ 11, σ 12, σ 13, σ 14, σ 15]) →
    (iv (σ 16) = IntKind.i64.wrap (iv (σ 8) + 1)) →
    (daysR [σ 16, (Value.int .i64 1), (Value.int .i64 1), σ 17]) →
    (monthI [σ 0, σ 1, σ 2, σ 3, σ 4, σ 5, σ 6, σ 7, σ 8, σ 9, σ 10, σ 11, σ 12, σ 13, σ 14, σ 15, σ 16, σ 17, σ 18, σ 19, σ 20, σ 21, σ 22, σ 23, σ 24, σ 25, σ 26, σ 27, σ 28, σ 29, σ 30, σ 31]) →
    (iv (σ 33) = IntKind.i64.wrap (iv (σ 19) + 1)) →
    (daysR [σ 8, σ 33, (Value.int .i64 1), σ 34]) →
    (daysR [σ 8, σ 19, (Value.int .i64 1), σ 36]) →
    (iv (σ 37) = IntKind.i64.wrap (iv (σ 2) - iv (σ 36))) →
    (iv (σ 38) = IntKind.i64.wrap (iv (σ 37) + 1)) →
    (iv (σ 2) < iv (σ 34)) →
    (iv (σ 19) < 12) →
    (iv (σ 2) < iv (σ 17)) →
    (iv (σ 2) ≤ iv (σ 4)) →
    (0 ≤ iv (σ 2)) →
    dateR [σ 0, σ 8, σ 19, σ 38, (Value.bool true)]

def date_L7 : Prop := ∀ σ : Nat → Value,
    (σ 0 = .int .i64 (iv (σ 0))) →
    (σ 1 = .int .i64 (iv (σ 1))) →
    (σ 2 = .int .i64 (iv (σ 2))) →
    (σ 4 = .int .i64 (iv (σ 4))) →
    (σ 6 = .int .i64 (iv (σ 6))) →
    (σ 7 = .int .i64 (iv (σ 7))) →
    (σ 8 = .int .i64 (iv (σ 8))) →
    (σ 16 = .int .i64 (iv (σ 16))) →
    (σ 17 = .int .i64 (iv (σ 17))) →
    (σ 19 = .int .i64 (iv (σ 19))) →
    (σ 33 = .int .i64 (iv (σ 33))) →
    (σ 34 = .int .i64 (iv (σ 34))) →
    (dateRPre [σ 0]) →
    (beginR [σ 1]) →
    (iv (σ 2) = IntKind.i64.wrap (iv (σ 0) + iv (σ 1))) →
    (daysR [(Value.int .i64 9999), (Value.int .i64 12), (Value.int .i64 31), σ 4]) →
    (iv (σ 6) = IntKind.i64.wrap ((iv (σ 2)).tdiv (366))) →
    (iv (σ 7) = IntKind.i64.wrap (iv (σ 6) + 1)) →
    (yearI [σ 0, σ 1, σ 2, σ 3, σ 4, σ 5, σ 6, σ 7, σ 8, σ 9, σ 10, σ 11, σ 12, σ 13, σ 14, σ 15]) →
    (iv (σ 16) = IntKind.i64.wrap (iv (σ 8) + 1)) →
    (daysR [σ 16, (Value.int .i64 1), (Value.int .i64 1), σ 17]) →
    (monthI [σ 0, σ 1, σ 2, σ 3, σ 4, σ 5, σ 6, σ 7, σ 8, σ 9, σ 10, σ 11, σ 12, σ 13, σ 14, σ 15, σ 16, σ 17, σ 18, σ 19, σ 20, σ 21, σ 22, σ 23, σ 24, σ 25, σ 26, σ 27, σ 28, σ 29, σ 30, σ 31]) →
    (iv (σ 33) = IntKind.i64.wrap (iv (σ 19) + 1)) →
    (daysR [σ 8, σ 33, (Value.int .i64 1), σ 34]) →
    (¬ daysRPre [σ 8, σ 19, (Value.int .i64 1)]) →
    (iv (σ 2) < iv (σ 34)) →
    (iv (σ 19) < 12) →
    (iv (σ 2) < iv (σ 17)) →
    (iv (σ 2) ≤ iv (σ 4)) →
    (0 ≤ iv (σ 2)) →
    False

def date_L8 : Prop := ∀ σ : Nat → Value,
    (σ 0 = .int .i64 (iv (σ 0))) →
    (σ 1 = .int .i64 (iv (σ 1))) →
    (σ 2 = .int .i64 (iv (σ 2))) →
    (σ 4 = .int .i64 (iv (σ 4))) →
    (σ 6 = .int .i64 (iv (σ 6))) →
    (σ 7 = .int .i64 (iv (σ 7))) →
    (σ 8 = .int .i64 (iv (σ 8))) →
    (σ 16 = .int .i64 (iv (σ 16))) →
    (σ 17 = .int .i64 (iv (σ 17))) →
    (σ 19 = .int .i64 (iv (σ 19))) →
    (σ 33 = .int .i64 (iv (σ 33))) →
    (dateRPre [σ 0]) →
    (beginR [σ 1]) →
    (iv (σ 2) = IntKind.i64.wrap (iv (σ 0) + iv (σ 1))) →
    (daysR [(Value.int .i64 9999), (Value.int .i64 12), (Value.int .i64 31), σ 4]) →
    (iv (σ 6) = IntKind.i64.wrap ((iv (σ 2)).tdiv (366))) →
    (iv (σ 7) = IntKind.i64.wrap (iv (σ 6) + 1)) →
    (yearI [σ 0, σ 1, σ 2, σ 3, σ 4, σ 5, σ 6, σ 7, σ 8, σ 9, σ 10, σ 11, σ 12, σ 13, σ 14, σ 15]) →
    (iv (σ 16) = IntKind.i64.wrap (iv (σ 8) + 1)) →
    (daysR [σ 16, (Value.int .i64 1), (Value.int .i64 1), σ 17]) →
    (monthI [σ 0, σ 1, σ 2, σ 3, σ 4, σ 5, σ 6, σ 7, σ 8, σ 9, σ 10, σ 11, σ 12, σ 13, σ 14, σ 15, σ 16, σ 17, σ 18, σ 19, σ 20, σ 21, σ 22, σ 23, σ 24, σ 25, σ 26, σ 27, σ 28, σ 29, σ 30, σ 31]) →
    (iv (σ 33) = IntKind.i64.wrap (iv (σ 19) + 1)) →
    (¬ daysRPre [σ 8, σ 33, (Value.int .i64 1)]) →
    (iv (σ 19) < 12) →
    (iv (σ 2) < iv (σ 17)) →
    (iv (σ 2) ≤ iv (σ 4)) →
    (0 ≤ iv (σ 2)) →
    False

def date_L9 : Prop := ∀ σ : Nat → Value,
    (σ 0 = .int .i64 (iv (σ 0))) →
    (σ 1 = .int .i64 (iv (σ 1))) →
    (σ 2 = .int .i64 (iv (σ 2))) →
    (σ 4 = .int .i64 (iv (σ 4))) →
    (σ 6 = .int .i64 (iv (σ 6))) →
    (σ 7 = .int .i64 (iv (σ 7))) →
    (σ 8 = .int .i64 (iv (σ 8))) →
    (σ 16 = .int .i64 (iv (σ 16))) →
    (σ 17 = .int .i64 (iv (σ 17))) →
    (σ 19 = .int .i64 (iv (σ 19))) →
    (σ 33 = .int .i64 (iv (σ 33))) →
    (σ 34 = .int .i64 (iv (σ 34))) →
    (σ 35 = .int .i64 (iv (σ 35))) →
    (dateRPre [σ 0]) →
    (beginR [σ 1]) →
    (iv (σ 2) = IntKind.i64.wrap (iv (σ 0) + iv (σ 1))) →
    (daysR [(Value.int .i64 9999), (Value.int .i64 12), (Value.int .i64 31), σ 4]) →
    (iv (σ 6) = IntKind.i64.wrap ((iv (σ 2)).tdiv (366))) →
    (iv (σ 7) = IntKind.i64.wrap (iv (σ 6) + 1)) →
    (yearI [σ 0, σ 1, σ 2, σ 3, σ 4, σ 5, σ 6, σ 7, σ 8, σ 9, σ 10, σ 11, σ 12, σ 13, σ 14, σ 15]) →
    (iv (σ 16) = IntKind.i64.wrap (iv (σ 8) + 1)) →
    (daysR [σ 16, (Value.int .i64 1), (Value.int .i64 1), σ 17]) →
    (monthI [σ 0, σ 1, σ 2, σ 3, σ 4, σ 5, σ 6, σ 7, σ 8, σ 9, σ 10, σ 11, σ 12, σ 13, σ 14, σ 15, σ 16, σ 17, σ 18, σ 19, σ 20, σ 21, σ 22, σ 23, σ 24, σ 25, σ 26, σ 27, σ 28, σ 29, σ 30, σ 31]) →
    (daysR [σ 8, σ 19, (Value.int .i64 1), σ 33]) →
    (iv (σ 34) = IntKind.i64.wrap (iv (σ 2) - iv (σ 33))) →
    (iv (σ 35) = IntKind.i64.wrap (iv (σ 34) + 1)) →
    (12 ≤ iv (σ 19)) →
    (iv (σ 2) < iv (σ 17)) →
    (iv (σ 2) ≤ iv (σ 4)) →
    (0 ≤ iv (σ 2)) →
    dateR [σ 0, σ 8, σ 19, σ 35, (Value.bool true)]

def date_L10 : Prop := ∀ σ : Nat → Value,
    (σ 0 = .int .i64 (iv (σ 0))) →
    (σ 1 = .int .i64 (iv (σ 1))) →
    (σ 2 = .int .i64 (iv (σ 2))) →
    (σ 4 = .int .i64 (iv (σ 4))) →
    (σ 6 = .int .i64 (iv (σ 6))) →
    (σ 7 = .int .i64 (iv (σ 7))) →
    (σ 8 = .int .i64 (iv (σ 8))) →
    (σ 16 = .int .i64 (iv (σ 16))) →
    (σ 17 = .int .i64 (iv (σ 17))) →
    (σ 19 = .int .i64 (iv (σ 19))) →
    (dateRPre [σ 0]) →
    (beginR [σ 1]) →
    (iv (σ 2) = IntKind.i64.wrap (iv (σ 0) + iv (σ 1))) →
    (daysR [(Value.int .i64 9999), (Value.int .i64 12), (Value.int .i64 31), σ 4]) →
    (iv (σ 6) = IntKind.i64.wrap ((iv (σ 2)).tdiv (366))) →
    (iv (σ 7) = IntKind.i64.wrap (iv (σ 6) + 1)) →
    (yearI [σ 0, σ 1, σ 2, σ 3, σ 4, σ 5, σ 6, σ 7, σ 8, σ 9, σ 10, σ 11, σ 12, σ 13, σ 14, σ 15]) →
    (iv (σ 16) = IntKind.i64.wrap (iv (σ 8) + 1)) →
    (daysR [σ 16, (Value.int .i64 1), (Value.int .i64 1), σ 17]) →
    (monthI [σ 0, σ 1, σ 2, σ 3, σ 4, σ 5, σ 6, σ 7, σ 8, σ 9, σ 10, σ 11, σ 12, σ 13, σ 14, σ 15, σ 16, σ 17, σ 18, σ 19, σ 20, σ 21, σ 22, σ 23, σ 24, σ 25, σ 26, σ 27, σ 28, σ 29, σ 30, σ 31]) →
    (¬ daysRPre [σ 8, σ 19, (Value.int .i64 1)]) →
    (12 ≤ iv (σ 19)) →
    (iv (σ 2) < iv (σ 17)) →
    (iv (σ 2) ≤ iv (σ 4)) →
    (0 ≤ iv (σ 2)) →
    False

def date_L11 : Prop := ∀ σ : Nat → Value,
    (σ 0 = .int .i64 (iv (σ 0))) →
    (σ 1 = .int .i64 (iv (σ 1))) →
    (σ 2 = .int .i64 (iv (σ 2))) →
    (σ 4 = .int .i64 (iv (σ 4))) →
    (σ 6 = .int .i64 (iv (σ 6))) →
    (σ 7 = .int .i64 (iv (σ 7))) →
    (σ 8 = .int .i64 (iv (σ 8))) →
    (σ 16 = .int .i64 (iv (σ 16))) →
    (dateRPre [σ 0]) →
    (beginR [σ 1]) →
    (iv (σ 2) = IntKind.i64.wrap (iv (σ 0) + iv (σ 1))) →
    (daysR [(Value.int .i64 9999), (Value.int .i64 12), (Value.int .i64 31), σ 4]) →
    (iv (σ 6) = IntKind.i64.wrap ((iv (σ 2)).tdiv (366))) →
    (iv (σ 7) = IntKind.i64.wrap (iv (σ 6) + 1)) →
    (yearI [σ 0, σ 1, σ 2, σ 3, σ 4, σ 5, σ 6, σ 7, σ 8, σ 9, σ 10, σ 11, σ 12, σ 13, σ 14, σ 15]) →
    (iv (σ 16) = IntKind.i64.wrap (iv (σ 8) + 1)) →
    (¬ daysRPre [σ 16, (Value.int .i64 1), (Value.int .i64 1)]) →
    (iv (σ 2) ≤ iv (σ 4)) →
    (0 ≤ iv (σ 2)) →
    False

def date_L12 : Prop := ∀ σ : Nat → Value,
    (σ 0 = .int .i64 (iv (σ 0))) →
    (σ 1 = .int .i64 (iv (σ 1))) →
    (σ 2 = .int .i64 (iv (σ 2))) →
    (dateRPre [σ 0]) →
    (beginR [σ 1]) →
    (iv (σ 2) = IntKind.i64.wrap (iv (σ 0) + iv (σ 1))) →
    (¬ daysRPre [(Value.int .i64 9999), (Value.int .i64 12), (Value.int .i64 31)]) →
    (0 ≤ iv (σ 2)) →
    False

theorem date_tie : dateC.goals (cfgC Tryz.prog (entersOf Tryz.prog) X [daysC, beginC]) [(32, 5, yearI_), (32, 8, monthI_)] 2000 = (date_L0 ∧ date_L1 ∧ date_L2 ∧ date_L3 ∧ date_L4 ∧ date_L5 ∧ date_L6 ∧ date_L7 ∧ date_L8 ∧ date_L9 ∧ date_L10 ∧ date_L11 ∧ date_L12 ∧ True) := by kernel_rfl
theorem yr_1 : yr 1 = 0 := by decide
theorem yr_10000 : yr 10000 = 3652059 := by decide
theorem last_day : dayI 9999 12 31 = 3652058 := by decide
theorem dayI_1 (y m : Int) : dayI y m 1 = yr y + cum y m := by unfold dayI; omega
theorem yr_le (n : Int) (h : 0 ≤ n) (h2 : n ≤ 3652058) : 1 ≤ n / 366 + 1 ∧ n / 366 + 1 ≤ 9999 ∧ yr (n / 366 + 1) ≤ n := by unfold yr; omega
theorem date_L0_ok : date_L0 := by
  intro σ; intros; (simp only [beginR, dateRPre, dateR, iv_int, bv_bool] at *); (repeat (simp (disch := omega) only [IntWalk.i64_in] at *)); right; exact ⟨trivial, by omega⟩
theorem date_L1_ok : date_L1 := by
  intro σ; intros; (simp only [daysR, beginR, dateRPre, dateR, iv_int, bv_bool] at *); (repeat (simp (disch := omega) only [IntWalk.i64_in] at *)); have := last_day; right; exact ⟨trivial, by omega⟩
theorem date_L2_ok : date_L2 := by
  intro σ; intros
  specialize ‹fitsL _ _ → ¬ yearI _› (by (simp only [fitsL, Sort_.fits]; repeat' (first | exact True.intro | (with_reducible refine And.intro ?_ ?_) | exact ⟨_, ‹_›⟩ | exact ⟨_, rfl⟩)))
  (simp only [daysR, beginR, dateRPre, yearI, g0, gs, iv_int] at *); (repeat (simp (disch := omega) only [IntWalk.i64_in, tdiv_nn] at *))
  have := last_day
  have c := yr_le (iv (σ 2)) (by omega) (by omega)
  have e : iv (σ 7) = iv (σ 2) / 366 + 1 := by omega
  rw [← e] at c
  (repeat (simp (disch := omega) only [IntWalk.i64_in, tdiv_nn, tmod_nn] at *))
  omega
theorem date_L3_ok : date_L3 := by
  intro σ; intros
  specialize ‹fitsL _ _ → yearI _ → ¬ (_ : Nat) < _› (by (simp only [fitsL, Sort_.fits]; repeat' (first | exact True.intro | (with_reducible refine And.intro ?_ ?_) | exact ⟨_, ‹_›⟩ | exact ⟨_, rfl⟩)))
  (simp only [daysR, beginR, dateRPre, yearI, yearIM, g0, gs, iv_int] at *); (repeat (simp (disch := omega) only [IntWalk.i64_in, tdiv_nn] at *))
  have := last_day
  simp only [dayI_1, cum_one] at *
  have c : iv (σ 16) = iv (σ 8) + 1 := by omega
  have c2 : iv (σ 8) ≠ 9999 := by
    intro e
    have e1 : iv (σ 16) = 10000 := by omega
    simp only [e1] at *
    have := yr_10000
    omega
  simp only [c] at *
  omega
theorem date_L4_ok : date_L4 := by
  intro σ; intros
  specialize ‹fitsL _ _ → ¬ monthI _› (by (simp only [fitsL, Sort_.fits]; repeat' (first | exact True.intro | (with_reducible refine And.intro ?_ ?_) | exact ⟨_, ‹_›⟩ | exact ⟨_, rfl⟩)))
  (simp only [daysR, beginR, dateRPre, yearI, monthI, g0, gs, iv_int] at *); (repeat (simp (disch := omega) only [IntWalk.i64_in, tdiv_nn] at *))
  have := cum_one (iv (σ 8))
  omega
theorem date_L5_ok : date_L5 := by
  intro σ; intros
  specialize ‹fitsL _ _ → monthI _ → ¬ (_ : Nat) < _› (by (simp only [fitsL, Sort_.fits]; repeat' (first | exact True.intro | (with_reducible refine And.intro ?_ ?_) | exact ⟨_, ‹_›⟩ | exact ⟨_, rfl⟩)))
  (simp only [daysR, beginR, dateRPre, yearI, monthI, monthIM, g0, gs, iv_int] at *); (repeat (simp (disch := omega) only [IntWalk.i64_in, tdiv_nn] at *))
  simp only [dayI_1] at *
  omega
theorem date_fin {n y m a : Int} (h1 : 1 ≤ y) (h2 : y ≤ 9999) (h3 : 1 ≤ m) (h4 : m ≤ 12) (h5 : yr y + cum y m ≤ n) (h6 : n < yr y + cum y (m + 1)) (e : a = n - (yr y + cum y m) + 1) : IsDate n y m a := by
  have := cum_succ y m h3 h4
  exact { y1 := h1, y2 := h2, m1 := h3, m2 := h4, d1 := by omega, d2 := by omega, day := by unfold dayI; omega }
theorem date_L6_ok : date_L6 := by
  intro σ; intros; (simp only [daysR, beginR, dateRPre, dateR, yearI, monthI, g0, gs, iv_int, bv_bool] at *); (repeat (simp (disch := omega) only [IntWalk.i64_in, tdiv_nn] at *))
  have := last_day
  simp only [dayI_1] at *
  have e : iv (σ 33) = iv (σ 19) + 1 := by omega
  simp only [e] at *
  have b1 := cum_succ (iv (σ 8)) (iv (σ 19)) (by omega) (by omega)
  have b2 := monI_pos (iv (σ 8)) (iv (σ 19))
  (repeat (simp (disch := omega) only [IntWalk.i64_in] at *))
  left
  refine ⟨trivial, ?_⟩
  have e2 : iv (σ 0) + 693593 = iv (σ 2) := by omega
  rw [e2]
  exact date_fin (by omega) (by omega) (by omega) (by omega) (by omega) (by omega) (by omega)
theorem date_L7_ok : date_L7 := by
  intro σ; intros; (simp only [daysRPre, daysR, beginR, dateRPre, yearI, monthI, g0, gs, iv_int] at *); (repeat (simp (disch := omega) only [IntWalk.i64_in, tdiv_nn] at *))
  omega
theorem date_L8_ok : date_L8 := by
  intro σ; intros; (simp only [daysRPre, daysR, beginR, dateRPre, yearI, monthI, g0, gs, iv_int] at *); (repeat (simp (disch := omega) only [IntWalk.i64_in, tdiv_nn] at *))
  omega
theorem date_L9_ok : date_L9 := by
  intro σ; intros; (simp only [daysR, beginR, dateRPre, dateR, yearI, monthI, g0, gs, iv_int, bv_bool] at *); (repeat (simp (disch := omega) only [IntWalk.i64_in, tdiv_nn] at *))
  have := last_day
  simp only [dayI_1, cum_one] at *
  have e : iv (σ 19) = 12 := by omega
  have e3 : iv (σ 16) = iv (σ 8) + 1 := by omega
  simp only [e, e3, yr_succ] at *
  have b0 := cum_13 (iv (σ 8))
  have b1 := cum_succ (iv (σ 8)) 12 (by omega) (by omega)
  have b2 := monI_pos (iv (σ 8)) 12
  have b3 : cum (iv (σ 8)) (12 + 1) = 365 + lp (iv (σ 8)) := b0
  (repeat (simp (disch := omega) only [IntWalk.i64_in] at *))
  left
  refine ⟨trivial, ?_⟩
  have e2 : iv (σ 0) + 693593 = iv (σ 2) := by omega
  rw [e2]
  exact date_fin (by omega) (by omega) (by omega) (by omega) (by omega) (by omega) (by omega)
theorem date_L10_ok : date_L10 := by
  intro σ; intros; (simp only [daysRPre, daysR, beginR, dateRPre, yearI, monthI, g0, gs, iv_int] at *); (repeat (simp (disch := omega) only [IntWalk.i64_in, tdiv_nn] at *))
  omega
theorem date_L11_ok : date_L11 := by
  intro σ; intros; (simp only [daysRPre, daysR, beginR, dateRPre, yearI, g0, gs, iv_int] at *); (repeat (simp (disch := omega) only [IntWalk.i64_in, tdiv_nn] at *))
  omega
theorem date_L12_ok : date_L12 := by
  intro σ; intros; (simp only [daysRPre, beginR, dateRPre, iv_int] at *); (repeat (simp (disch := omega) only [IntWalk.i64_in] at *))
  omega
theorem date_ok {cond : World → Prop} (hs : Keeps cond) : dateC.ok Tryz.prog cond := by
  refine by_tie date_tie (by kernel_rfl) hs (all_cons (days_ok hs) (all_cons (begin_ok hs) (all_nil))) ?_
  exact ⟨date_L0_ok, date_L1_ok, date_L2_ok, date_L3_ok, date_L4_ok, date_L5_ok, date_L6_ok, date_L7_ok, date_L8_ok, date_L9_ok, date_L10_ok, date_L11_ok, date_L12_ok, trivial⟩

end Go.Proofs.Num

namespace Go.Proofs.Num
open Go.Ev Go.Dates Go.RowKit
set_option maxRecDepth 1000000

def okD (y m d : Int) : Prop := 1 ≤ y ∧ y ≤ 9999 ∧ 1 ≤ m ∧ m ≤ 12 ∧ 1 ≤ d ∧ d ≤ monI y m
def fromR : List Value → Prop
  | [y, m, d, x, e] => (okD (iv y) (iv m) (iv d) ∧ iv e = 0 ∧ fv x = FloatKind.f64.nearest (dayI (iv y) (iv m) (iv d) - 693593)) ∨ (¬ okD (iv y) (iv m) (iv d) ∧ iv e = 81 ∧ fv x = 0)
  | _ => False
/-- A number that is a day. -/
def dayR (x : Nat) : Prop := Fin64 x ∧ -693593 ≤ flr x ∧ flr x ≤ 2958465
def toR : List Value → Prop
  | [x, y, m, d, e] => (¬ Fin64 (fv x) ∧ iv e = 80 ∧ iv y = 0 ∧ iv m = 0 ∧ iv d = 0) ∨ ((Fin64 (fv x) ∧ (flr (fv x) < -693593 ∨ 2958465 < flr (fv x))) ∧ iv e = 81 ∧ iv y = 0 ∧ iv m = 0 ∧ iv d = 0)
      ∨ (Fin64 (fv x) ∧ iv e = 0 ∧ IsDate (flr (fv x) + 693593) (iv y) (iv m) (iv d))
  | _ => False
def wdR : List Value → Prop
  | [x, w, e] => (¬ Fin64 (fv x) ∧ iv e = 80 ∧ iv w = 0) ∨ ((Fin64 (fv x) ∧ (flr (fv x) < -693593 ∨ 2958465 < flr (fv x))) ∧ iv e = 81 ∧ iv w = 0)
      ∨ (dayR (fv x) ∧ iv e = 0 ∧ iv w = (flr (fv x) + 693594) % 7 + 1)
  | _ => False
abbrev f64S : Sh := .sc (.float .f64)
def fromC : Con := { f := 7, ins := [i64S, i64S, i64S], out := .tup [f64S, i64S], id := "fromR", rel := fromR }
def toC : Con := { f := 6, ins := [f64S], out := .tup [i64S, i64S, i64S, i64S], id := "toR", rel := toR }
def wdC : Con := { f := 9, ins := [f64S], out := .tup [i64S, i64S], id := "wdR", rel := wdR }
theorem fv_flo (k : FloatKind) (n : Nat) : fv (.float k n) = n := rfl

def from_L0 : Prop := ∀ σ : Nat → Value,
    (σ 0 = .int .i64 (iv (σ 0))) →
    (σ 1 = .int .i64 (iv (σ 1))) →
    (σ 2 = .int .i64 (iv (σ 2))) →
    (iv (σ 0) < 1) →
    fromR [σ 0, σ 1, σ 2, (Value.float .f64 0), (Value.int .i64 81)]

def from_L1 : Prop := ∀ σ : Nat → Value,
    (σ 0 = .int .i64 (iv (σ 0))) →
    (σ 1 = .int .i64 (iv (σ 1))) →
    (σ 2 = .int .i64 (iv (σ 2))) →
    (9999 < iv (σ 0)) →
    (1 ≤ iv (σ 0)) →
    fromR [σ 0, σ 1, σ 2, (Value.float .f64 0), (Value.int .i64 81)]

def from_L2 : Prop := ∀ σ : Nat → Value,
    (σ 0 = .int .i64 (iv (σ 0))) →
    (σ 1 = .int .i64 (iv (σ 1))) →
    (σ 2 = .int .i64 (iv (σ 2))) →
    (iv (σ 1) < 1) →
    (iv (σ 0) ≤ 9999) →
    (1 ≤ iv (σ 0)) →
    fromR [σ 0, σ 1, σ 2, (Value.float .f64 0), (Value.int .i64 81)]

def from_L3 : Prop := ∀ σ : Nat → Value,
    (σ 0 = .int .i64 (iv (σ 0))) →
    (σ 1 = .int .i64 (iv (σ 1))) →
    (σ 2 = .int .i64 (iv (σ 2))) →
    (12 < iv (σ 1)) →
    (1 ≤ iv (σ 1)) →
    (iv (σ 0) ≤ 9999) →
    (1 ≤ iv (σ 0)) →
    fromR [σ 0, σ 1, σ 2, (Value.float .f64 0), (Value.int .i64 81)]

def from_L4 : Prop := ∀ σ : Nat → Value,
    (σ 0 = .int .i64 (iv (σ 0))) →
    (σ 1 = .int .i64 (iv (σ 1))) →
    (σ 2 = .int .i64 (iv (σ 2))) →
    (iv (σ 2) < 1) →
    (iv (σ 1) ≤ 12) →
    (1 ≤ iv (σ 1)) →
    (iv (σ 0) ≤ 9999) →
    (1 ≤ iv (σ 0)) →
    fromR [σ 0, σ 1, σ 2, (Value.float .f64 0), (Value.int .i64 81)]

def from_L5 : Prop := ∀ σ : Nat → Value,
    (σ 0 = .int .i64 (iv (σ 0))) →
    (σ 1 = .int .i64 (iv (σ 1))) →
    (σ 2 = .int .i64 (iv (σ 2))) →
    (σ 8 = .int .i64 (iv (σ 8))) →
    (monthR [σ 0, σ 1, σ 8]) →
    (iv (σ 8) < iv (σ 2)) →
    (1 ≤ iv (σ 2)) →
    (iv (σ 1) ≤ 12) →
    (1 ≤ iv (σ 1)) →
    (iv (σ 0) ≤ 9999) →
    (1 ≤ iv (σ 0)) →
    fromR [σ 0, σ 1, σ 2, (Value.float .f64 0), (Value.int .i64 81)]

def from_L6 : Prop := ∀ σ : Nat → Value,
    (σ 0 = .int .i64 (iv (σ 0))) →
    (σ 1 = .int .i64 (iv (σ 1))) →
    (σ 2 = .int .i64 (iv (σ 2))) →
    (σ 8 = .int .i64 (iv (σ 8))) →
    (σ 10 = .int .i64 (iv (σ 10))) →
    (σ 11 = .int .i64 (iv (σ 11))) →
    (σ 12 = .int .i64 (iv (σ 12))) →
    (σ 13 = .float .f64 (fv (σ 13))) →
    (monthR [σ 0, σ 1, σ 8]) →
    (daysR [σ 0, σ 1, σ 2, σ 10]) →
    (beginR [σ 11]) →
    (iv (σ 12) = IntKind.i64.wrap (iv (σ 10) - iv (σ 11))) →
    (fv (σ 13) = FloatKind.f64.nearest (iv (σ 12))) →
    (iv (σ 2) ≤ iv (σ 8)) →
    (1 ≤ iv (σ 2)) →
    (iv (σ 1) ≤ 12) →
    (1 ≤ iv (σ 1)) →
    (iv (σ 0) ≤ 9999) →
    (1 ≤ iv (σ 0)) →
    fromR [σ 0, σ 1, σ 2, σ 13, (Value.int .i64 0)]

def from_L7 : Prop := ∀ σ : Nat → Value,
    (σ 0 = .int .i64 (iv (σ 0))) →
    (σ 1 = .int .i64 (iv (σ 1))) →
    (σ 2 = .int .i64 (iv (σ 2))) →
    (σ 8 = .int .i64 (iv (σ 8))) →
    (monthR [σ 0, σ 1, σ 8]) →
    (¬ daysRPre [σ 0, σ 1, σ 2]) →
    (iv (σ 2) ≤ iv (σ 8)) →
    (1 ≤ iv (σ 2)) →
    (iv (σ 1) ≤ 12) →
    (1 ≤ iv (σ 1)) →
    (iv (σ 0) ≤ 9999) →
    (1 ≤ iv (σ 0)) →
    False

theorem from_tie : fromC.goals (cfgC Tryz.prog (entersOf Tryz.prog) X [monthC, daysC, beginC]) [] 2000 = (from_L0 ∧ from_L1 ∧ from_L2 ∧ from_L3 ∧ from_L4 ∧ from_L5 ∧ from_L6 ∧ from_L7 ∧ True) := by kernel_rfl
theorem from_ok {cond : World → Prop} (hs : Keeps cond) : fromC.ok Tryz.prog cond := by
  refine by_tie from_tie (by kernel_rfl) hs (all_cons (month_ok hs) (all_cons (days_ok hs) (all_cons (begin_ok hs) all_nil))) ⟨?_, ?_, ?_, ?_, ?_, ?_, ?_, ?_, trivial⟩ <;>
  · intro σ; intros; (simp only [monthR, daysRPre, daysR, beginR, fromR, okD, iv_int, fv_flo] at *)
    have c := monI_pos (iv (σ 0)) (iv (σ 1))
    have c1 := cum_bd (iv (σ 0)) (iv (σ 1))
    first
    | omega
    | (right; exact ⟨by omega, rfl, rfl⟩)
    | (right; exact ⟨by omega, trivial, trivial⟩)
    | (have c2 := yr_bd (y := iv (σ 0)) (by omega) (by omega)
       have c3 : dayI (iv (σ 0)) (iv (σ 1)) (iv (σ 2)) = yr (iv (σ 0)) + cum (iv (σ 0)) (iv (σ 1)) + iv (σ 2) - 1 := rfl
       (repeat (simp (disch := omega) only [IntWalk.i64_in] at *))
       have e : iv (σ 12) = dayI (iv (σ 0)) (iv (σ 1)) (iv (σ 2)) - 693593 := by omega
       simp only [e] at *
       left; exact ⟨by omega, trivial, ‹_›⟩)


def to_L0 : Prop := ∀ σ : Nat → Value,
    (σ 0 = .float .f64 (fv (σ 0))) →
    (σ 1 = .bool (bv (σ 1))) →
    (σ 3 = .int .u64 (iv (σ 3))) →
    (σ 4 = .int .u64 (iv (σ 4))) →
    (σ 5 = .float .f64 (fv (σ 5))) →
    (σ 6 = .bool (bv (σ 6))) →
    (σ 7 = .bool (bv (σ 7))) →
    (fcmpV .neq .f64 (fv (σ 0)) (fv (σ 0)) = some (.bool (bv (σ 1)))) →
    (extRel .fbits [σ 0] (σ 3)) →
    (ibin .andNot IntKind.u64 (iv (σ 3)) (9223372036854775808) = some (.int IntKind.u64 (iv (σ 4)))) →
    (extRel .ffrom [σ 4] (σ 5)) →
    (fcmpV .gtr .f64 (fv (σ 5)) (9218868437227405311) = some (.bool (bv (σ 6)))) →
    (bv (σ 7) = !(bv (σ 6))) →
    (bv (σ 7) = !true) →
    (bv (σ 1) = !true) →
    toR [σ 0, (Value.int .i64 0), (Value.int .i64 0), (Value.int .i64 0), (Value.int .i64 80)]

def to_L1 : Prop := ∀ σ : Nat → Value,
    (σ 0 = .float .f64 (fv (σ 0))) →
    (σ 1 = .bool (bv (σ 1))) →
    (σ 3 = .int .u64 (iv (σ 3))) →
    (σ 4 = .int .u64 (iv (σ 4))) →
    (σ 5 = .float .f64 (fv (σ 5))) →
    (σ 6 = .bool (bv (σ 6))) →
    (σ 7 = .bool (bv (σ 7))) →
    (σ 9 = .int .u64 (iv (σ 9))) →
    (σ 10 = .int .u64 (iv (σ 10))) →
    (σ 11 = .float .f64 (fv (σ 11))) →
    (fcmpV .neq .f64 (fv (σ 0)) (fv (σ 0)) = some (.bool (bv (σ 1)))) →
    (extRel .fbits [σ 0] (σ 3)) →
    (ibin .andNot IntKind.u64 (iv (σ 3)) (9223372036854775808) = some (.int IntKind.u64 (iv (σ 4)))) →
    (extRel .ffrom [σ 4] (σ 5)) →
    (fcmpV .gtr .f64 (fv (σ 5)) (9218868437227405311) = some (.bool (bv (σ 6)))) →
    (bv (σ 7) = !(bv (σ 6))) →
    (extRel .fbits [σ 0] (σ 9)) →
    (ibin .andNot IntKind.u64 (iv (σ 9)) (9223372036854775808) = some (.int IntKind.u64 (iv (σ 10)))) →
    (extRel .ffrom [σ 10] (σ 11)) →
    (ford (fv (σ 11)) (4726483295884279808) = some .gt) →
    (bv (σ 7) = !false) →
    (bv (σ 1) = !true) →
    toR [σ 0, (Value.int .i64 0), (Value.int .i64 0), (Value.int .i64 0), (Value.int .i64 81)]

def to_L2 : Prop := ∀ σ : Nat → Value,
    (σ 0 = .float .f64 (fv (σ 0))) →
    (σ 1 = .bool (bv (σ 1))) →
    (σ 3 = .int .u64 (iv (σ 3))) →
    (σ 4 = .int .u64 (iv (σ 4))) →
    (σ 5 = .float .f64 (fv (σ 5))) →
    (σ 6 = .bool (bv (σ 6))) →
    (σ 7 = .bool (bv (σ 7))) →
    (σ 9 = .int .u64 (iv (σ 9))) →
    (σ 10 = .int .u64 (iv (σ 10))) →
    (σ 11 = .float .f64 (fv (σ 11))) →
    (σ 13 = .float .f64 (fv (σ 13))) →
    (σ 14 = .int .i64 (iv (σ 14))) →
    (σ 15 = .int .i64 (iv (σ 15))) →
    (σ 16 = .int .i64 (iv (σ 16))) →
    (σ 17 = .int .i64 (iv (σ 17))) →
    (σ 18 = .bool (bv (σ 18))) →
    (fcmpV .neq .f64 (fv (σ 0)) (fv (σ 0)) = some (.bool (bv (σ 1)))) →
    (extRel .fbits [σ 0] (σ 3)) →
    (ibin .andNot IntKind.u64 (iv (σ 3)) (9223372036854775808) = some (.int IntKind.u64 (iv (σ 4)))) →
    (extRel .ffrom [σ 4] (σ 5)) →
    (fcmpV .gtr .f64 (fv (σ 5)) (9218868437227405311) = some (.bool (bv (σ 6)))) →
    (bv (σ 7) = !(bv (σ 6))) →
    (extRel .fbits [σ 0] (σ 9)) →
    (ibin .andNot IntKind.u64 (iv (σ 9)) (9223372036854775808) = some (.int IntKind.u64 (iv (σ 10)))) →
    (extRel .ffrom [σ 10] (σ 11)) →
    (extRel .floor [σ 0] (σ 13)) →
    (((∃ n, (FloatKind.f64.decode (fv (σ 13))).toInt .zero = some n ∧ IntKind.i64.min ≤ n ∧ n ≤ IntKind.i64.max ∧ iv (σ 14) = n) ∨ (∀ n, (FloatKind.f64.decode (fv (σ 13))).toInt .zero = some n → ¬ (IntKind.i64.min ≤ n ∧ n ≤ IntKind.i64.max)))) →
    (dateR [σ 14, σ 15, σ 16, σ 17, σ 18]) →
    (bv (σ 18) = !true) →
    (ford (fv (σ 11)) (4726483295884279808) ≠ some .gt) →
    (bv (σ 7) = !false) →
    (bv (σ 1) = !true) →
    toR [σ 0, (Value.int .i64 0), (Value.int .i64 0), (Value.int .i64 0), (Value.int .i64 81)]

def to_L3 : Prop := ∀ σ : Nat → Value,
    (σ 0 = .float .f64 (fv (σ 0))) →
    (σ 1 = .bool (bv (σ 1))) →
    (σ 3 = .int .u64 (iv (σ 3))) →
    (σ 4 = .int .u64 (iv (σ 4))) →
    (σ 5 = .float .f64 (fv (σ 5))) →
    (σ 6 = .bool (bv (σ 6))) →
    (σ 7 = .bool (bv (σ 7))) →
    (σ 9 = .int .u64 (iv (σ 9))) →
    (σ 10 = .int .u64 (iv (σ 10))) →
    (σ 11 = .float .f64 (fv (σ 11))) →
    (σ 13 = .float .f64 (fv (σ 13))) →
    (σ 14 = .int .i64 (iv (σ 14))) →
    (σ 15 = .int .i64 (iv (σ 15))) →
    (σ 16 = .int .i64 (iv (σ 16))) →
    (σ 17 = .int .i64 (iv (σ 17))) →
    (σ 18 = .bool (bv (σ 18))) →
    (fcmpV .neq .f64 (fv (σ 0)) (fv (σ 0)) = some (.bool (bv (σ 1)))) →
    (extRel .fbits [σ 0] (σ 3)) →
    (ibin .andNot IntKind.u64 (iv (σ 3)) (9223372036854775808) = some (.int IntKind.u64 (iv (σ 4)))) →
    (extRel .ffrom [σ 4] (σ 5)) →
    (fcmpV .gtr .f64 (fv (σ 5)) (9218868437227405311) = some (.bool (bv (σ 6)))) →
    (bv (σ 7) = !(bv (σ 6))) →
    (extRel .fbits [σ 0] (σ 9)) →
    (ibin .andNot IntKind.u64 (iv (σ 9)) (9223372036854775808) = some (.int IntKind.u64 (iv (σ 10)))) →
    (extRel .ffrom [σ 10] (σ 11)) →
    (extRel .floor [σ 0] (σ 13)) →
    (((∃ n, (FloatKind.f64.decode (fv (σ 13))).toInt .zero = some n ∧ IntKind.i64.min ≤ n ∧ n ≤ IntKind.i64.max ∧ iv (σ 14) = n) ∨ (∀ n, (FloatKind.f64.decode (fv (σ 13))).toInt .zero = some n → ¬ (IntKind.i64.min ≤ n ∧ n ≤ IntKind.i64.max)))) →
    (dateR [σ 14, σ 15, σ 16, σ 17, σ 18]) →
    (bv (σ 18) = !false) →
    (ford (fv (σ 11)) (4726483295884279808) ≠ some .gt) →
    (bv (σ 7) = !false) →
    (bv (σ 1) = !true) →
    toR [σ 0, σ 15, σ 16, σ 17, (Value.int .i64 0)]

def to_L4 : Prop := ∀ σ : Nat → Value,
    (σ 0 = .float .f64 (fv (σ 0))) →
    (σ 1 = .bool (bv (σ 1))) →
    (σ 3 = .int .u64 (iv (σ 3))) →
    (σ 4 = .int .u64 (iv (σ 4))) →
    (σ 5 = .float .f64 (fv (σ 5))) →
    (σ 6 = .bool (bv (σ 6))) →
    (σ 7 = .bool (bv (σ 7))) →
    (σ 9 = .int .u64 (iv (σ 9))) →
    (σ 10 = .int .u64 (iv (σ 10))) →
    (σ 11 = .float .f64 (fv (σ 11))) →
    (σ 13 = .float .f64 (fv (σ 13))) →
    (σ 14 = .int .i64 (iv (σ 14))) →
    (fcmpV .neq .f64 (fv (σ 0)) (fv (σ 0)) = some (.bool (bv (σ 1)))) →
    (extRel .fbits [σ 0] (σ 3)) →
    (ibin .andNot IntKind.u64 (iv (σ 3)) (9223372036854775808) = some (.int IntKind.u64 (iv (σ 4)))) →
    (extRel .ffrom [σ 4] (σ 5)) →
    (fcmpV .gtr .f64 (fv (σ 5)) (9218868437227405311) = some (.bool (bv (σ 6)))) →
    (bv (σ 7) = !(bv (σ 6))) →
    (extRel .fbits [σ 0] (σ 9)) →
    (ibin .andNot IntKind.u64 (iv (σ 9)) (9223372036854775808) = some (.int IntKind.u64 (iv (σ 10)))) →
    (extRel .ffrom [σ 10] (σ 11)) →
    (extRel .floor [σ 0] (σ 13)) →
    (((∃ n, (FloatKind.f64.decode (fv (σ 13))).toInt .zero = some n ∧ IntKind.i64.min ≤ n ∧ n ≤ IntKind.i64.max ∧ iv (σ 14) = n) ∨ (∀ n, (FloatKind.f64.decode (fv (σ 13))).toInt .zero = some n → ¬ (IntKind.i64.min ≤ n ∧ n ≤ IntKind.i64.max)))) →
    (¬ dateRPre [σ 14]) →
    (ford (fv (σ 11)) (4726483295884279808) ≠ some .gt) →
    (bv (σ 7) = !false) →
    (bv (σ 1) = !true) →
    False

def to_L5 : Prop := ∀ σ : Nat → Value,
    (σ 0 = .float .f64 (fv (σ 0))) →
    (σ 1 = .bool (bv (σ 1))) →
    (fcmpV .neq .f64 (fv (σ 0)) (fv (σ 0)) = some (.bool (bv (σ 1)))) →
    (bv (σ 1) = !false) →
    toR [σ 0, (Value.int .i64 0), (Value.int .i64 0), (Value.int .i64 0), (Value.int .i64 80)]

theorem to_tie : toC.goals (cfgC Tryz.prog (entersOf Tryz.prog) X [dateC]) [] 2000 = (to_L0 ∧ to_L1 ∧ to_L2 ∧ to_L3 ∧ to_L4 ∧ to_L5 ∧ True) := by kernel_rfl
theorem bits_1e8 : FloatKind.f64.nearest 100000000 = 4726483295884279808 := by kernel_rfl
theorem e8 : Fin64 4726483295884279808 ∧ sv 4726483295884279808 = 100000000 * KK := num_bits (by decide) (by decide) bits_1e8
theorem not_true {a b : Bool} (h : a = !b) (k : a = !true) : b = true := by cases b <;> simp_all
/-- What the two tests of 'finite' say. -/
theorem fin_tests {x y : Nat} {a b c : Bool} (h1 : fcmpV .neq .f64 x x = some (.bool a)) (ha : a = !true) (e : y = x % 2 ^ 63) (h2 : fcmpV .gtr .f64 y 9218868437227405311 = some (.bool b)) (h3 : c = !b) : c = true ↔ Fin64 x := by
  subst e
  have n : ¬ Nan64 x := fun h => by have := (cmp_neq_self h1).2 h; rw [ha] at this; cases this
  have k := cmp_abs_max h2 n
  subst h3
  cases b with
  | false => exact ⟨fun _ => k.1 rfl, fun _ => rfl⟩
  | true => exact ⟨fun h => (by cases h), fun h => (by have := k.2 h; cases this)⟩
theorem abs_gt {x y : Nat} (hf : Fin64 x) (e : y = x % 2 ^ 63) : (ford y 4726483295884279808 = some .gt ↔ (100000000 * KK < sv x ∨ sv x < -(100000000 * KK))) := by
  subst e
  obtain ⟨h1, h2⟩ := abs_fin hf
  rw [ford_fin h1 e8.1, e8.2, h2, Option.some.injEq, cmp_gt]
  split <;> omega
theorem flr_out {x : Nat} (h : 100000000 * KK < sv x ∨ sv x < -(100000000 * KK)) : flr x < -693593 ∨ 2958465 < flr x := by
  have := KK_pos
  rcases h with h | h
  · right
    have : 100000000 ≤ flr x := le_flr.2 (by omega)
    omega
  · left
    have : flr x < -100000000 := flr_lt.2 (by omega)
    omega
theorem flr_in {x : Nat} (h : ¬ (100000000 * KK < sv x ∨ sv x < -(100000000 * KK))) : -100000000 ≤ flr x ∧ flr x ≤ 100000000 := by
  have := KK_pos
  refine ⟨le_flr.2 (by omega), ?_⟩
  have : flr x < 100000001 := flr_lt.2 (by omega)
  omega
theorem to_L0_ok : to_L0 := by
  intro σ; intro s0 s1 s3 s4 s5 s6 s7; intros
  have a := abs_of s0 ‹extRel .fbits [σ 0] (σ 3)› ‹_› ‹_› ‹extRel .ffrom [σ 4] (σ 5)›
  have f := fin_tests ‹_› ‹_› a ‹_› ‹_›
  left
  refine ⟨fun h => ?_, rfl, rfl, rfl, rfl⟩
  have := f.2 h
  rw [‹bv (σ 7) = !true›] at this; cases this
theorem to_L5_ok : to_L5 := by
  intro σ; intros
  left
  refine ⟨fun h => ?_, rfl, rfl, rfl, rfl⟩
  have n := (cmp_neq_self ‹fcmpV .neq .f64 (fv (σ 0)) (fv (σ 0)) = _›).1 ‹_›
  unfold Nan64 at n; unfold Fin64 at h; omega
theorem to_L1_ok : to_L1 := by
  intro σ; intros
  have s0 := ‹σ 0 = .float .f64 (fv (σ 0))›
  have a5 := abs_of s0 ‹extRel .fbits [σ 0] (σ 3)› ‹_› ‹σ 4 = .int .u64 (iv (σ 4))› ‹extRel .ffrom [σ 4] (σ 5)›
  have f := (fin_tests ‹_› ‹_› a5 ‹_› ‹_›).1 ‹bv (σ 7) = !false›
  have a11 := abs_of s0 ‹extRel .fbits [σ 0] (σ 9)› ‹_› ‹σ 10 = .int .u64 (iv (σ 10))› ‹extRel .ffrom [σ 10] (σ 11)›
  have gt := abs_gt f a11
  right; left
  exact ⟨⟨f, flr_out (gt.1 ‹_›)⟩, rfl, rfl, rfl, rfl⟩
theorem to_L2_ok : to_L2 := by
  intro σ; intros
  have s0 := ‹σ 0 = .float .f64 (fv (σ 0))›
  have a5 := abs_of s0 ‹extRel .fbits [σ 0] (σ 3)› ‹_› ‹σ 4 = .int .u64 (iv (σ 4))› ‹extRel .ffrom [σ 4] (σ 5)›
  have f := (fin_tests ‹_› ‹_› a5 ‹_› ‹_›).1 ‹bv (σ 7) = !false›
  have a11 := abs_of s0 ‹extRel .fbits [σ 0] (σ 9)› ‹_› ‹σ 10 = .int .u64 (iv (σ 10))› ‹extRel .ffrom [σ 10] (σ 11)›
  have gt := abs_gt f a11
  have r := flr_in (fun h => ‹ford (fv (σ 11)) (4726483295884279808) ≠ some .gt› (gt.2 h))
  have k := floor_fv s0 ‹extRel .floor [σ 0] (σ 13)› f (by omega) (by omega)
  have n14 := f2i_iv (n := flr (fv (σ 0))) ‹(∃ n, _ ∧ _) ∨ _› k.1 (by rw [k.2]; exact tdiv_KK _) (by omega) (by omega)
  have d := ‹dateR _›
  simp only [dateR] at d
  rw [‹bv (σ 18) = !true›, n14] at d
  rcases d with ⟨h, _⟩ | ⟨_, h⟩
  · cases h
  · right; left
    exact ⟨⟨f, by omega⟩, rfl, rfl, rfl, rfl⟩
theorem to_L3_ok : to_L3 := by
  intro σ; intros
  have s0 := ‹σ 0 = .float .f64 (fv (σ 0))›
  have a5 := abs_of s0 ‹extRel .fbits [σ 0] (σ 3)› ‹_› ‹σ 4 = .int .u64 (iv (σ 4))› ‹extRel .ffrom [σ 4] (σ 5)›
  have f := (fin_tests ‹_› ‹_› a5 ‹_› ‹_›).1 ‹bv (σ 7) = !false›
  have a11 := abs_of s0 ‹extRel .fbits [σ 0] (σ 9)› ‹_› ‹σ 10 = .int .u64 (iv (σ 10))› ‹extRel .ffrom [σ 10] (σ 11)›
  have gt := abs_gt f a11
  have r := flr_in (fun h => ‹ford (fv (σ 11)) (4726483295884279808) ≠ some .gt› (gt.2 h))
  have k := floor_fv s0 ‹extRel .floor [σ 0] (σ 13)› f (by omega) (by omega)
  have n14 := f2i_iv (n := flr (fv (σ 0))) ‹(∃ n, _ ∧ _) ∨ _› k.1 (by rw [k.2]; exact tdiv_KK _) (by omega) (by omega)
  have d := ‹dateR _›
  simp only [dateR] at d
  rw [‹bv (σ 18) = !false›, n14] at d
  rcases d with ⟨_, h⟩ | ⟨h, _⟩
  · right; right
    exact ⟨f, rfl, h⟩
  · cases h
theorem to_L4_ok : to_L4 := by
  intro σ; intros
  have s0 := ‹σ 0 = .float .f64 (fv (σ 0))›
  have a5 := abs_of s0 ‹extRel .fbits [σ 0] (σ 3)› ‹_› ‹σ 4 = .int .u64 (iv (σ 4))› ‹extRel .ffrom [σ 4] (σ 5)›
  have f := (fin_tests ‹_› ‹_› a5 ‹_› ‹_›).1 ‹bv (σ 7) = !false›
  have a11 := abs_of s0 ‹extRel .fbits [σ 0] (σ 9)› ‹_› ‹σ 10 = .int .u64 (iv (σ 10))› ‹extRel .ffrom [σ 10] (σ 11)›
  have gt := abs_gt f a11
  have r := flr_in (fun h => ‹ford (fv (σ 11)) (4726483295884279808) ≠ some .gt› (gt.2 h))
  have k := floor_fv s0 ‹extRel .floor [σ 0] (σ 13)› f (by omega) (by omega)
  have n14 := f2i_iv (n := flr (fv (σ 0))) ‹(∃ n, _ ∧ _) ∨ _› k.1 (by rw [k.2]; exact tdiv_KK _) (by omega) (by omega)
  have d := ‹¬ dateRPre _›
  simp only [dateRPre] at d
  omega
theorem to_ok {cond : World → Prop} (hs : Keeps cond) : toC.ok Tryz.prog cond :=
  by_tie to_tie (by kernel_rfl) hs (all_cons (date_ok hs) all_nil) ⟨to_L0_ok, to_L1_ok, to_L2_ok, to_L3_ok, to_L4_ok, to_L5_ok, trivial⟩


def wd_L0 : Prop := ∀ σ : Nat → Value,
    (σ 0 = .float .f64 (fv (σ 0))) →
    (σ 1 = .int .i64 (iv (σ 1))) →
    (σ 2 = .int .i64 (iv (σ 2))) →
    (σ 3 = .int .i64 (iv (σ 3))) →
    (σ 4 = .int .i64 (iv (σ 4))) →
    (toR [σ 0, σ 1, σ 2, σ 3, σ 4]) →
    (iv (σ 4) ≠ 0) →
    wdR [σ 0, (Value.int .i64 0), σ 4]

def wd_L1 : Prop := ∀ σ : Nat → Value,
    (σ 0 = .float .f64 (fv (σ 0))) →
    (σ 1 = .int .i64 (iv (σ 1))) →
    (σ 2 = .int .i64 (iv (σ 2))) →
    (σ 3 = .int .i64 (iv (σ 3))) →
    (σ 4 = .int .i64 (iv (σ 4))) →
    (σ 6 = .int .i64 (iv (σ 6))) →
    (σ 7 = .int .i64 (iv (σ 7))) →
    (σ 8 = .int .i64 (iv (σ 8))) →
    (σ 9 = .int .i64 (iv (σ 9))) →
    (toR [σ 0, σ 1, σ 2, σ 3, σ 4]) →
    (daysR [σ 1, σ 2, σ 3, σ 6]) →
    (iv (σ 7) = IntKind.i64.wrap (iv (σ 6) + 1)) →
    (iv (σ 8) = (iv (σ 7) : Int).tmod (7)) →
    (iv (σ 9) = IntKind.i64.wrap (iv (σ 8) + 1)) →
    (iv (σ 4) = 0) →
    wdR [σ 0, σ 9, (Value.int .i64 0)]

def wd_L2 : Prop := ∀ σ : Nat → Value,
    (σ 0 = .float .f64 (fv (σ 0))) →
    (σ 1 = .int .i64 (iv (σ 1))) →
    (σ 2 = .int .i64 (iv (σ 2))) →
    (σ 3 = .int .i64 (iv (σ 3))) →
    (σ 4 = .int .i64 (iv (σ 4))) →
    (toR [σ 0, σ 1, σ 2, σ 3, σ 4]) →
    (¬ daysRPre [σ 1, σ 2, σ 3]) →
    (iv (σ 4) = 0) →
    False

theorem wd_tie : wdC.goals (cfgC Tryz.prog (entersOf Tryz.prog) X [toC, daysC]) [] 2000 = (wd_L0 ∧ wd_L1 ∧ wd_L2 ∧ True) := by kernel_rfl
theorem IsDate.pre {n y m d : Int} (h : IsDate n y m d) : 1 ≤ y ∧ y ≤ 10000 ∧ 1 ≤ m ∧ m ≤ 12 ∧ -100000 ≤ d ∧ d ≤ 100000 := by
  have := monI_pos y m
  have := h.y1; have := h.y2; have := h.m1; have := h.m2; have := h.d1; have := h.d2
  omega
theorem wd_L0_ok : wd_L0 := by
  intro σ; intros; (simp only [toR, wdR, iv_int] at *)
  rcases ‹_ ∨ _› with ⟨a, b, _⟩ | ⟨a, b, _⟩ | ⟨a, b, _⟩
  · left; exact ⟨a, b, trivial⟩
  · right; left; exact ⟨a, b, trivial⟩
  · omega
theorem wd_L1_ok : wd_L1 := by
  intro σ; intros; (simp only [daysR, toR, wdR, iv_int] at *)
  rcases ‹_ ∨ _› with ⟨a, b, _⟩ | ⟨a, b, _⟩ | ⟨a, b, c⟩
  · omega
  · omega
  · have d := c.day
    have r := c.range
    have e : iv (σ 6) = flr (fv (σ 0)) + 693593 := by omega
    (repeat (simp (disch := omega) only [IntWalk.i64_in, tmod_nn] at *))
    right; right
    refine ⟨⟨a, by omega, by omega⟩, trivial, by omega⟩
theorem wd_L2_ok : wd_L2 := by
  intro σ; intros; (simp only [daysRPre, toR] at *)
  rcases ‹_ ∨ _› with ⟨a, b, _⟩ | ⟨a, b, _⟩ | ⟨a, b, c⟩
  · omega
  · omega
  · have := IsDate.pre c
    omega
theorem wd_ok {cond : World → Prop} (hs : Keeps cond) : wdC.ok Tryz.prog cond :=
  by_tie wd_tie (by kernel_rfl) hs (all_cons (to_ok hs) (all_cons (days_ok hs) all_nil)) ⟨wd_L0_ok, wd_L1_ok, wd_L2_ok, trivial⟩

end Go.Proofs.Num
