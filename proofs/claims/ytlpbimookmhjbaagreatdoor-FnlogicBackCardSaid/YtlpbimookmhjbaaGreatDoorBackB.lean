/- The calendar in the functions of dates. -/
import Derived.Test.YtlpbimookmhjbaaGreatDoorRows
import Derived.Test.YtlpbimookmhjbaaGreatDoorFnlogicNamesCopy
import Derived.Test.YtlpbimookmhjbaaGreatDoorEvNamesS
import Derived.Test.YtlpbimookmhjbaaGreatDoorEvCon2
import Derived.Test.YtlpbimookmhjbaaGreatDoorDateMath
import Derived.Handy
namespace Go.Proofs.Back
open Go.Ev Go.Dates Go.RowKit Go.Proofs.YtlpbimookmhjbaaGreatDoor
abbrev vZ : Value := .int .i64 0
abbrev vO : Value := .int .i64 1
abbrev vI (n : Int) : Value := .int .i64 n
abbrev vT : Value := .bool true
abbrev vF : Value := .bool false
abbrev vE : Value := .string ⟨#[]⟩
abbrev vU : Value := .tuple #[]
abbrev vG (n : Nat) : Value := .float .f64 n
abbrev vS (b : Array UInt8) : Value := .string ⟨b⟩
abbrev i64S : Sh := .sc (.int .i64)
def rg (a b : Int) : Sh := .sc (.intIn .i64 (some a) (some b))
def int0 (n : Int) : Sh := .sc (.is (.int .i64 n))
def yes (b : Bool) : Sh := .sc (.is (.bool b))
def noT : Sh := .sc (.is (.string ⟨#[]⟩))
def dayS : Sh := .whole true (-693593) 2958465
def g (l : List Value) (n : Nat) : Int := iv (l.getD n (.tuple #[]))
def X : List (Nat × ExtOp) := [(30, .fbits), (20, .ffrom), (109, .floor), (134, .trunc)]
def okD (y m d : Int) : Prop := 1 ≤ y ∧ y ≤ 9999 ∧ 1 ≤ m ∧ m ≤ 12 ∧ 1 ≤ d ∧ d ≤ monI y m
def monthR : List Value → Prop | [y, m, r] => iv r = monI (iv y) (iv m) | _ => False
def daysR : List Value → Prop | [y, m, d, r] => iv r = dayI (iv y) (iv m) (iv d) | _ => False
def daysI (l : List Value) : Prop := 1 ≤ g l 3 ∧ g l 3 ≤ g l 1 ∧ g l 2 = yr (g l 0) + cum (g l 0) (g l 3)
def daysIM (l : List Value) : Nat := (g l 1 - g l 3).toNat
def beginR : List Value → Prop | [r] => iv r = 693593 | _ => False
def dateR : List Value → Prop | [n, y, m, d, _] => IsDate (iv n + 693593) (iv y) (iv m) (iv d) | _ => False
def yearI (l : List Value) : Prop := 1 ≤ g l 1 ∧ g l 1 ≤ 9999 ∧ yr (g l 1) ≤ g l 0
def yearIM (l : List Value) : Nat := (10000 - g l 1).toNat
def monthI (l : List Value) : Prop := 1 ≤ g l 2 ∧ g l 2 ≤ 12 ∧ yr (g l 1) + cum (g l 1) (g l 2) ≤ g l 0
def monthIM (l : List Value) : Nat := (12 - g l 2).toNat
def toWR : List Value → Prop | [n, _, y, m, d, _] => IsDate (iv n + 693593) (iv y) (iv m) (iv d) | _ => False
def fromWR : List Value → Prop
  | [y, m, d, x, _, e] => (okD (iv y) (iv m) (iv d) ∧ iv e = 0 ∧ iv x = dayI (iv y) (iv m) (iv d) - 693593) ∨ (¬ okD (iv y) (iv m) (iv d) ∧ iv e ≠ 0)
  | _ => False
def yOf (y m : Int) : Int := y + (m - 1) / 12
def mOf (m : Int) : Int := m - 12 * ((m - 1) / 12)
def dateOfRPre : List Value → Prop
  | [y, _, m, _, d, _] => 1 ≤ yOf (iv y) (iv m) ∧ yOf (iv y) (iv m) ≤ 9999 ∧ 1 ≤ iv d ∧ iv d ≤ monI (yOf (iv y) (iv m)) (mOf (iv m))
  | _ => False
def dateOfR : List Value → Prop
  | [y, _, m, _, d, _, x, _, ok] => bv ok = true ∧ iv x = dayI (yOf (iv y) (iv m)) (mOf (iv m)) (iv d) - 693593
  | _ => False
def lengthR : List Value → Prop | [y, m, r] => iv r = monI (iv y) (iv m) | _ => False
def lengthI (l : List Value) : Prop := monI (g l 0) (g l 1) ≤ g l 2 ∧ g l 2 ≤ 31
def lengthIM (l : List Value) : Nat := (g l 2).toNat
def monthC : Con := { f := 140, ins := [rg 1 10000, rg 1 12], out := rg 28 31, id := "monthR", rel := monthR }
def daysC : Con := { f := 141, ins := [rg 1 10000, rg 1 12, rg 1 31], out := rg 0 3652455, id := "daysR", rel := daysR }
def beginC : Con := { f := 142, ins := [], out := rg 693593 693593, id := "beginR", rel := beginR }
def dateC : Con := { f := 199, ins := [rg (-693593) 2958465], out := .tup [rg 1 9999, rg 1 12, rg 1 31, yes true], id := "dateR", rel := dateR }
def toC : Con := { f := 145, ins := [dayS], out := .tup [rg 1 9999, rg 1 12, rg 1 31, int0 0], id := "toWR", rel := toWR, mrg := [83] }
def fromC : Con := { f := 88, ins := [i64S, i64S, i64S], out := .tup [dayS, rg 0 1000], id := "fromWR", rel := fromWR }
def dateOfC : Con := { f := 144, ins := [.whole true 0 20000, .whole true (-100) 100, .whole true 1 31], out := .tup [dayS, .sc .bool], id := "dateOfR", pre := dateOfRPre, asks := true, rel := dateOfR }
def lengthC : Con := { f := 149, ins := [rg 1 9999, rg 1 12], out := rg 28 31, id := "lengthR", rel := lengthR }
def daysI_ : LSpec := ⟨"daysI", daysI, daysIM, some [0, 1], [(0, 0, 4000000), (1, 1, 13)]⟩
def yearI_ : LSpec := ⟨"yearI", yearI, yearIM, some [0], [(0, 1, 9999)]⟩
def monthI_ : LSpec := ⟨"monthI", monthI, monthIM, some [0, 6], [(0, 1, 12)]⟩
def lengthI_ : LSpec := ⟨"lengthI", lengthI, lengthIM, some [0, 1], [(0, 1, 31)]⟩
def outOf (c : Con) (l : List Value) : Prop := bdsM (omaskSh c.out) (newSh c.out 0).1 l
def daysROut (l : List Value) : Prop := outOf daysC l
def beginROut (l : List Value) : Prop := outOf beginC l
def dateROut (l : List Value) : Prop := outOf dateC l
def fromWROut (l : List Value) : Prop := outOf fromC l
def dateOfROut (l : List Value) : Prop := outOf dateOfC l
def lengthROut (l : List Value) : Prop := outOf lengthC l
theorem in1 {k : IntKind} {a b : Int} {v : Value} (h1 : a ≤ iv v) (h2 : iv v ≤ b) : bd1 (.intIn k (some a) (some b)) v := ⟨fun x e => by cases e; exact h1, fun x e => by cases e; exact h2⟩
theorem daysROut_of {r : Value} (h1 : 0 ≤ iv r) (h2 : iv r ≤ 3652455) : daysROut [r] := And.intro (in1 h1 h2) trivial
theorem beginROut_of {r : Value} (h : iv r = 693593) : beginROut [r] := And.intro (in1 (by omega) (by omega)) trivial
theorem lengthROut_of {r : Value} (h1 : 28 ≤ iv r) (h2 : iv r ≤ 31) : lengthROut [r] := And.intro (in1 h1 h2) trivial
theorem dateROut_of {y m d o : Value} (h1 : 1 ≤ iv y) (h2 : iv y ≤ 9999) (h3 : 1 ≤ iv m) (h4 : iv m ≤ 12) (h5 : 1 ≤ iv d) (h6 : iv d ≤ 31) : dateROut [y, m, d, o] := And.intro (in1 h1 h2) (And.intro (in1 h3 h4) (And.intro (in1 h5 h6) (And.intro trivial trivial)))
theorem fromWROut_of {x f e : Value} (h1 : -693593 ≤ iv x) (h2 : iv x ≤ 2958465) (h3 : 0 ≤ iv e) (h4 : iv e ≤ 1000) : fromWROut [x, f, e] := And.intro (in1 h1 h2) (And.intro trivial (And.intro (in1 h3 h4) trivial))
theorem dateOfROut_of {x f e : Value} (h1 : -693593 ≤ iv x) (h2 : iv x ≤ 2958465) : dateOfROut [x, f, e] := And.intro (in1 h1 h2) (And.intro trivial (And.intro trivial trivial))
set_option maxRecDepth 1000000
theorem tdiv_nn {a b : Int} (h : 0 ≤ a) : a.tdiv b = a / b := Int.tdiv_eq_ediv_of_nonneg h
theorem tmod_nn {a b : Int} (h : 0 ≤ a) : a.tmod b = a % b := Int.tmod_eq_emod_of_nonneg h
theorem g0 (a : Value) (l : List Value) : g (a :: l) 0 = iv a := rfl
theorem gs (a : Value) (l : List Value) (n : Nat) : g (a :: l) (n + 1) = g l n := rfl
theorem iv_int (k : IntKind) (n : Int) : iv (.int k n) = n := rfl
theorem bv_bool (b : Bool) : bv (.bool b) = b := rfl
theorem all_nil {p : Con → Prop} : ∀ c ∈ ([] : List Con), p c := fun _ h => by cases h
theorem all_cons {p : Con → Prop} {a : Con} {l : List Con} (h : p a) (t : ∀ c ∈ l, p c) : ∀ c ∈ a :: l, p c := fun c hc => by
  rcases List.mem_cons.1 hc with rfl | hc
  · exact h
  · exact t c hc
theorem mixed : Tryz.prog.follows .mixedOrders = true := by kernel_rfl
theorem extAt_get {f : Nat} {x : ExtOp} (h : (Tryz.prog.funcs[f]?).isSome = true) (hn : ((Tryz.prog.funcs[f]?.get h).name == "runtime.NumGoroutine") = false) (hb : (Tryz.prog.funcs[f]?.get h).body.isNone = true)
    (hn : Extern.findNext (Tryz.prog.funcs[f]?.get h) = none) (he : Extern.find (Tryz.prog.funcs[f]?.get h) = some x.sem) : ExtAt Tryz.prog f x :=
  extAt_of (Option.some_get h).symm ‹_› hb hn he
theorem exts_ok : ∀ p ∈ X, ExtAt Tryz.prog p.1 p.2 := by
  intro p hp
  simp only [X, List.mem_cons, List.not_mem_nil, or_false] at hp
  rcases hp with rfl | rfl | rfl | rfl <;> exact extAt_get (by kernel_rfl) (by kernel_rfl) (by kernel_rfl) (by kernel_rfl) (by kernel_rfl)
noncomputable def cfgB (base : Nat) (cons : List Con) : Cfg := { cfgG Tryz.prog base (entersOf Tryz.prog) X cons with summ := orSumm (conSumm cons) (summCopy 49 base) }
def All (_ : World) : Prop := True
theorem by_tie {c : Con} {cons : List Con} {K : List (Nat × Nat × LSpec)} {n : Nat} {Q : Prop} (tie : c.goals (cfgB c.base cons) K n = Q) (he : entersOf Tryz.prog c.f = true) (hc : ∀ c ∈ cons, c.ok Tryz.prog All) (h : Q) : c.ok Tryz.prog All := by
  have h' : c.goals (cfgB c.base cons) K n := by rw [tie]; exact h
  exact con_ok (C := cfgB c.base cons) (K := K) (n := n) mixed he (fun w hw => { (cfg_ok (B := w.heap.size) (G := c.base) (w0 := ⟨w, [], Tryz.prog⟩) rfl (fun _ h => h) exts_ok) with summ := orSumm_ok (conSumm_ok (cond := All) (fun _ _ => trivial) hc) (summCopy_ok copyAt) }) h'
def monthR_L0 : Prop := ∀ σ : Nat → Value,
 σ 0 = .int .i64 (iv (σ 0)) →
 1 ≤ iv (σ 0) →
 iv (σ 0) ≤ 10000 →
 σ 1 = .int .i64 (iv (σ 1)) →
 4 ≤ iv (σ 1) →
 iv (σ 1) ≤ 4 →
 iv (σ 1) = 4 →
    monthR [σ 0, σ 1, (vI 30)]
def monthR_L1 : Prop := ∀ σ : Nat → Value,
 σ 0 = .int .i64 (iv (σ 0)) →
 1 ≤ iv (σ 0) →
 iv (σ 0) ≤ 10000 →
 σ 1 = .int .i64 (iv (σ 1)) →
 6 ≤ iv (σ 1) →
 iv (σ 1) ≤ 6 →
 iv (σ 1) = 6 →
 iv (σ 1) ≠ 4 →
    monthR [σ 0, σ 1, (vI 30)]
def monthR_L2 : Prop := ∀ σ : Nat → Value,
 σ 0 = .int .i64 (iv (σ 0)) →
 1 ≤ iv (σ 0) →
 iv (σ 0) ≤ 10000 →
 σ 1 = .int .i64 (iv (σ 1)) →
 9 ≤ iv (σ 1) →
 iv (σ 1) ≤ 9 →
 iv (σ 1) = 9 →
 iv (σ 1) ≠ 6 →
 iv (σ 1) ≠ 4 →
    monthR [σ 0, σ 1, (vI 30)]
def monthR_L3 : Prop := ∀ σ : Nat → Value,
 σ 0 = .int .i64 (iv (σ 0)) →
 1 ≤ iv (σ 0) →
 iv (σ 0) ≤ 10000 →
 σ 1 = .int .i64 (iv (σ 1)) →
 11 ≤ iv (σ 1) →
 iv (σ 1) ≤ 11 →
 iv (σ 1) = 11 →
 iv (σ 1) ≠ 9 →
 iv (σ 1) ≠ 6 →
 iv (σ 1) ≠ 4 →
    monthR [σ 0, σ 1, (vI 30)]
def monthR_L4 : Prop := ∀ σ : Nat → Value,
 σ 0 = .int .i64 (iv (σ 0)) →
 1 ≤ iv (σ 0) →
 iv (σ 0) ≤ 10000 →
 σ 1 = .int .i64 (iv (σ 1)) →
 2 ≤ iv (σ 1) →
 iv (σ 1) ≤ 2 →
 σ 7 = .int .i64 (iv (σ 7)) →
 0 ≤ iv (σ 7) →
 iv (σ 7) ≤ 0 →
 σ 9 = .int .i64 (iv (σ 9)) →
 1 ≤ iv (σ 9) →
 iv (σ 9) ≤ 99 →
 iv (σ 7) = (iv (σ 0) : Int).tmod (4) →
 iv (σ 9) = (iv (σ 0) : Int).tmod (100) →
 iv (σ 9) ≠ 0 →
 iv (σ 7) = 0 →
 iv (σ 1) = 2 →
 iv (σ 1) ≠ 11 →
 iv (σ 1) ≠ 9 →
 iv (σ 1) ≠ 6 →
 iv (σ 1) ≠ 4 →
    monthR [σ 0, σ 1, (vI 29)]
def monthR_L5 : Prop := ∀ σ : Nat → Value,
 σ 0 = .int .i64 (iv (σ 0)) →
 1 ≤ iv (σ 0) →
 iv (σ 0) ≤ 10000 →
 σ 1 = .int .i64 (iv (σ 1)) →
 2 ≤ iv (σ 1) →
 iv (σ 1) ≤ 2 →
 σ 7 = .int .i64 (iv (σ 7)) →
 0 ≤ iv (σ 7) →
 iv (σ 7) ≤ 0 →
 σ 9 = .int .i64 (iv (σ 9)) →
 0 ≤ iv (σ 9) →
 iv (σ 9) ≤ 0 →
 σ 11 = .int .i64 (iv (σ 11)) →
 0 ≤ iv (σ 11) →
 iv (σ 11) ≤ 0 →
 iv (σ 7) = (iv (σ 0) : Int).tmod (4) →
 iv (σ 9) = (iv (σ 0) : Int).tmod (100) →
 iv (σ 11) = (iv (σ 0) : Int).tmod (400) →
 iv (σ 11) = 0 →
 iv (σ 9) = 0 →
 iv (σ 7) = 0 →
 iv (σ 1) = 2 →
 iv (σ 1) ≠ 11 →
 iv (σ 1) ≠ 9 →
 iv (σ 1) ≠ 6 →
 iv (σ 1) ≠ 4 →
    monthR [σ 0, σ 1, (vI 29)]
def monthR_L6 : Prop := ∀ σ : Nat → Value,
 σ 0 = .int .i64 (iv (σ 0)) →
 1 ≤ iv (σ 0) →
 iv (σ 0) ≤ 10000 →
 σ 1 = .int .i64 (iv (σ 1)) →
 2 ≤ iv (σ 1) →
 iv (σ 1) ≤ 2 →
 σ 7 = .int .i64 (iv (σ 7)) →
 0 ≤ iv (σ 7) →
 iv (σ 7) ≤ 0 →
 σ 9 = .int .i64 (iv (σ 9)) →
 0 ≤ iv (σ 9) →
 iv (σ 9) ≤ 0 →
 σ 11 = .int .i64 (iv (σ 11)) →
 1 ≤ iv (σ 11) →
 iv (σ 11) ≤ 399 →
 iv (σ 7) = (iv (σ 0) : Int).tmod (4) →
 iv (σ 9) = (iv (σ 0) : Int).tmod (100) →
 iv (σ 11) = (iv (σ 0) : Int).tmod (400) →
 iv (σ 11) ≠ 0 →
 iv (σ 9) = 0 →
 iv (σ 7) = 0 →
 iv (σ 1) = 2 →
 iv (σ 1) ≠ 11 →
 iv (σ 1) ≠ 9 →
 iv (σ 1) ≠ 6 →
 iv (σ 1) ≠ 4 →
    monthR [σ 0, σ 1, (vI 28)]
def monthR_L7 : Prop := ∀ σ : Nat → Value,
 σ 0 = .int .i64 (iv (σ 0)) →
 1 ≤ iv (σ 0) →
 iv (σ 0) ≤ 10000 →
 σ 1 = .int .i64 (iv (σ 1)) →
 2 ≤ iv (σ 1) →
 iv (σ 1) ≤ 2 →
 σ 7 = .int .i64 (iv (σ 7)) →
 1 ≤ iv (σ 7) →
 iv (σ 7) ≤ 3 →
 iv (σ 7) = (iv (σ 0) : Int).tmod (4) →
 iv (σ 7) ≠ 0 →
 iv (σ 1) = 2 →
 iv (σ 1) ≠ 11 →
 iv (σ 1) ≠ 9 →
 iv (σ 1) ≠ 6 →
 iv (σ 1) ≠ 4 →
    monthR [σ 0, σ 1, (vI 28)]
def monthR_L8 : Prop := ∀ σ : Nat → Value,
 σ 0 = .int .i64 (iv (σ 0)) →
 1 ≤ iv (σ 0) →
 iv (σ 0) ≤ 10000 →
 σ 1 = .int .i64 (iv (σ 1)) →
 1 ≤ iv (σ 1) →
 iv (σ 1) ≤ 12 →
 iv (σ 1) ≠ 2 →
 iv (σ 1) ≠ 11 →
 iv (σ 1) ≠ 9 →
 iv (σ 1) ≠ 6 →
 iv (σ 1) ≠ 4 →
    monthR [σ 0, σ 1, (vI 31)]
theorem monthR_tie : monthC.goals (cfgB monthC.base []) [] 2000 = (monthR_L0 ∧ monthR_L1 ∧ monthR_L2 ∧ monthR_L3 ∧ monthR_L4 ∧ monthR_L5 ∧ monthR_L6 ∧ monthR_L7 ∧ monthR_L8 ∧ True) := by kernel_rfl
theorem month_ok : monthC.ok Tryz.prog All := by
  refine by_tie monthR_tie (by kernel_rfl) (all_nil) ?_
  refine ⟨?_, ?_, ?_, ?_, ?_, ?_, ?_, ?_, ?_, trivial⟩ <;>
  · intro σ; intros; (simp only [monthR, iv_int] at *); (repeat (simp (disch := omega) only [tmod_nn] at *))
    simp only [monI, lp, leapI]
    first | omega | (split <;> omega) | (split <;> split <;> omega) | (split <;> split <;> split <;> omega)
def daysR_L0 : Prop := ∀ σ : Nat → Value,
 σ 0 = .int .i64 (iv (σ 0)) →
 1 ≤ iv (σ 0) →
 iv (σ 0) ≤ 10000 →
 σ 1 = .int .i64 (iv (σ 1)) →
 1 ≤ iv (σ 1) →
 iv (σ 1) ≤ 12 →
 σ 2 = .int .i64 (iv (σ 2)) →
 1 ≤ iv (σ 2) →
 iv (σ 2) ≤ 31 →
 σ 3 = .int .i64 (iv (σ 3)) →
 0 ≤ iv (σ 3) →
 iv (σ 3) ≤ 9999 →
 σ 4 = .int .i64 (iv (σ 4)) →
 0 ≤ iv (σ 4) →
 iv (σ 4) ≤ 3649635 →
 σ 5 = .int .i64 (iv (σ 5)) →
 0 ≤ iv (σ 5) →
 iv (σ 5) ≤ 2499 →
 σ 6 = .int .i64 (iv (σ 6)) →
 0 ≤ iv (σ 6) →
 iv (σ 6) ≤ 3652134 →
 σ 7 = .int .i64 (iv (σ 7)) →
 0 ≤ iv (σ 7) →
 iv (σ 7) ≤ 99 →
 σ 8 = .int .i64 (iv (σ 8)) →
 (-99) ≤ iv (σ 8) →
 iv (σ 8) ≤ 3652134 →
 σ 9 = .int .i64 (iv (σ 9)) →
 0 ≤ iv (σ 9) →
 iv (σ 9) ≤ 24 →
 σ 10 = .int .i64 (iv (σ 10)) →
 (-99) ≤ iv (σ 10) →
 iv (σ 10) ≤ 3652158 →
 iv (σ 3) = iv (σ 0) - 1 →
 iv (σ 4) = iv (σ 3) * 365 →
 iv (σ 5) = (iv (σ 3) : Int).tdiv (4) →
 iv (σ 6) = iv (σ 4) + iv (σ 5) →
 iv (σ 7) = (iv (σ 3) : Int).tdiv (100) →
 iv (σ 8) = iv (σ 6) - iv (σ 7) →
 iv (σ 9) = (iv (σ 3) : Int).tdiv (400) →
 iv (σ 10) = iv (σ 8) + iv (σ 9) →
    ((fitsL [.any, .any, (.intIn .i64 (some 0) (some 4000000)), (.intIn .i64 (some 1) (some 13)), .any, .any, .any, .any, .any, .any, .any, .any, .any, .any] [σ 0, σ 1, σ 10, vO, vU, vU, vU, vU, vU, vU, vU, vU, vU, vU] → ¬ daysI [σ 0, σ 1, σ 10, vO, vU, vU, vU, vU, vU, vU, vU, vU, vU, vU])) →
    False
def daysR_L1 : Prop := ∀ σ : Nat → Value,
 σ 0 = .int .i64 (iv (σ 0)) →
 1 ≤ iv (σ 0) →
 iv (σ 0) ≤ 10000 →
 σ 1 = .int .i64 (iv (σ 1)) →
 2 ≤ iv (σ 1) →
 iv (σ 1) ≤ 12 →
 σ 2 = .int .i64 (iv (σ 2)) →
 1 ≤ iv (σ 2) →
 iv (σ 2) ≤ 31 →
 σ 3 = .int .i64 (iv (σ 3)) →
 0 ≤ iv (σ 3) →
 iv (σ 3) ≤ 9999 →
 σ 4 = .int .i64 (iv (σ 4)) →
 0 ≤ iv (σ 4) →
 iv (σ 4) ≤ 3649635 →
 σ 5 = .int .i64 (iv (σ 5)) →
 0 ≤ iv (σ 5) →
 iv (σ 5) ≤ 2499 →
 σ 6 = .int .i64 (iv (σ 6)) →
 0 ≤ iv (σ 6) →
 iv (σ 6) ≤ 3652134 →
 σ 7 = .int .i64 (iv (σ 7)) →
 0 ≤ iv (σ 7) →
 iv (σ 7) ≤ 99 →
 σ 8 = .int .i64 (iv (σ 8)) →
 (-99) ≤ iv (σ 8) →
 iv (σ 8) ≤ 3652134 →
 σ 9 = .int .i64 (iv (σ 9)) →
 0 ≤ iv (σ 9) →
 iv (σ 9) ≤ 24 →
 σ 10 = .int .i64 (iv (σ 10)) →
 (-99) ≤ iv (σ 10) →
 iv (σ 10) ≤ 3652158 →
 σ 11 = .int .i64 (iv (σ 11)) →
 0 ≤ iv (σ 11) →
 iv (σ 11) ≤ 4000000 →
 σ 12 = .int .i64 (iv (σ 12)) →
 1 ≤ iv (σ 12) →
 iv (σ 12) ≤ 11 →
 σ 24 = .int .i64 (iv (σ 24)) →
 28 ≤ iv (σ 24) →
 iv (σ 24) ≤ 31 →
 σ 25 = .int .i64 (iv (σ 25)) →
 28 ≤ iv (σ 25) →
 iv (σ 25) ≤ 4000031 →
 σ 26 = .int .i64 (iv (σ 26)) →
 2 ≤ iv (σ 26) →
 iv (σ 26) ≤ 12 →
 iv (σ 3) = iv (σ 0) - 1 →
 iv (σ 4) = iv (σ 3) * 365 →
 iv (σ 5) = (iv (σ 3) : Int).tdiv (4) →
 iv (σ 6) = iv (σ 4) + iv (σ 5) →
 iv (σ 7) = (iv (σ 3) : Int).tdiv (100) →
 iv (σ 8) = iv (σ 6) - iv (σ 7) →
 iv (σ 9) = (iv (σ 3) : Int).tdiv (400) →
 iv (σ 10) = iv (σ 8) + iv (σ 9) →
 daysI [σ 0, σ 1, σ 11, σ 12, σ 13, σ 14, σ 15, σ 16, σ 17, σ 18, σ 19, σ 20, σ 21, σ 22] →
 monthR [σ 0, σ 12, σ 24] →
 iv (σ 25) = iv (σ 11) + iv (σ 24) →
 iv (σ 26) = iv (σ 12) + 1 →
    ((fitsL [.any, .any, (.intIn .i64 (some 0) (some 4000000)), (.intIn .i64 (some 1) (some 13)), .any, .any, .any, .any, .any, .any, .any, .any, .any, .any] [σ 0, σ 1, σ 25, σ 26, σ 12, σ 1, σ 23, σ 12, σ 26, σ 11, σ 0, σ 12, σ 24, σ 25] → daysI [σ 0, σ 1, σ 25, σ 26, σ 12, σ 1, σ 23, σ 12, σ 26, σ 11, σ 0, σ 12, σ 24, σ 25] → ¬ daysIM [σ 0, σ 1, σ 25, σ 26, σ 12, σ 1, σ 23, σ 12, σ 26, σ 11, σ 0, σ 12, σ 24, σ 25] < daysIM [σ 0, σ 1, σ 11, σ 12, σ 13, σ 14, σ 15, σ 16, σ 17, σ 18, σ 19, σ 20, σ 21, σ 22])) →
 iv (σ 12) < iv (σ 1) →
    False
def daysR_L2 : Prop := ∀ σ : Nat → Value,
 σ 0 = .int .i64 (iv (σ 0)) →
 1 ≤ iv (σ 0) →
 iv (σ 0) ≤ 10000 →
 σ 1 = .int .i64 (iv (σ 1)) →
 1 ≤ iv (σ 1) →
 iv (σ 1) ≤ 12 →
 σ 2 = .int .i64 (iv (σ 2)) →
 1 ≤ iv (σ 2) →
 iv (σ 2) ≤ 31 →
 σ 3 = .int .i64 (iv (σ 3)) →
 0 ≤ iv (σ 3) →
 iv (σ 3) ≤ 9999 →
 σ 4 = .int .i64 (iv (σ 4)) →
 0 ≤ iv (σ 4) →
 iv (σ 4) ≤ 3649635 →
 σ 5 = .int .i64 (iv (σ 5)) →
 0 ≤ iv (σ 5) →
 iv (σ 5) ≤ 2499 →
 σ 6 = .int .i64 (iv (σ 6)) →
 0 ≤ iv (σ 6) →
 iv (σ 6) ≤ 3652134 →
 σ 7 = .int .i64 (iv (σ 7)) →
 0 ≤ iv (σ 7) →
 iv (σ 7) ≤ 99 →
 σ 8 = .int .i64 (iv (σ 8)) →
 (-99) ≤ iv (σ 8) →
 iv (σ 8) ≤ 3652134 →
 σ 9 = .int .i64 (iv (σ 9)) →
 0 ≤ iv (σ 9) →
 iv (σ 9) ≤ 24 →
 σ 10 = .int .i64 (iv (σ 10)) →
 (-99) ≤ iv (σ 10) →
 iv (σ 10) ≤ 3652158 →
 σ 11 = .int .i64 (iv (σ 11)) →
 0 ≤ iv (σ 11) →
 iv (σ 11) ≤ 4000000 →
 σ 12 = .int .i64 (iv (σ 12)) →
 1 ≤ iv (σ 12) →
 iv (σ 12) ≤ 13 →
 σ 24 = .int .i64 (iv (σ 24)) →
 1 ≤ iv (σ 24) →
 iv (σ 24) ≤ 4000031 →
 σ 25 = .int .i64 (iv (σ 25)) →
 0 ≤ iv (σ 25) →
 iv (σ 25) ≤ 4000030 →
 iv (σ 3) = iv (σ 0) - 1 →
 iv (σ 4) = iv (σ 3) * 365 →
 iv (σ 5) = (iv (σ 3) : Int).tdiv (4) →
 iv (σ 6) = iv (σ 4) + iv (σ 5) →
 iv (σ 7) = (iv (σ 3) : Int).tdiv (100) →
 iv (σ 8) = iv (σ 6) - iv (σ 7) →
 iv (σ 9) = (iv (σ 3) : Int).tdiv (400) →
 iv (σ 10) = iv (σ 8) + iv (σ 9) →
 daysI [σ 0, σ 1, σ 11, σ 12, σ 13, σ 14, σ 15, σ 16, σ 17, σ 18, σ 19, σ 20, σ 21, σ 22] →
 iv (σ 24) = iv (σ 11) + iv (σ 2) →
 iv (σ 25) = iv (σ 24) - 1 →
 iv (σ 1) ≤ iv (σ 12) →
    daysROut [σ 25] ∧ daysR [σ 0, σ 1, σ 2, σ 25]
theorem daysR_tie : daysC.goals (cfgB daysC.base [monthC]) [(141, 3, daysI_)] 2000 = (daysR_L0 ∧ daysR_L1 ∧ daysR_L2 ∧ True) := by kernel_rfl
theorem days_L0_ok : daysR_L0 := by
  intro σ; intros
  (repeat (simp (disch := omega) only [tdiv_nn] at *))
  specialize ‹fitsL _ _ → ¬ daysI _› (by (simp only [fitsL, Sort_.fits]; repeat' (first | exact True.intro | (with_reducible refine And.intro ?_ ?_) | exact ⟨_, ‹_›⟩ | exact ⟨_, rfl⟩ | exact ⟨_, ‹_›, fun a h => by cases h; omega, fun b h => by cases h; omega⟩ | exact ⟨_, rfl, fun a h => by cases h; decide, fun b h => by cases h; decide⟩)))
  (simp only [daysI, g0, gs, iv_int] at *)
  have c := cum_one (iv (σ 0))
  have e : iv (σ 3) = iv (σ 0) - 1 := by omega
  simp only [e] at *
  unfold yr at *
  omega
theorem days_L1_ok : daysR_L1 := by
  intro σ; intros
  have hI := ‹daysI _›
  have hm := ‹monthR _›
  simp only [daysI, g0, gs] at hI
  simp only [monthR] at hm
  have c := cum_succ (iv (σ 0)) (iv (σ 12)) (by omega) (by omega)
  have c1 := monI_pos (iv (σ 0)) (iv (σ 12))
  have c2 := cum_bd (iv (σ 0)) (iv (σ 12))
  have c3 : yr (iv (σ 0)) ≤ 3652059 := by unfold yr; omega
  specialize ‹fitsL _ _ → daysI _ → ¬ (_ : Nat) < _› (by (simp only [fitsL, Sort_.fits]; repeat' (first | exact True.intro | (with_reducible refine And.intro ?_ ?_) | exact ⟨_, ‹_›⟩ | exact ⟨_, rfl⟩ | exact ⟨_, ‹_›, fun a h => by cases h; omega, fun b h => by cases h; omega⟩ | exact ⟨_, rfl, fun a h => by cases h; decide, fun b h => by cases h; decide⟩)))
  (simp only [daysI, daysIM, g0, gs] at *)
  have e : iv (σ 26) = iv (σ 12) + 1 := by omega
  simp only [e] at *
  omega
theorem dayI_top {y m d : Int} (h : okD y m d) : IsDate (dayI y m d) y m d := ⟨h.1, h.2.1, h.2.2.1, h.2.2.2.1, h.2.2.2.2.1, h.2.2.2.2.2, rfl⟩
theorem days_L2_ok : daysR_L2 := by
  intro σ; intros
  (simp only [daysR, daysI, g0, gs] at *)
  have c2 := cum_bd (iv (σ 0)) (iv (σ 12))
  have c3 : 0 ≤ yr (iv (σ 0)) ∧ yr (iv (σ 0)) ≤ 3652059 := by unfold yr; omega
  have e : iv (σ 12) = iv (σ 1) := by omega
  simp only [e] at *
  refine ⟨daysROut_of (by omega) (by omega), ?_⟩
  unfold dayI
  omega
theorem days_ok : daysC.ok Tryz.prog All := by
  refine by_tie daysR_tie (by kernel_rfl) (all_cons month_ok all_nil) ?_
  exact ⟨days_L0_ok, days_L1_ok, days_L2_ok, trivial⟩
def beginR_L0 : Prop := ∀ σ : Nat → Value,
 σ 0 = .int .i64 (iv (σ 0)) →
 0 ≤ iv (σ 0) →
 iv (σ 0) ≤ 3652455 →
 daysR [(vI 1899), (vI 12), (vI 30), σ 0] →
    beginROut [σ 0] ∧ beginR [σ 0]
theorem beginR_tie : beginC.goals (cfgB beginC.base [daysC]) [] 2000 = (beginR_L0 ∧ True) := by kernel_rfl
theorem begin_ok : beginC.ok Tryz.prog All := by
  refine by_tie beginR_tie (by kernel_rfl) (all_cons days_ok all_nil) ?_
  refine ⟨?_, trivial⟩
  intro σ; intros; (simp only [daysR, iv_int] at *)
  have : dayI 1899 12 30 = 693593 := by decide
  exact ⟨beginROut_of (by omega), by simp only [beginR]; omega⟩
def dateR_L0 : Prop := ∀ σ : Nat → Value,
 σ 0 = .int .i64 (iv (σ 0)) →
 (-693593) ≤ iv (σ 0) →
 iv (σ 0) ≤ 2958465 →
 σ 1 = .int .i64 (iv (σ 1)) →
 693593 ≤ iv (σ 1) →
 iv (σ 1) ≤ 693593 →
 σ 2 = .int .i64 (iv (σ 2)) →
 1 ≤ iv (σ 2) →
 iv (σ 2) ≤ 3652058 →
 σ 3 = .int .i64 (iv (σ 3)) →
 0 ≤ iv (σ 3) →
 iv (σ 3) ≤ 3652057 →
 beginR [σ 1] →
 iv (σ 2) = iv (σ 0) + iv (σ 1) →
 daysR [(vI 9999), (vI 12), (vI 31), σ 3] →
 iv (σ 3) < iv (σ 2) →
    False
def dateR_L1 : Prop := ∀ σ : Nat → Value,
 σ 0 = .int .i64 (iv (σ 0)) →
 (-693593) ≤ iv (σ 0) →
 iv (σ 0) ≤ 2958465 →
 σ 1 = .int .i64 (iv (σ 1)) →
 693593 ≤ iv (σ 1) →
 iv (σ 1) ≤ 693593 →
 σ 2 = .int .i64 (iv (σ 2)) →
 0 ≤ iv (σ 2) →
 iv (σ 2) ≤ 3652058 →
 σ 3 = .int .i64 (iv (σ 3)) →
 0 ≤ iv (σ 3) →
 iv (σ 3) ≤ 3652455 →
 σ 5 = .int .i64 (iv (σ 5)) →
 0 ≤ iv (σ 5) →
 iv (σ 5) ≤ 9978 →
 σ 6 = .int .i64 (iv (σ 6)) →
 1 ≤ iv (σ 6) →
 iv (σ 6) ≤ 9979 →
 beginR [σ 1] →
 iv (σ 2) = iv (σ 0) + iv (σ 1) →
 daysR [(vI 9999), (vI 12), (vI 31), σ 3] →
 iv (σ 5) = (iv (σ 2) : Int).tdiv (366) →
 iv (σ 6) = iv (σ 5) + 1 →
    ((fitsL [.any, (.intIn .i64 (some 1) (some 9999)), .any, .any, .any, .any, .any, .any, .any] [σ 2, σ 6, vU, vU, vU, vU, vU, vU, vU] → ¬ yearI [σ 2, σ 6, vU, vU, vU, vU, vU, vU, vU])) →
 iv (σ 2) ≤ iv (σ 3) →
    False
def dateR_L2 : Prop := ∀ σ : Nat → Value,
 σ 0 = .int .i64 (iv (σ 0)) →
 (-693593) ≤ iv (σ 0) →
 iv (σ 0) ≤ 2958465 →
 σ 1 = .int .i64 (iv (σ 1)) →
 693593 ≤ iv (σ 1) →
 iv (σ 1) ≤ 693593 →
 σ 2 = .int .i64 (iv (σ 2)) →
 0 ≤ iv (σ 2) →
 iv (σ 2) ≤ 3652058 →
 σ 3 = .int .i64 (iv (σ 3)) →
 0 ≤ iv (σ 3) →
 iv (σ 3) ≤ 3652455 →
 σ 5 = .int .i64 (iv (σ 5)) →
 0 ≤ iv (σ 5) →
 iv (σ 5) ≤ 9978 →
 σ 6 = .int .i64 (iv (σ 6)) →
 1 ≤ iv (σ 6) →
 iv (σ 6) ≤ 9979 →
 σ 7 = .int .i64 (iv (σ 7)) →
 1 ≤ iv (σ 7) →
 iv (σ 7) ≤ 9999 →
 σ 15 = .int .i64 (iv (σ 15)) →
 2 ≤ iv (σ 15) →
 iv (σ 15) ≤ 10000 →
 σ 16 = .int .i64 (iv (σ 16)) →
 0 ≤ iv (σ 16) →
 iv (σ 16) ≤ 3652058 →
 beginR [σ 1] →
 iv (σ 2) = iv (σ 0) + iv (σ 1) →
 daysR [(vI 9999), (vI 12), (vI 31), σ 3] →
 iv (σ 5) = (iv (σ 2) : Int).tdiv (366) →
 iv (σ 6) = iv (σ 5) + 1 →
 yearI [σ 2, σ 7, σ 8, σ 9, σ 10, σ 11, σ 12, σ 13, σ 14] →
 iv (σ 15) = iv (σ 7) + 1 →
 daysR [σ 15, vO, vO, σ 16] →
    ((fitsL [.any, (.intIn .i64 (some 1) (some 9999)), .any, .any, .any, .any, .any, .any, .any] [σ 2, σ 15, σ 7, σ 15, σ 16, σ 2, σ 17, σ 7, σ 15] → yearI [σ 2, σ 15, σ 7, σ 15, σ 16, σ 2, σ 17, σ 7, σ 15] → ¬ yearIM [σ 2, σ 15, σ 7, σ 15, σ 16, σ 2, σ 17, σ 7, σ 15] < yearIM [σ 2, σ 7, σ 8, σ 9, σ 10, σ 11, σ 12, σ 13, σ 14])) →
 iv (σ 16) ≤ iv (σ 2) →
 iv (σ 2) ≤ iv (σ 3) →
    False
def dateR_L3 : Prop := ∀ σ : Nat → Value,
 σ 0 = .int .i64 (iv (σ 0)) →
 (-693593) ≤ iv (σ 0) →
 iv (σ 0) ≤ 2958465 →
 σ 1 = .int .i64 (iv (σ 1)) →
 693593 ≤ iv (σ 1) →
 iv (σ 1) ≤ 693593 →
 σ 2 = .int .i64 (iv (σ 2)) →
 0 ≤ iv (σ 2) →
 iv (σ 2) ≤ 3652058 →
 σ 3 = .int .i64 (iv (σ 3)) →
 0 ≤ iv (σ 3) →
 iv (σ 3) ≤ 3652455 →
 σ 5 = .int .i64 (iv (σ 5)) →
 0 ≤ iv (σ 5) →
 iv (σ 5) ≤ 9978 →
 σ 6 = .int .i64 (iv (σ 6)) →
 1 ≤ iv (σ 6) →
 iv (σ 6) ≤ 9979 →
 σ 7 = .int .i64 (iv (σ 7)) →
 1 ≤ iv (σ 7) →
 iv (σ 7) ≤ 9999 →
 σ 15 = .int .i64 (iv (σ 15)) →
 2 ≤ iv (σ 15) →
 iv (σ 15) ≤ 10000 →
 σ 16 = .int .i64 (iv (σ 16)) →
 1 ≤ iv (σ 16) →
 iv (σ 16) ≤ 3652455 →
 beginR [σ 1] →
 iv (σ 2) = iv (σ 0) + iv (σ 1) →
 daysR [(vI 9999), (vI 12), (vI 31), σ 3] →
 iv (σ 5) = (iv (σ 2) : Int).tdiv (366) →
 iv (σ 6) = iv (σ 5) + 1 →
 yearI [σ 2, σ 7, σ 8, σ 9, σ 10, σ 11, σ 12, σ 13, σ 14] →
 iv (σ 15) = iv (σ 7) + 1 →
 daysR [σ 15, vO, vO, σ 16] →
    ((fitsL [.any, .any, (.intIn .i64 (some 1) (some 12)), .any, .any, .any, .any, .any, .any, .any, .any, .any, .any, .any, .any] [σ 2, σ 7, vO, vU, vU, vU, vU, vU, vU, vU, vU, vU, vU, vU, vU] → ¬ monthI [σ 2, σ 7, vO, vU, vU, vU, vU, vU, vU, vU, vU, vU, vU, vU, vU])) →
 iv (σ 2) < iv (σ 16) →
 iv (σ 2) ≤ iv (σ 3) →
    False
def dateR_L4 : Prop := ∀ σ : Nat → Value,
 σ 0 = .int .i64 (iv (σ 0)) →
 (-693593) ≤ iv (σ 0) →
 iv (σ 0) ≤ 2958465 →
 σ 1 = .int .i64 (iv (σ 1)) →
 693593 ≤ iv (σ 1) →
 iv (σ 1) ≤ 693593 →
 σ 2 = .int .i64 (iv (σ 2)) →
 0 ≤ iv (σ 2) →
 iv (σ 2) ≤ 3652058 →
 σ 3 = .int .i64 (iv (σ 3)) →
 0 ≤ iv (σ 3) →
 iv (σ 3) ≤ 3652455 →
 σ 5 = .int .i64 (iv (σ 5)) →
 0 ≤ iv (σ 5) →
 iv (σ 5) ≤ 9978 →
 σ 6 = .int .i64 (iv (σ 6)) →
 1 ≤ iv (σ 6) →
 iv (σ 6) ≤ 9979 →
 σ 7 = .int .i64 (iv (σ 7)) →
 1 ≤ iv (σ 7) →
 iv (σ 7) ≤ 9999 →
 σ 15 = .int .i64 (iv (σ 15)) →
 2 ≤ iv (σ 15) →
 iv (σ 15) ≤ 10000 →
 σ 16 = .int .i64 (iv (σ 16)) →
 1 ≤ iv (σ 16) →
 iv (σ 16) ≤ 3652455 →
 σ 18 = .int .i64 (iv (σ 18)) →
 1 ≤ iv (σ 18) →
 iv (σ 18) ≤ 11 →
 σ 32 = .int .i64 (iv (σ 32)) →
 2 ≤ iv (σ 32) →
 iv (σ 32) ≤ 12 →
 σ 33 = .int .i64 (iv (σ 33)) →
 0 ≤ iv (σ 33) →
 iv (σ 33) ≤ 3652058 →
 beginR [σ 1] →
 iv (σ 2) = iv (σ 0) + iv (σ 1) →
 daysR [(vI 9999), (vI 12), (vI 31), σ 3] →
 iv (σ 5) = (iv (σ 2) : Int).tdiv (366) →
 iv (σ 6) = iv (σ 5) + 1 →
 yearI [σ 2, σ 7, σ 8, σ 9, σ 10, σ 11, σ 12, σ 13, σ 14] →
 iv (σ 15) = iv (σ 7) + 1 →
 daysR [σ 15, vO, vO, σ 16] →
 monthI [σ 2, σ 7, σ 18, σ 19, σ 20, σ 21, σ 22, σ 23, σ 24, σ 25, σ 26, σ 27, σ 28, σ 29, σ 30] →
 iv (σ 32) = iv (σ 18) + 1 →
 daysR [σ 7, σ 32, vO, σ 33] →
    ((fitsL [.any, .any, (.intIn .i64 (some 1) (some 12)), .any, .any, .any, .any, .any, .any, .any, .any, .any, .any, .any, .any] [σ 2, σ 7, σ 32, σ 18, σ 31, σ 31, σ 7, σ 18, σ 32, σ 33, σ 2, σ 34, σ 34, σ 18, σ 32] → monthI [σ 2, σ 7, σ 32, σ 18, σ 31, σ 31, σ 7, σ 18, σ 32, σ 33, σ 2, σ 34, σ 34, σ 18, σ 32] → ¬ monthIM [σ 2, σ 7, σ 32, σ 18, σ 31, σ 31, σ 7, σ 18, σ 32, σ 33, σ 2, σ 34, σ 34, σ 18, σ 32] < monthIM [σ 2, σ 7, σ 18, σ 19, σ 20, σ 21, σ 22, σ 23, σ 24, σ 25, σ 26, σ 27, σ 28, σ 29, σ 30])) →
 iv (σ 33) ≤ iv (σ 2) →
 iv (σ 18) < 12 →
 iv (σ 2) < iv (σ 16) →
 iv (σ 2) ≤ iv (σ 3) →
    False
def dateR_L5 : Prop := ∀ σ : Nat → Value,
 σ 0 = .int .i64 (iv (σ 0)) →
 (-693593) ≤ iv (σ 0) →
 iv (σ 0) ≤ 2958465 →
 σ 1 = .int .i64 (iv (σ 1)) →
 693593 ≤ iv (σ 1) →
 iv (σ 1) ≤ 693593 →
 σ 2 = .int .i64 (iv (σ 2)) →
 0 ≤ iv (σ 2) →
 iv (σ 2) ≤ 3652058 →
 σ 3 = .int .i64 (iv (σ 3)) →
 0 ≤ iv (σ 3) →
 iv (σ 3) ≤ 3652455 →
 σ 5 = .int .i64 (iv (σ 5)) →
 0 ≤ iv (σ 5) →
 iv (σ 5) ≤ 9978 →
 σ 6 = .int .i64 (iv (σ 6)) →
 1 ≤ iv (σ 6) →
 iv (σ 6) ≤ 9979 →
 σ 7 = .int .i64 (iv (σ 7)) →
 1 ≤ iv (σ 7) →
 iv (σ 7) ≤ 9999 →
 σ 15 = .int .i64 (iv (σ 15)) →
 2 ≤ iv (σ 15) →
 iv (σ 15) ≤ 10000 →
 σ 16 = .int .i64 (iv (σ 16)) →
 1 ≤ iv (σ 16) →
 iv (σ 16) ≤ 3652455 →
 σ 18 = .int .i64 (iv (σ 18)) →
 1 ≤ iv (σ 18) →
 iv (σ 18) ≤ 11 →
 σ 32 = .int .i64 (iv (σ 32)) →
 2 ≤ iv (σ 32) →
 iv (σ 32) ≤ 12 →
 σ 33 = .int .i64 (iv (σ 33)) →
 1 ≤ iv (σ 33) →
 iv (σ 33) ≤ 3652455 →
 σ 35 = .int .i64 (iv (σ 35)) →
 0 ≤ iv (σ 35) →
 iv (σ 35) ≤ 3652455 →
 σ 36 = .int .i64 (iv (σ 36)) →
 (-3652455) ≤ iv (σ 36) →
 iv (σ 36) ≤ 3652058 →
 σ 37 = .int .i64 (iv (σ 37)) →
 (-3652454) ≤ iv (σ 37) →
 iv (σ 37) ≤ 3652059 →
 beginR [σ 1] →
 iv (σ 2) = iv (σ 0) + iv (σ 1) →
 daysR [(vI 9999), (vI 12), (vI 31), σ 3] →
 iv (σ 5) = (iv (σ 2) : Int).tdiv (366) →
 iv (σ 6) = iv (σ 5) + 1 →
 yearI [σ 2, σ 7, σ 8, σ 9, σ 10, σ 11, σ 12, σ 13, σ 14] →
 iv (σ 15) = iv (σ 7) + 1 →
 daysR [σ 15, vO, vO, σ 16] →
 monthI [σ 2, σ 7, σ 18, σ 19, σ 20, σ 21, σ 22, σ 23, σ 24, σ 25, σ 26, σ 27, σ 28, σ 29, σ 30] →
 iv (σ 32) = iv (σ 18) + 1 →
 daysR [σ 7, σ 32, vO, σ 33] →
 daysR [σ 7, σ 18, vO, σ 35] →
 iv (σ 36) = iv (σ 2) - iv (σ 35) →
 iv (σ 37) = iv (σ 36) + 1 →
 iv (σ 2) < iv (σ 33) →
 iv (σ 18) < 12 →
 iv (σ 2) < iv (σ 16) →
 iv (σ 2) ≤ iv (σ 3) →
    dateROut [σ 7, σ 18, σ 37, vT] ∧ dateR [σ 0, σ 7, σ 18, σ 37, vT]
def dateR_L6 : Prop := ∀ σ : Nat → Value,
 σ 0 = .int .i64 (iv (σ 0)) →
 (-693593) ≤ iv (σ 0) →
 iv (σ 0) ≤ 2958465 →
 σ 1 = .int .i64 (iv (σ 1)) →
 693593 ≤ iv (σ 1) →
 iv (σ 1) ≤ 693593 →
 σ 2 = .int .i64 (iv (σ 2)) →
 0 ≤ iv (σ 2) →
 iv (σ 2) ≤ 3652058 →
 σ 3 = .int .i64 (iv (σ 3)) →
 0 ≤ iv (σ 3) →
 iv (σ 3) ≤ 3652455 →
 σ 5 = .int .i64 (iv (σ 5)) →
 0 ≤ iv (σ 5) →
 iv (σ 5) ≤ 9978 →
 σ 6 = .int .i64 (iv (σ 6)) →
 1 ≤ iv (σ 6) →
 iv (σ 6) ≤ 9979 →
 σ 7 = .int .i64 (iv (σ 7)) →
 1 ≤ iv (σ 7) →
 iv (σ 7) ≤ 9999 →
 σ 15 = .int .i64 (iv (σ 15)) →
 2 ≤ iv (σ 15) →
 iv (σ 15) ≤ 10000 →
 σ 16 = .int .i64 (iv (σ 16)) →
 1 ≤ iv (σ 16) →
 iv (σ 16) ≤ 3652455 →
 σ 18 = .int .i64 (iv (σ 18)) →
 12 ≤ iv (σ 18) →
 iv (σ 18) ≤ 12 →
 σ 32 = .int .i64 (iv (σ 32)) →
 0 ≤ iv (σ 32) →
 iv (σ 32) ≤ 3652455 →
 σ 33 = .int .i64 (iv (σ 33)) →
 (-3652455) ≤ iv (σ 33) →
 iv (σ 33) ≤ 3652058 →
 σ 34 = .int .i64 (iv (σ 34)) →
 (-3652454) ≤ iv (σ 34) →
 iv (σ 34) ≤ 3652059 →
 beginR [σ 1] →
 iv (σ 2) = iv (σ 0) + iv (σ 1) →
 daysR [(vI 9999), (vI 12), (vI 31), σ 3] →
 iv (σ 5) = (iv (σ 2) : Int).tdiv (366) →
 iv (σ 6) = iv (σ 5) + 1 →
 yearI [σ 2, σ 7, σ 8, σ 9, σ 10, σ 11, σ 12, σ 13, σ 14] →
 iv (σ 15) = iv (σ 7) + 1 →
 daysR [σ 15, vO, vO, σ 16] →
 monthI [σ 2, σ 7, σ 18, σ 19, σ 20, σ 21, σ 22, σ 23, σ 24, σ 25, σ 26, σ 27, σ 28, σ 29, σ 30] →
 daysR [σ 7, σ 18, vO, σ 32] →
 iv (σ 33) = iv (σ 2) - iv (σ 32) →
 iv (σ 34) = iv (σ 33) + 1 →
 12 ≤ iv (σ 18) →
 iv (σ 2) < iv (σ 16) →
 iv (σ 2) ≤ iv (σ 3) →
    dateROut [σ 7, σ 18, σ 34, vT] ∧ dateR [σ 0, σ 7, σ 18, σ 34, vT]
theorem dateR_tie : dateC.goals (cfgB dateC.base [daysC, beginC]) [(199, 5, yearI_), (199, 8, monthI_)] 2000 = (dateR_L0 ∧ dateR_L1 ∧ dateR_L2 ∧ dateR_L3 ∧ dateR_L4 ∧ dateR_L5 ∧ dateR_L6 ∧ True) := by kernel_rfl
theorem yr_10000 : yr 10000 = 3652059 := by decide
theorem last_day : dayI 9999 12 31 = 3652058 := by decide
theorem dayI_1 (y m : Int) : dayI y m 1 = yr y + cum y m := by unfold dayI; omega
theorem yr_le (n : Int) (h : 0 ≤ n) (h2 : n ≤ 3652058) : 1 ≤ n / 366 + 1 ∧ n / 366 + 1 ≤ 9999 ∧ yr (n / 366 + 1) ≤ n := by unfold yr; omega
theorem date_L0_ok : dateR_L0 := by
  intro σ; intros; (simp only [daysR, beginR, iv_int] at *); have := last_day; omega
theorem date_L1_ok : dateR_L1 := by
  intro σ; intros
  specialize ‹fitsL _ _ → ¬ yearI _› (by (simp only [fitsL, Sort_.fits]; repeat' (first | exact True.intro | (with_reducible refine And.intro ?_ ?_) | exact ⟨_, ‹_›⟩ | exact ⟨_, rfl⟩ | exact ⟨_, ‹_›, fun a h => by cases h; omega, fun b h => by cases h; omega⟩ | exact ⟨_, rfl, fun a h => by cases h; decide, fun b h => by cases h; decide⟩)))
  (simp only [daysR, beginR, yearI, g0, gs, iv_int] at *); (repeat (simp (disch := omega) only [tdiv_nn] at *))
  have := last_day
  have c := yr_le (iv (σ 2)) (by omega) (by omega)
  have e : iv (σ 6) = iv (σ 2) / 366 + 1 := by omega
  rw [← e] at c
  omega
theorem date_L2_ok : dateR_L2 := by
  intro σ; intros
  have hI := ‹yearI _›
  simp only [yearI, g0, gs] at hI
  have hb := ‹beginR _›
  simp only [beginR] at hb
  have hd := ‹daysR [σ 15, _, _, _]›
  simp only [daysR, iv_int, dayI_1, cum_one] at hd
  have c : iv (σ 15) = iv (σ 7) + 1 := by omega
  have c2 : iv (σ 7) ≠ 9999 := by
    intro e
    have e1 : iv (σ 15) = 10000 := by omega
    simp only [e1] at hd
    have := yr_10000
    omega
  specialize ‹fitsL _ _ → yearI _ → ¬ (_ : Nat) < _› (by (simp only [fitsL, Sort_.fits]; repeat' (first | exact True.intro | (with_reducible refine And.intro ?_ ?_) | exact ⟨_, ‹_›⟩ | exact ⟨_, rfl⟩ | exact ⟨_, ‹_›, fun a h => by cases h; omega, fun b h => by cases h; omega⟩ | exact ⟨_, rfl, fun a h => by cases h; decide, fun b h => by cases h; decide⟩)))
  (simp only [yearI, yearIM, g0, gs] at *)
  have := last_day
  simp only [c] at *
  omega
theorem date_L3_ok : dateR_L3 := by
  intro σ; intros
  specialize ‹fitsL _ _ → ¬ monthI _› (by (simp only [fitsL, Sort_.fits]; repeat' (first | exact True.intro | (with_reducible refine And.intro ?_ ?_) | exact ⟨_, ‹_›⟩ | exact ⟨_, rfl⟩ | exact ⟨_, ‹_›, fun a h => by cases h; omega, fun b h => by cases h; omega⟩ | exact ⟨_, rfl, fun a h => by cases h; decide, fun b h => by cases h; decide⟩)))
  (simp only [daysR, beginR, yearI, monthI, g0, gs, iv_int] at *)
  have := cum_one (iv (σ 7))
  omega
theorem date_L4_ok : dateR_L4 := by
  intro σ; intros
  specialize ‹fitsL _ _ → monthI _ → ¬ (_ : Nat) < _› (by (simp only [fitsL, Sort_.fits]; repeat' (first | exact True.intro | (with_reducible refine And.intro ?_ ?_) | exact ⟨_, ‹_›⟩ | exact ⟨_, rfl⟩ | exact ⟨_, ‹_›, fun a h => by cases h; omega, fun b h => by cases h; omega⟩ | exact ⟨_, rfl, fun a h => by cases h; decide, fun b h => by cases h; decide⟩)))
  (simp only [daysR, beginR, yearI, monthI, monthIM, g0, gs, iv_int] at *)
  simp only [dayI_1] at *
  omega
theorem date_fin {n y m a : Int} (h1 : 1 ≤ y) (h2 : y ≤ 9999) (h3 : 1 ≤ m) (h4 : m ≤ 12) (h5 : yr y + cum y m ≤ n) (h6 : n < yr y + cum y (m + 1)) (e : a = n - (yr y + cum y m) + 1) : IsDate n y m a := by
  have := cum_succ y m h3 h4
  exact { y1 := h1, y2 := h2, m1 := h3, m2 := h4, d1 := by omega, d2 := by omega, day := by unfold dayI; omega }
theorem date_out {n y m d : Value} {o : Value} (h : IsDate (iv n + 693593) (iv y) (iv m) (iv d)) : dateROut [y, m, d, o] ∧ dateR [n, y, m, d, o] := by
  have := monI_pos (iv y) (iv m)
  have h2 := h.d2
  exact ⟨dateROut_of h.y1 h.y2 h.m1 h.m2 h.d1 (by omega), h⟩
theorem date_L5_ok : dateR_L5 := by
  intro σ; intros; (simp only [daysR, beginR, yearI, monthI, g0, gs, iv_int] at *)
  simp only [dayI_1] at *
  have e : iv (σ 32) = iv (σ 18) + 1 := by omega
  simp only [e] at *
  refine date_out ?_
  have e2 : iv (σ 0) + 693593 = iv (σ 2) := by omega
  rw [e2]
  exact date_fin (by omega) (by omega) (by omega) (by omega) (by omega) (by omega) (by omega)
theorem date_L6_ok : dateR_L6 := by
  intro σ; intros; (simp only [daysR, beginR, yearI, monthI, g0, gs, iv_int] at *)
  simp only [dayI_1, cum_one] at *
  have e : iv (σ 18) = 12 := by omega
  have e3 : iv (σ 15) = iv (σ 7) + 1 := by omega
  have e2 : iv (σ 0) + 693593 = iv (σ 2) := by omega
  refine date_out ?_
  rw [e2, e]
  simp only [e, e3, yr_succ] at *
  have b0 := cum_13 (iv (σ 7))
  have b3 : cum (iv (σ 7)) (12 + 1) = 365 + lp (iv (σ 7)) := b0
  exact date_fin (by omega) (by omega) (by omega) (by omega) (by omega) (by omega) (by omega)
theorem date_ok : dateC.ok Tryz.prog All := by
  refine by_tie dateR_tie (by kernel_rfl) (all_cons days_ok (all_cons begin_ok all_nil)) ?_
  exact ⟨date_L0_ok, date_L1_ok, date_L2_ok, date_L3_ok, date_L4_ok, date_L5_ok, date_L6_ok, trivial⟩
def toWR_L0 : Prop := ∀ σ : Nat → Value,
 σ 0 = .int .i64 (iv (σ 0)) →
 (-693593) ≤ iv (σ 0) →
 iv (σ 0) ≤ (-1) →
 σ 1 = .float .f64 (fv (σ 1)) →
 σ 2 = .int .u64 (iv (σ 2)) →
 σ 3 = .int .u64 (iv (σ 3)) →
 σ 5 = .int .i64 (iv (σ 5)) →
 1 ≤ iv (σ 5) →
 iv (σ 5) ≤ 693593 →
 σ 6 = .float .f64 (fv (σ 6)) →
 σ 7 = .int .i64 (iv (σ 7)) →
 1 ≤ iv (σ 7) →
 iv (σ 7) ≤ 9999 →
 σ 8 = .int .i64 (iv (σ 8)) →
 1 ≤ iv (σ 8) →
 iv (σ 8) ≤ 12 →
 σ 9 = .int .i64 (iv (σ 9)) →
 1 ≤ iv (σ 9) →
 iv (σ 9) ≤ 31 →
 σ 10 = vT →
 fv (σ 1) = FloatKind.f64.nearest (iv (σ 0)) →
 extRel .fbits [σ 1] (σ 2) →
 ibin .andNot IntKind.u64 (iv (σ 2)) (9223372036854775808) = some (.int IntKind.u64 (iv (σ 3))) →
 iv (σ 5) = 0 - iv (σ 0) →
 fv (σ 6) = FloatKind.f64.nearest (iv (σ 5)) →
 dateR [σ 0, σ 7, σ 8, σ 9, vT] →
 iv (σ 0) < 0 →
    toWR [σ 0, σ 1, σ 7, σ 8, σ 9, vZ]
def toWR_L1 : Prop := ∀ σ : Nat → Value,
 σ 0 = .int .i64 (iv (σ 0)) →
 0 ≤ iv (σ 0) →
 iv (σ 0) ≤ 2958465 →
 σ 1 = .float .f64 (fv (σ 1)) →
 σ 2 = .int .u64 (iv (σ 2)) →
 σ 3 = .int .u64 (iv (σ 3)) →
 σ 5 = .int .i64 (iv (σ 5)) →
 1 ≤ iv (σ 5) →
 iv (σ 5) ≤ 9999 →
 σ 6 = .int .i64 (iv (σ 6)) →
 1 ≤ iv (σ 6) →
 iv (σ 6) ≤ 12 →
 σ 7 = .int .i64 (iv (σ 7)) →
 1 ≤ iv (σ 7) →
 iv (σ 7) ≤ 31 →
 σ 8 = vT →
 fv (σ 1) = FloatKind.f64.nearest (iv (σ 0)) →
 extRel .fbits [σ 1] (σ 2) →
 ibin .andNot IntKind.u64 (iv (σ 2)) (9223372036854775808) = some (.int IntKind.u64 (iv (σ 3))) →
 dateR [σ 0, σ 5, σ 6, σ 7, vT] →
 0 ≤ iv (σ 0) →
    toWR [σ 0, σ 1, σ 5, σ 6, σ 7, vZ]
theorem toWR_tie : toC.goals (cfgB toC.base [dateC]) [] 2000 = (toWR_L0 ∧ toWR_L1 ∧ True) := by kernel_rfl
theorem to_ok : toC.ok Tryz.prog All := by
  refine by_tie toWR_tie (by kernel_rfl) (all_cons date_ok all_nil) ?_
  refine ⟨?_, ?_, trivial⟩ <;>
  · intro σ; intros; exact ‹dateR _›
def fromWR_L0 : Prop := ∀ σ : Nat → Value,
 σ 0 = .int .i64 (iv (σ 0)) →
 iv (σ 0) ≤ 0 →
 σ 1 = .int .i64 (iv (σ 1)) →
 σ 2 = .int .i64 (iv (σ 2)) →
 iv (σ 0) < 1 →
    fromWR [σ 0, σ 1, σ 2, vZ, (vG 0), (vI 81)]
def fromWR_L1 : Prop := ∀ σ : Nat → Value,
 σ 0 = .int .i64 (iv (σ 0)) →
 10000 ≤ iv (σ 0) →
 σ 1 = .int .i64 (iv (σ 1)) →
 σ 2 = .int .i64 (iv (σ 2)) →
 9999 < iv (σ 0) →
 1 ≤ iv (σ 0) →
    fromWR [σ 0, σ 1, σ 2, vZ, (vG 0), (vI 81)]
def fromWR_L2 : Prop := ∀ σ : Nat → Value,
 σ 0 = .int .i64 (iv (σ 0)) →
 1 ≤ iv (σ 0) →
 iv (σ 0) ≤ 9999 →
 σ 1 = .int .i64 (iv (σ 1)) →
 iv (σ 1) ≤ 0 →
 σ 2 = .int .i64 (iv (σ 2)) →
 iv (σ 1) < 1 →
 iv (σ 0) ≤ 9999 →
 1 ≤ iv (σ 0) →
    fromWR [σ 0, σ 1, σ 2, vZ, (vG 0), (vI 81)]
def fromWR_L3 : Prop := ∀ σ : Nat → Value,
 σ 0 = .int .i64 (iv (σ 0)) →
 1 ≤ iv (σ 0) →
 iv (σ 0) ≤ 9999 →
 σ 1 = .int .i64 (iv (σ 1)) →
 13 ≤ iv (σ 1) →
 σ 2 = .int .i64 (iv (σ 2)) →
 12 < iv (σ 1) →
 1 ≤ iv (σ 1) →
 iv (σ 0) ≤ 9999 →
 1 ≤ iv (σ 0) →
    fromWR [σ 0, σ 1, σ 2, vZ, (vG 0), (vI 81)]
def fromWR_L4 : Prop := ∀ σ : Nat → Value,
 σ 0 = .int .i64 (iv (σ 0)) →
 1 ≤ iv (σ 0) →
 iv (σ 0) ≤ 9999 →
 σ 1 = .int .i64 (iv (σ 1)) →
 1 ≤ iv (σ 1) →
 iv (σ 1) ≤ 12 →
 σ 2 = .int .i64 (iv (σ 2)) →
 iv (σ 2) ≤ 0 →
 iv (σ 2) < 1 →
 iv (σ 1) ≤ 12 →
 1 ≤ iv (σ 1) →
 iv (σ 0) ≤ 9999 →
 1 ≤ iv (σ 0) →
    fromWR [σ 0, σ 1, σ 2, vZ, (vG 0), (vI 81)]
def fromWR_L5 : Prop := ∀ σ : Nat → Value,
 σ 0 = .int .i64 (iv (σ 0)) →
 1 ≤ iv (σ 0) →
 iv (σ 0) ≤ 9999 →
 σ 1 = .int .i64 (iv (σ 1)) →
 1 ≤ iv (σ 1) →
 iv (σ 1) ≤ 12 →
 σ 2 = .int .i64 (iv (σ 2)) →
 29 ≤ iv (σ 2) →
 σ 8 = .int .i64 (iv (σ 8)) →
 28 ≤ iv (σ 8) →
 iv (σ 8) ≤ 31 →
 monthR [σ 0, σ 1, σ 8] →
 iv (σ 8) < iv (σ 2) →
 1 ≤ iv (σ 2) →
 iv (σ 1) ≤ 12 →
 1 ≤ iv (σ 1) →
 iv (σ 0) ≤ 9999 →
 1 ≤ iv (σ 0) →
    fromWR [σ 0, σ 1, σ 2, vZ, (vG 0), (vI 81)]
def fromWR_L6 : Prop := ∀ σ : Nat → Value,
 σ 0 = .int .i64 (iv (σ 0)) →
 1 ≤ iv (σ 0) →
 iv (σ 0) ≤ 9999 →
 σ 1 = .int .i64 (iv (σ 1)) →
 1 ≤ iv (σ 1) →
 iv (σ 1) ≤ 12 →
 σ 2 = .int .i64 (iv (σ 2)) →
 1 ≤ iv (σ 2) →
 iv (σ 2) ≤ 31 →
 σ 8 = .int .i64 (iv (σ 8)) →
 28 ≤ iv (σ 8) →
 iv (σ 8) ≤ 31 →
 σ 10 = .int .i64 (iv (σ 10)) →
 0 ≤ iv (σ 10) →
 iv (σ 10) ≤ 3652455 →
 σ 11 = .int .i64 (iv (σ 11)) →
 693593 ≤ iv (σ 11) →
 iv (σ 11) ≤ 693593 →
 σ 12 = .int .i64 (iv (σ 12)) →
 (-693593) ≤ iv (σ 12) →
 iv (σ 12) ≤ 2958862 →
 σ 13 = .float .f64 (fv (σ 13)) →
 monthR [σ 0, σ 1, σ 8] →
 daysR [σ 0, σ 1, σ 2, σ 10] →
 beginR [σ 11] →
 iv (σ 12) = iv (σ 10) - iv (σ 11) →
 fv (σ 13) = FloatKind.f64.nearest (iv (σ 12)) →
 iv (σ 2) ≤ iv (σ 8) →
 1 ≤ iv (σ 2) →
 iv (σ 1) ≤ 12 →
 1 ≤ iv (σ 1) →
 iv (σ 0) ≤ 9999 →
 1 ≤ iv (σ 0) →
    fromWROut [σ 12, σ 13, vZ] ∧ fromWR [σ 0, σ 1, σ 2, σ 12, σ 13, vZ]
theorem fromWR_tie : fromC.goals (cfgB fromC.base [daysC, monthC, beginC]) [] 2000 = (fromWR_L0 ∧ fromWR_L1 ∧ fromWR_L2 ∧ fromWR_L3 ∧ fromWR_L4 ∧ fromWR_L5 ∧ fromWR_L6 ∧ True) := by kernel_rfl
theorem from_L6_ok : fromWR_L6 := by
  intro σ; intros; (simp only [monthR, daysR, beginR, fromWR, iv_int] at *)
  have h : okD (iv (σ 0)) (iv (σ 1)) (iv (σ 2)) := ⟨by omega, by omega, by omega, by omega, by omega, by omega⟩
  have r := (dayI_top h).range
  exact ⟨fromWROut_of (by omega) (by omega) (by decide) (by decide), .inl ⟨h, trivial, by omega⟩⟩
theorem from_ok : fromC.ok Tryz.prog All := by
  refine by_tie fromWR_tie (by kernel_rfl) (all_cons days_ok (all_cons month_ok (all_cons begin_ok all_nil))) ⟨?_, ?_, ?_, ?_, ?_, ?_, from_L6_ok, trivial⟩ <;>
  · intro σ; intros; (simp only [monthR, fromWR, okD, iv_int] at *)
    right; exact ⟨by omega, by decide⟩
def dateOfR_L0 : Prop := ∀ σ : Nat → Value,
 σ 0 = .int .i64 (iv (σ 0)) →
 0 ≤ iv (σ 0) →
 iv (σ 0) ≤ 20000 →
 σ 1 = .float .f64 (fv (σ 1)) →
 σ 2 = .int .i64 (iv (σ 2)) →
 (-100) ≤ iv (σ 2) →
 iv (σ 2) ≤ 100 →
 σ 3 = .float .f64 (fv (σ 3)) →
 σ 4 = .int .i64 (iv (σ 4)) →
 1 ≤ iv (σ 4) →
 iv (σ 4) ≤ 31 →
 σ 5 = .float .f64 (fv (σ 5)) →
 σ 6 = .int .i64 (iv (σ 6)) →
 (-101) ≤ iv (σ 6) →
 iv (σ 6) ≤ (-1) →
 σ 7 = .float .f64 (fv (σ 7)) →
 σ 8 = .float .f64 (fv (σ 8)) →
 σ 10 = .int .i64 (iv (σ 10)) →
 13 ≤ iv (σ 10) →
 iv (σ 10) ≤ 113 →
 σ 11 = .int .i64 (iv (σ 11)) →
 12 ≤ iv (σ 11) →
 iv (σ 11) ≤ 112 →
 σ 12 = .int .i64 (iv (σ 12)) →
 1 ≤ iv (σ 12) →
 iv (σ 12) ≤ 9 →
 σ 13 = .int .i64 (iv (σ 13)) →
 (-9) ≤ iv (σ 13) →
 iv (σ 13) ≤ (-1) →
 σ 14 = .float .f64 (fv (σ 14)) →
 σ 15 = .int .i64 (iv (σ 15)) →
 (-9) ≤ iv (σ 15) →
 iv (σ 15) ≤ 0 →
 σ 16 = .float .f64 (fv (σ 16)) →
 σ 17 = .int .i64 (iv (σ 17)) →
 (-108) ≤ iv (σ 17) →
 iv (σ 17) ≤ 108 →
 σ 18 = .float .f64 (fv (σ 18)) →
 σ 19 = .int .i64 (iv (σ 19)) →
 (-208) ≤ iv (σ 19) →
 iv (σ 19) ≤ 208 →
 σ 20 = .float .f64 (fv (σ 20)) →
 fv (σ 5) = FloatKind.f64.nearest (iv (σ 4)) →
 fv (σ 3) = FloatKind.f64.nearest (iv (σ 2)) →
 fv (σ 1) = FloatKind.f64.nearest (iv (σ 0)) →
 dateOfRPre [σ 0, σ 1, σ 2, σ 3, σ 4, σ 5] →
 iv (σ 6) = iv (σ 2) - 1 →
 fv (σ 7) = FloatKind.f64.nearest (iv (σ 6)) →
 (farV .quo .f64 (fv (σ 7)) (4622945017495814144) = some (some (fv (σ 8))) ∨ (farV .quo .f64 (fv (σ 7)) (4622945017495814144) = some none ∧ Nan64 (fv (σ 8)))) →
 iv (σ 10) = 12 - iv (σ 6) →
 iv (σ 11) = iv (σ 10) - 1 →
 iv (σ 12) = (iv (σ 11) : Int).tdiv (12) →
 iv (σ 13) = 0 - iv (σ 12) →
 fv (σ 14) = FloatKind.f64.nearest (iv (σ 13)) →
 iv (σ 15) = iv (σ 0) + iv (σ 13) →
 fv (σ 16) = FloatKind.f64.nearest (iv (σ 15)) →
 iv (σ 17) = 12 * iv (σ 13) →
 WholeF (iv (σ 17)) (fv (σ 18)) →
 iv (σ 19) = iv (σ 2) - iv (σ 17) →
 WholeF (iv (σ 19)) (fv (σ 20)) →
 iv (σ 15) < 1 →
 iv (σ 6) < 0 →
    dateOfR [σ 0, σ 1, σ 2, σ 3, σ 4, σ 5, vZ, (vG 0), vF]
def dateOfR_L1 : Prop := ∀ σ : Nat → Value,
 σ 0 = .int .i64 (iv (σ 0)) →
 0 ≤ iv (σ 0) →
 iv (σ 0) ≤ 20000 →
 σ 1 = .float .f64 (fv (σ 1)) →
 σ 2 = .int .i64 (iv (σ 2)) →
 (-100) ≤ iv (σ 2) →
 iv (σ 2) ≤ 100 →
 σ 3 = .float .f64 (fv (σ 3)) →
 σ 4 = .int .i64 (iv (σ 4)) →
 1 ≤ iv (σ 4) →
 iv (σ 4) ≤ 31 →
 σ 5 = .float .f64 (fv (σ 5)) →
 σ 6 = .int .i64 (iv (σ 6)) →
 (-101) ≤ iv (σ 6) →
 iv (σ 6) ≤ (-1) →
 σ 7 = .float .f64 (fv (σ 7)) →
 σ 8 = .float .f64 (fv (σ 8)) →
 σ 10 = .int .i64 (iv (σ 10)) →
 13 ≤ iv (σ 10) →
 iv (σ 10) ≤ 113 →
 σ 11 = .int .i64 (iv (σ 11)) →
 12 ≤ iv (σ 11) →
 iv (σ 11) ≤ 112 →
 σ 12 = .int .i64 (iv (σ 12)) →
 1 ≤ iv (σ 12) →
 iv (σ 12) ≤ 9 →
 σ 13 = .int .i64 (iv (σ 13)) →
 (-9) ≤ iv (σ 13) →
 iv (σ 13) ≤ (-1) →
 σ 14 = .float .f64 (fv (σ 14)) →
 σ 15 = .int .i64 (iv (σ 15)) →
 10000 ≤ iv (σ 15) →
 iv (σ 15) ≤ 19999 →
 σ 16 = .float .f64 (fv (σ 16)) →
 σ 17 = .int .i64 (iv (σ 17)) →
 (-108) ≤ iv (σ 17) →
 iv (σ 17) ≤ 108 →
 σ 18 = .float .f64 (fv (σ 18)) →
 σ 19 = .int .i64 (iv (σ 19)) →
 (-208) ≤ iv (σ 19) →
 iv (σ 19) ≤ 208 →
 σ 20 = .float .f64 (fv (σ 20)) →
 fv (σ 5) = FloatKind.f64.nearest (iv (σ 4)) →
 fv (σ 3) = FloatKind.f64.nearest (iv (σ 2)) →
 fv (σ 1) = FloatKind.f64.nearest (iv (σ 0)) →
 dateOfRPre [σ 0, σ 1, σ 2, σ 3, σ 4, σ 5] →
 iv (σ 6) = iv (σ 2) - 1 →
 fv (σ 7) = FloatKind.f64.nearest (iv (σ 6)) →
 (farV .quo .f64 (fv (σ 7)) (4622945017495814144) = some (some (fv (σ 8))) ∨ (farV .quo .f64 (fv (σ 7)) (4622945017495814144) = some none ∧ Nan64 (fv (σ 8)))) →
 iv (σ 10) = 12 - iv (σ 6) →
 iv (σ 11) = iv (σ 10) - 1 →
 iv (σ 12) = (iv (σ 11) : Int).tdiv (12) →
 iv (σ 13) = 0 - iv (σ 12) →
 fv (σ 14) = FloatKind.f64.nearest (iv (σ 13)) →
 iv (σ 15) = iv (σ 0) + iv (σ 13) →
 fv (σ 16) = FloatKind.f64.nearest (iv (σ 15)) →
 iv (σ 17) = 12 * iv (σ 13) →
 WholeF (iv (σ 17)) (fv (σ 18)) →
 iv (σ 19) = iv (σ 2) - iv (σ 17) →
 WholeF (iv (σ 19)) (fv (σ 20)) →
 9999 < iv (σ 15) →
 1 ≤ iv (σ 15) →
 iv (σ 6) < 0 →
    dateOfR [σ 0, σ 1, σ 2, σ 3, σ 4, σ 5, vZ, (vG 0), vF]
def dateOfR_L2 : Prop := ∀ σ : Nat → Value,
 σ 0 = .int .i64 (iv (σ 0)) →
 0 ≤ iv (σ 0) →
 iv (σ 0) ≤ 20000 →
 σ 1 = .float .f64 (fv (σ 1)) →
 σ 2 = .int .i64 (iv (σ 2)) →
 (-100) ≤ iv (σ 2) →
 iv (σ 2) ≤ 100 →
 σ 3 = .float .f64 (fv (σ 3)) →
 σ 4 = .int .i64 (iv (σ 4)) →
 1 ≤ iv (σ 4) →
 iv (σ 4) ≤ 31 →
 σ 5 = .float .f64 (fv (σ 5)) →
 σ 6 = .int .i64 (iv (σ 6)) →
 (-101) ≤ iv (σ 6) →
 iv (σ 6) ≤ (-1) →
 σ 7 = .float .f64 (fv (σ 7)) →
 σ 8 = .float .f64 (fv (σ 8)) →
 σ 10 = .int .i64 (iv (σ 10)) →
 13 ≤ iv (σ 10) →
 iv (σ 10) ≤ 113 →
 σ 11 = .int .i64 (iv (σ 11)) →
 12 ≤ iv (σ 11) →
 iv (σ 11) ≤ 112 →
 σ 12 = .int .i64 (iv (σ 12)) →
 1 ≤ iv (σ 12) →
 iv (σ 12) ≤ 9 →
 σ 13 = .int .i64 (iv (σ 13)) →
 (-9) ≤ iv (σ 13) →
 iv (σ 13) ≤ (-1) →
 σ 14 = .float .f64 (fv (σ 14)) →
 σ 15 = .int .i64 (iv (σ 15)) →
 1 ≤ iv (σ 15) →
 iv (σ 15) ≤ 9999 →
 σ 16 = .float .f64 (fv (σ 16)) →
 σ 17 = .int .i64 (iv (σ 17)) →
 (-108) ≤ iv (σ 17) →
 iv (σ 17) ≤ 108 →
 σ 18 = .float .f64 (fv (σ 18)) →
 σ 19 = .int .i64 (iv (σ 19)) →
 (-208) ≤ iv (σ 19) →
 iv (σ 19) ≤ 208 →
 σ 20 = .float .f64 (fv (σ 20)) →
 σ 23 = .int .i64 (iv (σ 23)) →
 (-693593) ≤ iv (σ 23) →
 iv (σ 23) ≤ 2958465 →
 σ 24 = .float .f64 (fv (σ 24)) →
 σ 25 = .int .i64 (iv (σ 25)) →
 0 ≤ iv (σ 25) →
 iv (σ 25) ≤ 0 →
 σ 26 = .int .i64 (iv (σ 26)) →
 (-693592) ≤ iv (σ 26) →
 iv (σ 26) ≤ 2958496 →
 σ 27 = .float .f64 (fv (σ 27)) →
 σ 28 = .int .i64 (iv (σ 28)) →
 (-693593) ≤ iv (σ 28) →
 iv (σ 28) ≤ 2958495 →
 σ 29 = .float .f64 (fv (σ 29)) →
 σ 31 = .bool (bv (σ 31)) →
 fv (σ 5) = FloatKind.f64.nearest (iv (σ 4)) →
 fv (σ 3) = FloatKind.f64.nearest (iv (σ 2)) →
 fv (σ 1) = FloatKind.f64.nearest (iv (σ 0)) →
 dateOfRPre [σ 0, σ 1, σ 2, σ 3, σ 4, σ 5] →
 iv (σ 6) = iv (σ 2) - 1 →
 fv (σ 7) = FloatKind.f64.nearest (iv (σ 6)) →
 (farV .quo .f64 (fv (σ 7)) (4622945017495814144) = some (some (fv (σ 8))) ∨ (farV .quo .f64 (fv (σ 7)) (4622945017495814144) = some none ∧ Nan64 (fv (σ 8)))) →
 iv (σ 10) = 12 - iv (σ 6) →
 iv (σ 11) = iv (σ 10) - 1 →
 iv (σ 12) = (iv (σ 11) : Int).tdiv (12) →
 iv (σ 13) = 0 - iv (σ 12) →
 fv (σ 14) = FloatKind.f64.nearest (iv (σ 13)) →
 iv (σ 15) = iv (σ 0) + iv (σ 13) →
 fv (σ 16) = FloatKind.f64.nearest (iv (σ 15)) →
 iv (σ 17) = 12 * iv (σ 13) →
 WholeF (iv (σ 17)) (fv (σ 18)) →
 iv (σ 19) = iv (σ 2) - iv (σ 17) →
 WholeF (iv (σ 19)) (fv (σ 20)) →
 fv (σ 24) = FloatKind.f64.nearest (iv (σ 23)) →
 fromWR [σ 15, σ 19, vO, σ 23, σ 24, σ 25] →
 iv (σ 26) = iv (σ 23) + iv (σ 4) →
 fv (σ 27) = FloatKind.f64.nearest (iv (σ 26)) →
 iv (σ 28) = iv (σ 26) - 1 →
 fv (σ 29) = FloatKind.f64.nearest (iv (σ 28)) →
 bv (σ 31) = decide (iv (σ 28) ≤ 2958465) →
 iv (σ 25) = 0 →
 iv (σ 15) ≤ 9999 →
 1 ≤ iv (σ 15) →
 iv (σ 6) < 0 →
    dateOfROut [σ 28, σ 29, σ 31] ∧ dateOfR [σ 0, σ 1, σ 2, σ 3, σ 4, σ 5, σ 28, σ 29, σ 31]
def dateOfR_L3 : Prop := ∀ σ : Nat → Value,
 σ 0 = .int .i64 (iv (σ 0)) →
 0 ≤ iv (σ 0) →
 iv (σ 0) ≤ 20000 →
 σ 1 = .float .f64 (fv (σ 1)) →
 σ 2 = .int .i64 (iv (σ 2)) →
 (-100) ≤ iv (σ 2) →
 iv (σ 2) ≤ 100 →
 σ 3 = .float .f64 (fv (σ 3)) →
 σ 4 = .int .i64 (iv (σ 4)) →
 1 ≤ iv (σ 4) →
 iv (σ 4) ≤ 31 →
 σ 5 = .float .f64 (fv (σ 5)) →
 σ 6 = .int .i64 (iv (σ 6)) →
 (-101) ≤ iv (σ 6) →
 iv (σ 6) ≤ (-1) →
 σ 7 = .float .f64 (fv (σ 7)) →
 σ 8 = .float .f64 (fv (σ 8)) →
 σ 10 = .int .i64 (iv (σ 10)) →
 13 ≤ iv (σ 10) →
 iv (σ 10) ≤ 113 →
 σ 11 = .int .i64 (iv (σ 11)) →
 12 ≤ iv (σ 11) →
 iv (σ 11) ≤ 112 →
 σ 12 = .int .i64 (iv (σ 12)) →
 1 ≤ iv (σ 12) →
 iv (σ 12) ≤ 9 →
 σ 13 = .int .i64 (iv (σ 13)) →
 (-9) ≤ iv (σ 13) →
 iv (σ 13) ≤ (-1) →
 σ 14 = .float .f64 (fv (σ 14)) →
 σ 15 = .int .i64 (iv (σ 15)) →
 1 ≤ iv (σ 15) →
 iv (σ 15) ≤ 9999 →
 σ 16 = .float .f64 (fv (σ 16)) →
 σ 17 = .int .i64 (iv (σ 17)) →
 (-108) ≤ iv (σ 17) →
 iv (σ 17) ≤ 108 →
 σ 18 = .float .f64 (fv (σ 18)) →
 σ 19 = .int .i64 (iv (σ 19)) →
 (-208) ≤ iv (σ 19) →
 iv (σ 19) ≤ 208 →
 σ 20 = .float .f64 (fv (σ 20)) →
 σ 23 = .int .i64 (iv (σ 23)) →
 (-693593) ≤ iv (σ 23) →
 iv (σ 23) ≤ 2958465 →
 σ 24 = .float .f64 (fv (σ 24)) →
 σ 25 = .int .i64 (iv (σ 25)) →
 1 ≤ iv (σ 25) →
 iv (σ 25) ≤ 1000 →
 σ 26 = .int .i64 (iv (σ 26)) →
 (-693592) ≤ iv (σ 26) →
 iv (σ 26) ≤ 2958496 →
 σ 27 = .float .f64 (fv (σ 27)) →
 σ 28 = .int .i64 (iv (σ 28)) →
 (-693593) ≤ iv (σ 28) →
 iv (σ 28) ≤ 2958495 →
 σ 29 = .float .f64 (fv (σ 29)) →
 fv (σ 5) = FloatKind.f64.nearest (iv (σ 4)) →
 fv (σ 3) = FloatKind.f64.nearest (iv (σ 2)) →
 fv (σ 1) = FloatKind.f64.nearest (iv (σ 0)) →
 dateOfRPre [σ 0, σ 1, σ 2, σ 3, σ 4, σ 5] →
 iv (σ 6) = iv (σ 2) - 1 →
 fv (σ 7) = FloatKind.f64.nearest (iv (σ 6)) →
 (farV .quo .f64 (fv (σ 7)) (4622945017495814144) = some (some (fv (σ 8))) ∨ (farV .quo .f64 (fv (σ 7)) (4622945017495814144) = some none ∧ Nan64 (fv (σ 8)))) →
 iv (σ 10) = 12 - iv (σ 6) →
 iv (σ 11) = iv (σ 10) - 1 →
 iv (σ 12) = (iv (σ 11) : Int).tdiv (12) →
 iv (σ 13) = 0 - iv (σ 12) →
 fv (σ 14) = FloatKind.f64.nearest (iv (σ 13)) →
 iv (σ 15) = iv (σ 0) + iv (σ 13) →
 fv (σ 16) = FloatKind.f64.nearest (iv (σ 15)) →
 iv (σ 17) = 12 * iv (σ 13) →
 WholeF (iv (σ 17)) (fv (σ 18)) →
 iv (σ 19) = iv (σ 2) - iv (σ 17) →
 WholeF (iv (σ 19)) (fv (σ 20)) →
 fv (σ 24) = FloatKind.f64.nearest (iv (σ 23)) →
 fromWR [σ 15, σ 19, vO, σ 23, σ 24, σ 25] →
 iv (σ 26) = iv (σ 23) + iv (σ 4) →
 fv (σ 27) = FloatKind.f64.nearest (iv (σ 26)) →
 iv (σ 28) = iv (σ 26) - 1 →
 fv (σ 29) = FloatKind.f64.nearest (iv (σ 28)) →
 iv (σ 25) ≠ 0 →
 iv (σ 15) ≤ 9999 →
 1 ≤ iv (σ 15) →
 iv (σ 6) < 0 →
    dateOfROut [σ 28, σ 29, vF] ∧ dateOfR [σ 0, σ 1, σ 2, σ 3, σ 4, σ 5, σ 28, σ 29, vF]
def dateOfR_L4 : Prop := ∀ σ : Nat → Value,
 σ 0 = .int .i64 (iv (σ 0)) →
 0 ≤ iv (σ 0) →
 iv (σ 0) ≤ 20000 →
 σ 1 = .float .f64 (fv (σ 1)) →
 σ 2 = .int .i64 (iv (σ 2)) →
 (-100) ≤ iv (σ 2) →
 iv (σ 2) ≤ 100 →
 σ 3 = .float .f64 (fv (σ 3)) →
 σ 4 = .int .i64 (iv (σ 4)) →
 1 ≤ iv (σ 4) →
 iv (σ 4) ≤ 31 →
 σ 5 = .float .f64 (fv (σ 5)) →
 σ 6 = .int .i64 (iv (σ 6)) →
 0 ≤ iv (σ 6) →
 iv (σ 6) ≤ 99 →
 σ 7 = .float .f64 (fv (σ 7)) →
 σ 8 = .float .f64 (fv (σ 8)) →
 σ 10 = .int .i64 (iv (σ 10)) →
 0 ≤ iv (σ 10) →
 iv (σ 10) ≤ 8 →
 σ 11 = .float .f64 (fv (σ 11)) →
 σ 12 = .int .i64 (iv (σ 12)) →
 0 ≤ iv (σ 12) →
 iv (σ 12) ≤ 0 →
 σ 13 = .float .f64 (fv (σ 13)) →
 σ 14 = .int .i64 (iv (σ 14)) →
 0 ≤ iv (σ 14) →
 iv (σ 14) ≤ 96 →
 σ 15 = .float .f64 (fv (σ 15)) →
 σ 16 = .int .i64 (iv (σ 16)) →
 (-196) ≤ iv (σ 16) →
 iv (σ 16) ≤ 100 →
 σ 17 = .float .f64 (fv (σ 17)) →
 fv (σ 5) = FloatKind.f64.nearest (iv (σ 4)) →
 fv (σ 3) = FloatKind.f64.nearest (iv (σ 2)) →
 fv (σ 1) = FloatKind.f64.nearest (iv (σ 0)) →
 dateOfRPre [σ 0, σ 1, σ 2, σ 3, σ 4, σ 5] →
 iv (σ 6) = iv (σ 2) - 1 →
 fv (σ 7) = FloatKind.f64.nearest (iv (σ 6)) →
 (farV .quo .f64 (fv (σ 7)) (4622945017495814144) = some (some (fv (σ 8))) ∨ (farV .quo .f64 (fv (σ 7)) (4622945017495814144) = some none ∧ Nan64 (fv (σ 8)))) →
 iv (σ 10) = (iv (σ 6) : Int).tdiv (12) →
 fv (σ 11) = FloatKind.f64.nearest (iv (σ 10)) →
 iv (σ 12) = iv (σ 0) + iv (σ 10) →
 fv (σ 13) = FloatKind.f64.nearest (iv (σ 12)) →
 iv (σ 14) = 12 * iv (σ 10) →
 fv (σ 15) = FloatKind.f64.nearest (iv (σ 14)) →
 iv (σ 16) = iv (σ 2) - iv (σ 14) →
 fv (σ 17) = FloatKind.f64.nearest (iv (σ 16)) →
 iv (σ 12) < 1 →
 0 ≤ iv (σ 6) →
    dateOfR [σ 0, σ 1, σ 2, σ 3, σ 4, σ 5, vZ, (vG 0), vF]
def dateOfR_L5 : Prop := ∀ σ : Nat → Value,
 σ 0 = .int .i64 (iv (σ 0)) →
 0 ≤ iv (σ 0) →
 iv (σ 0) ≤ 20000 →
 σ 1 = .float .f64 (fv (σ 1)) →
 σ 2 = .int .i64 (iv (σ 2)) →
 (-100) ≤ iv (σ 2) →
 iv (σ 2) ≤ 100 →
 σ 3 = .float .f64 (fv (σ 3)) →
 σ 4 = .int .i64 (iv (σ 4)) →
 1 ≤ iv (σ 4) →
 iv (σ 4) ≤ 31 →
 σ 5 = .float .f64 (fv (σ 5)) →
 σ 6 = .int .i64 (iv (σ 6)) →
 0 ≤ iv (σ 6) →
 iv (σ 6) ≤ 99 →
 σ 7 = .float .f64 (fv (σ 7)) →
 σ 8 = .float .f64 (fv (σ 8)) →
 σ 10 = .int .i64 (iv (σ 10)) →
 0 ≤ iv (σ 10) →
 iv (σ 10) ≤ 8 →
 σ 11 = .float .f64 (fv (σ 11)) →
 σ 12 = .int .i64 (iv (σ 12)) →
 10000 ≤ iv (σ 12) →
 iv (σ 12) ≤ 20008 →
 σ 13 = .float .f64 (fv (σ 13)) →
 σ 14 = .int .i64 (iv (σ 14)) →
 0 ≤ iv (σ 14) →
 iv (σ 14) ≤ 96 →
 σ 15 = .float .f64 (fv (σ 15)) →
 σ 16 = .int .i64 (iv (σ 16)) →
 (-196) ≤ iv (σ 16) →
 iv (σ 16) ≤ 100 →
 σ 17 = .float .f64 (fv (σ 17)) →
 fv (σ 5) = FloatKind.f64.nearest (iv (σ 4)) →
 fv (σ 3) = FloatKind.f64.nearest (iv (σ 2)) →
 fv (σ 1) = FloatKind.f64.nearest (iv (σ 0)) →
 dateOfRPre [σ 0, σ 1, σ 2, σ 3, σ 4, σ 5] →
 iv (σ 6) = iv (σ 2) - 1 →
 fv (σ 7) = FloatKind.f64.nearest (iv (σ 6)) →
 (farV .quo .f64 (fv (σ 7)) (4622945017495814144) = some (some (fv (σ 8))) ∨ (farV .quo .f64 (fv (σ 7)) (4622945017495814144) = some none ∧ Nan64 (fv (σ 8)))) →
 iv (σ 10) = (iv (σ 6) : Int).tdiv (12) →
 fv (σ 11) = FloatKind.f64.nearest (iv (σ 10)) →
 iv (σ 12) = iv (σ 0) + iv (σ 10) →
 fv (σ 13) = FloatKind.f64.nearest (iv (σ 12)) →
 iv (σ 14) = 12 * iv (σ 10) →
 fv (σ 15) = FloatKind.f64.nearest (iv (σ 14)) →
 iv (σ 16) = iv (σ 2) - iv (σ 14) →
 fv (σ 17) = FloatKind.f64.nearest (iv (σ 16)) →
 9999 < iv (σ 12) →
 1 ≤ iv (σ 12) →
 0 ≤ iv (σ 6) →
    dateOfR [σ 0, σ 1, σ 2, σ 3, σ 4, σ 5, vZ, (vG 0), vF]
def dateOfR_L6 : Prop := ∀ σ : Nat → Value,
 σ 0 = .int .i64 (iv (σ 0)) →
 0 ≤ iv (σ 0) →
 iv (σ 0) ≤ 20000 →
 σ 1 = .float .f64 (fv (σ 1)) →
 σ 2 = .int .i64 (iv (σ 2)) →
 (-100) ≤ iv (σ 2) →
 iv (σ 2) ≤ 100 →
 σ 3 = .float .f64 (fv (σ 3)) →
 σ 4 = .int .i64 (iv (σ 4)) →
 1 ≤ iv (σ 4) →
 iv (σ 4) ≤ 31 →
 σ 5 = .float .f64 (fv (σ 5)) →
 σ 6 = .int .i64 (iv (σ 6)) →
 0 ≤ iv (σ 6) →
 iv (σ 6) ≤ 99 →
 σ 7 = .float .f64 (fv (σ 7)) →
 σ 8 = .float .f64 (fv (σ 8)) →
 σ 10 = .int .i64 (iv (σ 10)) →
 0 ≤ iv (σ 10) →
 iv (σ 10) ≤ 8 →
 σ 11 = .float .f64 (fv (σ 11)) →
 σ 12 = .int .i64 (iv (σ 12)) →
 1 ≤ iv (σ 12) →
 iv (σ 12) ≤ 9999 →
 σ 13 = .float .f64 (fv (σ 13)) →
 σ 14 = .int .i64 (iv (σ 14)) →
 0 ≤ iv (σ 14) →
 iv (σ 14) ≤ 96 →
 σ 15 = .float .f64 (fv (σ 15)) →
 σ 16 = .int .i64 (iv (σ 16)) →
 (-196) ≤ iv (σ 16) →
 iv (σ 16) ≤ 100 →
 σ 17 = .float .f64 (fv (σ 17)) →
 σ 20 = .int .i64 (iv (σ 20)) →
 (-693593) ≤ iv (σ 20) →
 iv (σ 20) ≤ 2958465 →
 σ 21 = .float .f64 (fv (σ 21)) →
 σ 22 = .int .i64 (iv (σ 22)) →
 0 ≤ iv (σ 22) →
 iv (σ 22) ≤ 0 →
 σ 23 = .int .i64 (iv (σ 23)) →
 (-693592) ≤ iv (σ 23) →
 iv (σ 23) ≤ 2958496 →
 σ 24 = .float .f64 (fv (σ 24)) →
 σ 25 = .int .i64 (iv (σ 25)) →
 (-693593) ≤ iv (σ 25) →
 iv (σ 25) ≤ 2958495 →
 σ 26 = .float .f64 (fv (σ 26)) →
 σ 28 = .bool (bv (σ 28)) →
 fv (σ 5) = FloatKind.f64.nearest (iv (σ 4)) →
 fv (σ 3) = FloatKind.f64.nearest (iv (σ 2)) →
 fv (σ 1) = FloatKind.f64.nearest (iv (σ 0)) →
 dateOfRPre [σ 0, σ 1, σ 2, σ 3, σ 4, σ 5] →
 iv (σ 6) = iv (σ 2) - 1 →
 fv (σ 7) = FloatKind.f64.nearest (iv (σ 6)) →
 (farV .quo .f64 (fv (σ 7)) (4622945017495814144) = some (some (fv (σ 8))) ∨ (farV .quo .f64 (fv (σ 7)) (4622945017495814144) = some none ∧ Nan64 (fv (σ 8)))) →
 iv (σ 10) = (iv (σ 6) : Int).tdiv (12) →
 fv (σ 11) = FloatKind.f64.nearest (iv (σ 10)) →
 iv (σ 12) = iv (σ 0) + iv (σ 10) →
 fv (σ 13) = FloatKind.f64.nearest (iv (σ 12)) →
 iv (σ 14) = 12 * iv (σ 10) →
 fv (σ 15) = FloatKind.f64.nearest (iv (σ 14)) →
 iv (σ 16) = iv (σ 2) - iv (σ 14) →
 fv (σ 17) = FloatKind.f64.nearest (iv (σ 16)) →
 fv (σ 21) = FloatKind.f64.nearest (iv (σ 20)) →
 fromWR [σ 12, σ 16, vO, σ 20, σ 21, σ 22] →
 iv (σ 23) = iv (σ 20) + iv (σ 4) →
 fv (σ 24) = FloatKind.f64.nearest (iv (σ 23)) →
 iv (σ 25) = iv (σ 23) - 1 →
 fv (σ 26) = FloatKind.f64.nearest (iv (σ 25)) →
 bv (σ 28) = decide (iv (σ 25) ≤ 2958465) →
 iv (σ 22) = 0 →
 iv (σ 12) ≤ 9999 →
 1 ≤ iv (σ 12) →
 0 ≤ iv (σ 6) →
    dateOfROut [σ 25, σ 26, σ 28] ∧ dateOfR [σ 0, σ 1, σ 2, σ 3, σ 4, σ 5, σ 25, σ 26, σ 28]
def dateOfR_L7 : Prop := ∀ σ : Nat → Value,
 σ 0 = .int .i64 (iv (σ 0)) →
 0 ≤ iv (σ 0) →
 iv (σ 0) ≤ 20000 →
 σ 1 = .float .f64 (fv (σ 1)) →
 σ 2 = .int .i64 (iv (σ 2)) →
 (-100) ≤ iv (σ 2) →
 iv (σ 2) ≤ 100 →
 σ 3 = .float .f64 (fv (σ 3)) →
 σ 4 = .int .i64 (iv (σ 4)) →
 1 ≤ iv (σ 4) →
 iv (σ 4) ≤ 31 →
 σ 5 = .float .f64 (fv (σ 5)) →
 σ 6 = .int .i64 (iv (σ 6)) →
 0 ≤ iv (σ 6) →
 iv (σ 6) ≤ 99 →
 σ 7 = .float .f64 (fv (σ 7)) →
 σ 8 = .float .f64 (fv (σ 8)) →
 σ 10 = .int .i64 (iv (σ 10)) →
 0 ≤ iv (σ 10) →
 iv (σ 10) ≤ 8 →
 σ 11 = .float .f64 (fv (σ 11)) →
 σ 12 = .int .i64 (iv (σ 12)) →
 1 ≤ iv (σ 12) →
 iv (σ 12) ≤ 9999 →
 σ 13 = .float .f64 (fv (σ 13)) →
 σ 14 = .int .i64 (iv (σ 14)) →
 0 ≤ iv (σ 14) →
 iv (σ 14) ≤ 96 →
 σ 15 = .float .f64 (fv (σ 15)) →
 σ 16 = .int .i64 (iv (σ 16)) →
 (-196) ≤ iv (σ 16) →
 iv (σ 16) ≤ 100 →
 σ 17 = .float .f64 (fv (σ 17)) →
 σ 20 = .int .i64 (iv (σ 20)) →
 (-693593) ≤ iv (σ 20) →
 iv (σ 20) ≤ 2958465 →
 σ 21 = .float .f64 (fv (σ 21)) →
 σ 22 = .int .i64 (iv (σ 22)) →
 1 ≤ iv (σ 22) →
 iv (σ 22) ≤ 1000 →
 σ 23 = .int .i64 (iv (σ 23)) →
 (-693592) ≤ iv (σ 23) →
 iv (σ 23) ≤ 2958496 →
 σ 24 = .float .f64 (fv (σ 24)) →
 σ 25 = .int .i64 (iv (σ 25)) →
 (-693593) ≤ iv (σ 25) →
 iv (σ 25) ≤ 2958495 →
 σ 26 = .float .f64 (fv (σ 26)) →
 fv (σ 5) = FloatKind.f64.nearest (iv (σ 4)) →
 fv (σ 3) = FloatKind.f64.nearest (iv (σ 2)) →
 fv (σ 1) = FloatKind.f64.nearest (iv (σ 0)) →
 dateOfRPre [σ 0, σ 1, σ 2, σ 3, σ 4, σ 5] →
 iv (σ 6) = iv (σ 2) - 1 →
 fv (σ 7) = FloatKind.f64.nearest (iv (σ 6)) →
 (farV .quo .f64 (fv (σ 7)) (4622945017495814144) = some (some (fv (σ 8))) ∨ (farV .quo .f64 (fv (σ 7)) (4622945017495814144) = some none ∧ Nan64 (fv (σ 8)))) →
 iv (σ 10) = (iv (σ 6) : Int).tdiv (12) →
 fv (σ 11) = FloatKind.f64.nearest (iv (σ 10)) →
 iv (σ 12) = iv (σ 0) + iv (σ 10) →
 fv (σ 13) = FloatKind.f64.nearest (iv (σ 12)) →
 iv (σ 14) = 12 * iv (σ 10) →
 fv (σ 15) = FloatKind.f64.nearest (iv (σ 14)) →
 iv (σ 16) = iv (σ 2) - iv (σ 14) →
 fv (σ 17) = FloatKind.f64.nearest (iv (σ 16)) →
 fv (σ 21) = FloatKind.f64.nearest (iv (σ 20)) →
 fromWR [σ 12, σ 16, vO, σ 20, σ 21, σ 22] →
 iv (σ 23) = iv (σ 20) + iv (σ 4) →
 fv (σ 24) = FloatKind.f64.nearest (iv (σ 23)) →
 iv (σ 25) = iv (σ 23) - 1 →
 fv (σ 26) = FloatKind.f64.nearest (iv (σ 25)) →
 iv (σ 22) ≠ 0 →
 iv (σ 12) ≤ 9999 →
 1 ≤ iv (σ 12) →
 0 ≤ iv (σ 6) →
    dateOfROut [σ 25, σ 26, vF] ∧ dateOfR [σ 0, σ 1, σ 2, σ 3, σ 4, σ 5, σ 25, σ 26, vF]
theorem dateOfR_tie : dateOfC.goals (cfgB dateOfC.base [fromC]) [] 2000 = (dateOfR_L0 ∧ dateOfR_L1 ∧ dateOfR_L2 ∧ dateOfR_L3 ∧ dateOfR_L4 ∧ dateOfR_L5 ∧ dateOfR_L6 ∧ dateOfR_L7 ∧ True) := by kernel_rfl
theorem dateOf_fin {y m d : Int} {x1 x : Value} {f o : Value} (h1 : 1 ≤ yOf y m) (h2 : yOf y m ≤ 9999) (h3 : 1 ≤ d) (h4 : d ≤ monI (yOf y m) (mOf m)) (e1 : iv x1 = dayI (yOf y m) (mOf m) 1 - 693593) (e2 : iv x = iv x1 + d - 1) :
    dateOfROut [x, f, o] ∧ iv x = dayI (yOf y m) (mOf m) d - 693593 ∧ iv x ≤ 2958465 := by
  have h : okD (yOf y m) (mOf m) d := ⟨h1, h2, by unfold mOf; omega, by unfold mOf; omega, h3, h4⟩
  have r := (dayI_top h).range
  have e : iv x = dayI (yOf y m) (mOf m) d - 693593 := by unfold dayI at *; omega
  exact ⟨dateOfROut_of (by omega) (by omega), e, by omega⟩
theorem dateOf_L0_ok : dateOfR_L0 := by
  intro σ; intros
  exfalso
  have p := ‹dateOfRPre _›
  simp only [dateOfRPre, yOf] at p
  (repeat (simp (disch := omega) only [tdiv_nn] at *))
  omega
theorem dateOf_L1_ok : dateOfR_L1 := by
  intro σ; intros
  exfalso
  have p := ‹dateOfRPre _›
  simp only [dateOfRPre, yOf] at p
  (repeat (simp (disch := omega) only [tdiv_nn] at *))
  omega
theorem dateOf_L4_ok : dateOfR_L4 := by
  intro σ; intros
  exfalso
  have p := ‹dateOfRPre _›
  simp only [dateOfRPre, yOf] at p
  (repeat (simp (disch := omega) only [tdiv_nn] at *))
  omega
theorem dateOf_L5_ok : dateOfR_L5 := by
  intro σ; intros
  exfalso
  have p := ‹dateOfRPre _›
  simp only [dateOfRPre, yOf] at p
  (repeat (simp (disch := omega) only [tdiv_nn] at *))
  omega
theorem dateOf_L2_ok : dateOfR_L2 := by
  intro σ; intros
  have p := ‹dateOfRPre _›
  simp only [dateOfRPre] at p
  have f := ‹fromWR _›
  simp only [fromWR, iv_int] at f
  (repeat (simp (disch := omega) only [tdiv_nn] at *))
  have eY : iv (σ 15) = yOf (iv (σ 0)) (iv (σ 2)) := by unfold yOf; omega
  have eM : iv (σ 19) = mOf (iv (σ 2)) := by unfold mOf; omega
  rw [eY, eM] at f
  have k : okD (yOf (iv (σ 0)) (iv (σ 2))) (mOf (iv (σ 2))) 1 := ⟨p.1, p.2.1, by unfold mOf; omega, by unfold mOf; omega, by omega, by have := monI_pos (yOf (iv (σ 0)) (iv (σ 2))) (mOf (iv (σ 2))); omega⟩
  have e1 : iv (σ 23) = dayI (yOf (iv (σ 0)) (iv (σ 2))) (mOf (iv (σ 2))) 1 - 693593 := by
    rcases f with f | f
    · exact f.2.2
    · exact (f.1 k).elim
  have r := dateOf_fin (x := σ 28) (f := σ 29) (o := σ 31) p.1 p.2.1 p.2.2.1 p.2.2.2 e1 (by omega)
  refine ⟨r.1, ?_, r.2.1⟩
  rw [‹bv (σ 31) = _›]
  exact decide_eq_true r.2.2
theorem dateOf_L3_ok : dateOfR_L3 := by
  intro σ; intros
  have p := ‹dateOfRPre _›
  simp only [dateOfRPre] at p
  have f := ‹fromWR _›
  simp only [fromWR, iv_int] at f
  (repeat (simp (disch := omega) only [tdiv_nn] at *))
  have eY : iv (σ 15) = yOf (iv (σ 0)) (iv (σ 2)) := by unfold yOf; omega
  have eM : iv (σ 19) = mOf (iv (σ 2)) := by unfold mOf; omega
  rw [eY, eM] at f
  have k : okD (yOf (iv (σ 0)) (iv (σ 2))) (mOf (iv (σ 2))) 1 := ⟨p.1, p.2.1, by unfold mOf; omega, by unfold mOf; omega, by omega, by have := monI_pos (yOf (iv (σ 0)) (iv (σ 2))) (mOf (iv (σ 2))); omega⟩
  exfalso
  rcases f with f | f
  · exact ‹iv (σ 25) ≠ 0› f.2.1
  · exact f.1 k
theorem dateOf_L6_ok : dateOfR_L6 := by
  intro σ; intros
  have p := ‹dateOfRPre _›
  simp only [dateOfRPre] at p
  have f := ‹fromWR _›
  simp only [fromWR, iv_int] at f
  (repeat (simp (disch := omega) only [tdiv_nn] at *))
  have eY : iv (σ 12) = yOf (iv (σ 0)) (iv (σ 2)) := by unfold yOf; omega
  have eM : iv (σ 16) = mOf (iv (σ 2)) := by unfold mOf; omega
  rw [eY, eM] at f
  have k : okD (yOf (iv (σ 0)) (iv (σ 2))) (mOf (iv (σ 2))) 1 := ⟨p.1, p.2.1, by unfold mOf; omega, by unfold mOf; omega, by omega, by have := monI_pos (yOf (iv (σ 0)) (iv (σ 2))) (mOf (iv (σ 2))); omega⟩
  have e1 : iv (σ 20) = dayI (yOf (iv (σ 0)) (iv (σ 2))) (mOf (iv (σ 2))) 1 - 693593 := by
    rcases f with f | f
    · exact f.2.2
    · exact (f.1 k).elim
  have r := dateOf_fin (x := σ 25) (f := σ 26) (o := σ 28) p.1 p.2.1 p.2.2.1 p.2.2.2 e1 (by omega)
  refine ⟨r.1, ?_, r.2.1⟩
  rw [‹bv (σ 28) = _›]
  exact decide_eq_true r.2.2
theorem dateOf_L7_ok : dateOfR_L7 := by
  intro σ; intros
  have p := ‹dateOfRPre _›
  simp only [dateOfRPre] at p
  have f := ‹fromWR _›
  simp only [fromWR, iv_int] at f
  (repeat (simp (disch := omega) only [tdiv_nn] at *))
  have eY : iv (σ 12) = yOf (iv (σ 0)) (iv (σ 2)) := by unfold yOf; omega
  have eM : iv (σ 16) = mOf (iv (σ 2)) := by unfold mOf; omega
  rw [eY, eM] at f
  have k : okD (yOf (iv (σ 0)) (iv (σ 2))) (mOf (iv (σ 2))) 1 := ⟨p.1, p.2.1, by unfold mOf; omega, by unfold mOf; omega, by omega, by have := monI_pos (yOf (iv (σ 0)) (iv (σ 2))) (mOf (iv (σ 2))); omega⟩
  exfalso
  rcases f with f | f
  · exact ‹iv (σ 22) ≠ 0› f.2.1
  · exact f.1 k
theorem dateOf_ok : dateOfC.ok Tryz.prog All := by
  refine by_tie dateOfR_tie (by kernel_rfl) (all_cons from_ok all_nil) ?_
  exact ⟨dateOf_L0_ok, dateOf_L1_ok, dateOf_L2_ok, dateOf_L3_ok, dateOf_L4_ok, dateOf_L5_ok, dateOf_L6_ok, dateOf_L7_ok, trivial⟩
def lengthR_L0 : Prop := ∀ σ : Nat → Value,
 σ 0 = .int .i64 (iv (σ 0)) →
 1 ≤ iv (σ 0) →
 iv (σ 0) ≤ 9999 →
 σ 1 = .int .i64 (iv (σ 1)) →
 1 ≤ iv (σ 1) →
 iv (σ 1) ≤ 12 →
    ((fitsL [.any, .any, (.intIn .i64 (some 1) (some 31)), .any, .any, .any, .any, .any, .any, .any, .any, .any, .any, .any, .any, .any] [σ 0, σ 1, (vI 31), vU, vU, vU, vU, vU, vU, vU, vU, vU, vU, vU, vU, vU] → ¬ lengthI [σ 0, σ 1, (vI 31), vU, vU, vU, vU, vU, vU, vU, vU, vU, vU, vU, vU, vU])) →
    False
def lengthR_L1 : Prop := ∀ σ : Nat → Value,
 σ 0 = .int .i64 (iv (σ 0)) →
 1 ≤ iv (σ 0) →
 iv (σ 0) ≤ 9999 →
 σ 1 = .int .i64 (iv (σ 1)) →
 1 ≤ iv (σ 1) →
 iv (σ 1) ≤ 12 →
 σ 2 = .int .i64 (iv (σ 2)) →
 1 ≤ iv (σ 2) →
 iv (σ 2) ≤ 31 →
 σ 16 = .int .i64 (iv (σ 16)) →
 (-693593) ≤ iv (σ 16) →
 iv (σ 16) ≤ 2958465 →
 σ 17 = .float .f64 (fv (σ 17)) →
 σ 18 = .int .i64 (iv (σ 18)) →
 0 ≤ iv (σ 18) →
 iv (σ 18) ≤ 0 →
 lengthI [σ 0, σ 1, σ 2, σ 3, σ 4, σ 5, σ 6, σ 7, σ 8, σ 9, σ 10, σ 11, σ 12, σ 13, σ 14, σ 15] →
 fv (σ 17) = FloatKind.f64.nearest (iv (σ 16)) →
 fromWR [σ 0, σ 1, σ 2, σ 16, σ 17, σ 18] →
 iv (σ 18) = 0 →
    lengthROut [σ 2] ∧ lengthR [σ 0, σ 1, σ 2]
def lengthR_L2 : Prop := ∀ σ : Nat → Value,
 σ 0 = .int .i64 (iv (σ 0)) →
 1 ≤ iv (σ 0) →
 iv (σ 0) ≤ 9999 →
 σ 1 = .int .i64 (iv (σ 1)) →
 1 ≤ iv (σ 1) →
 iv (σ 1) ≤ 12 →
 σ 2 = .int .i64 (iv (σ 2)) →
 1 ≤ iv (σ 2) →
 iv (σ 2) ≤ 31 →
 σ 16 = .int .i64 (iv (σ 16)) →
 (-693593) ≤ iv (σ 16) →
 iv (σ 16) ≤ 2958465 →
 σ 17 = .float .f64 (fv (σ 17)) →
 σ 18 = .int .i64 (iv (σ 18)) →
 1 ≤ iv (σ 18) →
 iv (σ 18) ≤ 1000 →
 σ 20 = .int .i64 (iv (σ 20)) →
 0 ≤ iv (σ 20) →
 iv (σ 20) ≤ 30 →
 lengthI [σ 0, σ 1, σ 2, σ 3, σ 4, σ 5, σ 6, σ 7, σ 8, σ 9, σ 10, σ 11, σ 12, σ 13, σ 14, σ 15] →
 fv (σ 17) = FloatKind.f64.nearest (iv (σ 16)) →
 fromWR [σ 0, σ 1, σ 2, σ 16, σ 17, σ 18] →
 iv (σ 20) = iv (σ 2) - 1 →
    ((fitsL [.any, .any, (.intIn .i64 (some 1) (some 31)), .any, .any, .any, .any, .any, .any, .any, .any, .any, .any, .any, .any, .any] [σ 0, σ 1, σ 20, σ 17, σ 18, σ 2, σ 20, (Value.tuple #[σ 17, σ 18]), σ 0, σ 1, σ 2, (Value.tuple #[σ 17, σ 18]), σ 17, σ 18, σ 18, σ 19] → lengthI [σ 0, σ 1, σ 20, σ 17, σ 18, σ 2, σ 20, (Value.tuple #[σ 17, σ 18]), σ 0, σ 1, σ 2, (Value.tuple #[σ 17, σ 18]), σ 17, σ 18, σ 18, σ 19] → ¬ lengthIM [σ 0, σ 1, σ 20, σ 17, σ 18, σ 2, σ 20, (Value.tuple #[σ 17, σ 18]), σ 0, σ 1, σ 2, (Value.tuple #[σ 17, σ 18]), σ 17, σ 18, σ 18, σ 19] < lengthIM [σ 0, σ 1, σ 2, σ 3, σ 4, σ 5, σ 6, σ 7, σ 8, σ 9, σ 10, σ 11, σ 12, σ 13, σ 14, σ 15])) →
 iv (σ 18) ≠ 0 →
    False
theorem lengthR_tie : lengthC.goals (cfgB lengthC.base [fromC]) [(149, 3, lengthI_)] 2000 = (lengthR_L0 ∧ lengthR_L1 ∧ lengthR_L2 ∧ True) := by kernel_rfl
theorem length_L0_ok : lengthR_L0 := by
  intro σ; intros
  specialize ‹fitsL _ _ → ¬ lengthI _› (by (simp only [fitsL, Sort_.fits]; repeat' (first | exact True.intro | (with_reducible refine And.intro ?_ ?_) | exact ⟨_, ‹_›⟩ | exact ⟨_, rfl⟩ | exact ⟨_, ‹_›, fun a h => by cases h; omega, fun b h => by cases h; omega⟩ | exact ⟨_, rfl, fun a h => by cases h; decide, fun b h => by cases h; decide⟩)))
  (simp only [lengthI, g0, gs, iv_int] at *)
  have := monI_pos (iv (σ 0)) (iv (σ 1))
  omega
theorem length_L1_ok : lengthR_L1 := by
  intro σ; intros
  (simp only [lengthI, fromWR, okD, lengthR, g0, gs] at *)
  have := monI_pos (iv (σ 0)) (iv (σ 1))
  exact ⟨lengthROut_of (by omega) (by omega), by omega⟩
theorem length_L2_ok : lengthR_L2 := by
  intro σ; intros
  have := monI_pos (iv (σ 0)) (iv (σ 1))
  have hI := ‹lengthI _›
  have hf := ‹fromWR _›
  simp only [lengthI, g0, gs] at hI
  simp only [fromWR, okD] at hf
  have e : monI (iv (σ 0)) (iv (σ 1)) ≤ iv (σ 20) := by omega
  specialize ‹fitsL _ _ → lengthI _ → ¬ (_ : Nat) < _› (by (simp only [fitsL, Sort_.fits]; repeat' (first | exact True.intro | (with_reducible refine And.intro ?_ ?_) | exact ⟨_, ‹_›⟩ | exact ⟨_, rfl⟩ | exact ⟨_, ‹_›, fun a h => by cases h; omega, fun b h => by cases h; omega⟩ | exact ⟨_, rfl, fun a h => by cases h; decide, fun b h => by cases h; decide⟩)))
  (simp only [lengthI, lengthIM, g0, gs] at *)
  omega
theorem length_ok : lengthC.ok Tryz.prog All := by
  refine by_tie lengthR_tie (by kernel_rfl) (all_cons from_ok all_nil) ?_
  exact ⟨length_L0_ok, length_L1_ok, length_L2_ok, trivial⟩
end Go.Proofs.Back
namespace Go.Proofs.Back
open Go.Ev Go.Dates Go.RowKit Go.Proofs.YtlpbimookmhjbaaGreatDoor
set_option maxRecDepth 1000000
def argC (x : Sh) : List Sh := [yes false, yes false, int0 1, int0 1, .row 93 7 1 [int0 0, int0 0, int0 1, x, noT, yes false, int0 0]]
def numV (x : Sh) : Sh := .agg [int0 1, x, noT, yes false, int0 0]
def mn (a b : Int) : Int := if a ≤ b then a else b
def edPre (k n : Int) : Prop := ∀ y m d, IsDate n y m d → 1 ≤ yOf y (m + k) ∧ yOf y (m + k) ≤ 9999
def edR (k n x : Int) : Prop := ∃ y m d, IsDate n y m d ∧ x = dayI (yOf y (m + k)) (mOf (m + k)) (mn d (monI (yOf y (m + k)) (mOf (m + k))))
def callYearR (l : List Value) : Prop := ∃ m d, IsDate (g l 10 + 693593) (g l 16) m d
def callMonthR (l : List Value) : Prop := ∃ y d, IsDate (g l 10 + 693593) y (g l 16) d
def callDayR (l : List Value) : Prop := ∃ y m, IsDate (g l 10 + 693593) y m (g l 16)
def callDateRPre (l : List Value) : Prop := 1 ≤ g l 36 ∧ g l 36 ≤ monI (g l 10) (g l 23)
def callDateR (l : List Value) : Prop := g l 42 = dayI (g l 10) (g l 23) (g l 36) - 693593
def callEdateRPre (l : List Value) : Prop := edPre (g l 23) (g l 10 + 693593)
def callEdateR (l : List Value) : Prop := edR (g l 23) (g l 10 + 693593) (g l 29 + 693593)
def callC (nm : ByteArray) (n : Nat) (cells : List Sh) (out : Sh) (id : String) (rel : List Value → Prop) (asks : Bool) (pre : List Value → Prop) : Con :=
  { f := 15, ins := [.sc (.is (.string nm)), .row 33 5 n cells], out := .tup [numV out, yes true], id := id, pre := pre, asks := asks, rel := rel, mrg := [86, 106, 136, 55] }
def yearC : Con := callC ⟨#[89, 69, 65, 82]⟩ 1 (argC dayS) (.whole true 1 9999) "callYearR" callYearR false (fun _ => True)
def monC : Con := callC ⟨#[77, 79, 78, 84, 72]⟩ 1 (argC dayS) (.whole true 1 12) "callMonthR" callMonthR false (fun _ => True)
def dayC : Con := callC ⟨#[68, 65, 89]⟩ 1 (argC dayS) (.whole true 1 31) "callDayR" callDayR false (fun _ => True)
def mkC : Con := callC ⟨#[68, 65, 84, 69]⟩ 3 (argC (.whole true 1 9999) ++ (argC (.whole true 1 12) ++ argC (.whole true 1 31))) dayS "callDateR" callDateR true callDateRPre
def edateC : Con := callC ⟨#[69, 68, 65, 84, 69]⟩ 2 (argC dayS ++ argC (.whole true (-12) 12)) dayS "callEdateR" callEdateR true callEdateRPre
def callEdateROut (l : List Value) : Prop := outOf edateC l
theorem callEdateROut_of {a x f b c d e : Value} (h : -693593 ≤ iv x ∧ iv x ≤ 2958465) : callEdateROut [a, x, f, b, c, d, e] := And.intro trivial (And.intro (in1 h.1 h.2) (And.intro trivial (And.intro trivial (And.intro trivial (And.intro trivial (And.intro trivial trivial))))))
theorem okD_mn {y m : Int} (h1 : 1 ≤ y) (h2 : y ≤ 9999) (d : Int) (hd : 1 ≤ d) : okD y (mOf m) (mn d (monI y (mOf m))) := by
  have := monI_pos y (mOf m)
  refine ⟨h1, h2, by unfold mOf; omega, by unfold mOf; omega, ?_, ?_⟩ <;> unfold mn <;> split <;> omega
theorem edate_fin {n k y m d x1 y2 m2 d2 l x : Int} (p : edPre k n) (h : IsDate n y m d) (e1 : x1 = dayI (yOf y (m + k)) (mOf (m + k)) 1 - 693593) (h2 : IsDate (x1 + 693593) y2 m2 d2) (el : l = monI y2 m2)
    (ex : (d ≤ l ∧ x = x1 + d - 1) ∨ (l < d ∧ x = x1 + l - 1)) : (-693593 ≤ x ∧ x ≤ 2958465) ∧ edR k n (x + 693593) := by
  obtain ⟨p1, p2⟩ := p y m d h
  have q := monI_pos (yOf y (m + k)) (mOf (m + k))
  have k1 : okD (yOf y (m + k)) (mOf (m + k)) 1 := ⟨p1, p2, by unfold mOf; omega, by unfold mOf; omega, by omega, by omega⟩
  have e2 : x1 + 693593 = dayI (yOf y (m + k)) (mOf (m + k)) 1 := by omega
  rw [e2] at h2
  obtain ⟨rfl, rfl, rfl⟩ := h2.unique (dayI_top k1)
  have k2 := okD_mn (m := m + k) p1 p2 d h.d1
  have r := (dayI_top k2).range
  have e3 : x + 693593 = dayI (yOf y (m + k)) (mOf (m + k)) (mn d (monI (yOf y (m + k)) (mOf (m + k)))) := by
    subst el
    unfold mn
    unfold dayI at e1 ⊢
    split <;> omega
  exact ⟨by omega, y, m, d, h, e3⟩
theorem of_same {m : Int} (h1 : 1 ≤ m) (h2 : m ≤ 12) (y : Int) : yOf y m = y ∧ mOf m = m := by unfold yOf mOf; omega
theorem bits {a u : Value} (s : a = .float .f64 (fv a)) (h : extRel .fbits [a] u) : iv u = fv a := by
  rw [s] at h
  simp only [extRel] at h
  rw [h]
  rfl
theorem dateOf_is {a b c d e f x xf o : Value} (h : dateOfR [a, b, c, d, e, f, x, xf, o]) : bv o = true ∧ iv x = dayI (yOf (iv a) (iv c)) (mOf (iv c)) (iv e) - 693593 := h
theorem not_both {a : Bool} (h : a = true) (k : a = false) : False := by rw [h] at k; cases k
end Go.Proofs.Back
