/- Small functions of floats, as they are called by the law of quotients. -/
import Derived.Test.YtgfoocnnidhepaaGreatDoorRows
import Derived.Test.YtgfoocnnidhepaaGreatDoorEvCon2
import Derived.Test.YtgfoocnnidhepaaGreatDoorFMod2
import Derived.Test.YtgfoocnnidhepaaGreatDoorEvBool
namespace Go.Proofs.Dv
open Go.Ev Go.RowKit Ieee Go.Proofs.YtgfoocnnidhepaaGreatDoor
set_option maxRecDepth 1000000
abbrev vZ : Value := .int .i64 0
abbrev vO : Value := .int .i64 1
abbrev vI (n : Int) : Value := .int .i64 n
abbrev vT : Value := .bool true
abbrev vF : Value := .bool false
abbrev vE : Value := .string ⟨#[]⟩
abbrev vU : Value := .tuple #[]
abbrev vG (n : Nat) : Value := .float .f64 n
abbrev vS (b : Array UInt8) : Value := .string ⟨b⟩
abbrev tI (x : Value) : Prop := x = .int .i64 (iv x)
abbrev tF (x : Value) : Prop := x = .float .f64 (fv x)
abbrev fl : Sh := .sc (.float .f64)
abbrev i64S : Sh := .sc (.int .i64)
def rg (a b : Int) : Sh := .sc (.intIn .i64 (some a) (some b))
def int0 (n : Int) : Sh := .sc (.is (.int .i64 n))
def yes (b : Bool) : Sh := .sc (.is (.bool b))
def noT : Sh := .sc (.is (.string ⟨#[]⟩))
def str (b : Array UInt8) : Sh := .sc (.is (.string ⟨b⟩))
def numV (x : Sh) : Sh := .agg [int0 1, x, noT, yes false, int0 0]
def argC (x : Sh) : List Sh := [yes false, yes false, int0 1, int0 1, .row 54 7 1 [int0 0, int0 0, int0 1, x, noT, yes false, int0 0]]
def gv (l : List Value) (n : Nat) : Value := l.getD n (.tuple #[])
def X : List (Nat × ExtOp) := [(14, .fbits), (13, .ffrom), (76, .floor), (98, .ceil), (124, .trunc), (117, .sqrt)]
def isTrue (l : List Value) : Prop := l = [.bool true]
def absR (l : List Value) : Prop := fv (gv l 1) = fv (gv l 0) % 2 ^ 63
def infR (l : List Value) : Prop := Fin64 (fv (gv l 0)) → bv (gv l 2) = false
def nanR (l : List Value) : Prop := Fin64 (fv (gv l 0)) → bv (gv l 1) = false
def normRPre (l : List Value) : Prop := ∃ n : Nat, n ≠ 0 ∧ n < 4294967296 ∧ fv (gv l 0) = nr n
def normR (l : List Value) : Prop := fv (gv l 1) = fv (gv l 0)
def frRPre (l : List Value) : Prop := ∃ n : Nat, n ≠ 0 ∧ n < 4294967296 ∧ fv (gv l 0) = nr n
def frR (l : List Value) : Prop := ∀ n : Nat, n ≠ 0 → n < 4294967296 → fv (gv l 0) = nr n → fv (gv l 1) = frw n ∧ iv (gv l 2) = (n.log2 : Nat) + 1
def ldRPre (l : List Value) : Prop := ∃ n k : Nat, n ≠ 0 ∧ n * 2 ^ k < 4294967296 ∧ fv (gv l 0) = nr n ∧ iv (gv l 1) = (k : Nat)
def ldR (l : List Value) : Prop := ∀ n k : Nat, n ≠ 0 → n * 2 ^ k < 4294967296 → fv (gv l 0) = nr n → iv (gv l 1) = (k : Nat) → fv (gv l 2) = nr (n * 2 ^ k)
def modRPre (l : List Value) : Prop := ∃ x y : Nat, x < 4294967296 ∧ y ≠ 0 ∧ y < 4294967296 ∧ fv (gv l 0) = nr x ∧ fv (gv l 1) = nr y
def modR (l : List Value) : Prop := ∀ x y : Nat, x < 4294967296 → y ≠ 0 → y < 4294967296 → fv (gv l 0) = nr x → fv (gv l 1) = nr y → fv (gv l 2) = nr (x % y)
def modI (l : List Value) : Prop := ∃ x y r : Nat, x < 4294967296 ∧ y ≠ 0 ∧ y < 4294967296 ∧ r < 4294967296 ∧ fv (gv l 0) = nr x ∧ fv (gv l 1) = nr y ∧ fv (gv l 2) = nr r ∧ r % y = x % y
def modIM (l : List Value) : Nat := (flr (fv (gv l 2))).toNat
def modI_ : LSpec := ⟨"modI", modI, modIM, some [0, 1], []⟩
def gcdRPre (l : List Value) : Prop := ∃ x y : Nat, x < 4294967296 ∧ y < 4294967296 ∧ fv (gv l 0) = nr x ∧ fv (gv l 1) = nr y
def gcdR (l : List Value) : Prop := ∀ x y : Nat, x < 4294967296 → y < 4294967296 → fv (gv l 0) = nr x → fv (gv l 1) = nr y → fv (gv l 2) = nr (Nat.gcd x y)
def gcdI (l : List Value) : Prop := ∃ x y a b : Nat, x < 4294967296 ∧ y < 4294967296 ∧ a < 4294967296 ∧ b < 4294967296 ∧ fv (gv l 0) = nr x ∧ fv (gv l 1) = nr y ∧ fv (gv l 2) = nr a ∧ fv (gv l 3) = nr b ∧ Nat.gcd a b = Nat.gcd x y
def gcdIM (l : List Value) : Nat := (flr (fv (gv l 3))).toNat
def gcdI_ : LSpec := ⟨"gcdI", gcdI, gcdIM, some [0, 1], []⟩
def liveC : Con := { f := 9, ins := [], out := .sc .bool, id := "isTrue", rel := isTrue }
def absC : Con := { f := 10, ins := [fl], out := fl, id := "absR", rel := absR }
def infC : Con := { f := 64, ins := [fl, int0 0], out := .sc .bool, id := "infR", rel := infR }
def nanC : Con := { f := 115, ins := [fl], out := .sc .bool, id := "nanR", rel := nanR }
def normC : Con := { f := 134, ins := [fl], out := .tup [fl, int0 0], id := "normR", pre := normRPre, asks := true, rel := normR }
def frexpC : Con := { f := 145, ins := [fl], out := .tup [fl, rg 1 53], id := "frR", pre := frRPre, asks := true, rel := frR }
def ldexpC : Con := { f := 67, ins := [fl, i64S], out := fl, id := "ldR", pre := ldRPre, asks := true, rel := ldR }
def modC : Con := { f := 74, ins := [fl, fl], out := fl, id := "modR", pre := modRPre, asks := true, rel := modR }
def gcdC : Con := { f := 51, ins := [fl, fl], out := fl, id := "gcdR", pre := gcdRPre, asks := true, rel := gcdR }
def outOf (c : Con) (l : List Value) : Prop := bdsM (omaskSh c.out) (newSh c.out 0).1 l
def frROut (l : List Value) : Prop := outOf frexpC l
theorem all_nil {P : Con → Prop} : ∀ c ∈ ([] : List Con), P c := fun _ h => by cases h
theorem all_cons {P : Con → Prop} {c : Con} {l : List Con} (h : P c) (t : ∀ c ∈ l, P c) : ∀ x ∈ c :: l, P x := fun x hx => by
  cases hx with
  | head => exact h
  | tail _ hx => exact t x hx
theorem mixed : Tryz.prog.follows .mixedOrders = true := by kernel_rfl
theorem extAt_get {f : Nat} {x : ExtOp} (h : (Tryz.prog.funcs[f]?).isSome = true) (hn : ((Tryz.prog.funcs[f]?.get h).name == "runtime.NumGoroutine") = false) (hb : (Tryz.prog.funcs[f]?.get h).body.isNone = true)
    (hn : Extern.findNext (Tryz.prog.funcs[f]?.get h) = none) (he : Extern.find (Tryz.prog.funcs[f]?.get h) = some x.sem) : ExtAt Tryz.prog f x :=
  extAt_of (Option.some_get h).symm ‹_› hb hn he
theorem exts_ok : ∀ p ∈ X, ExtAt Tryz.prog p.1 p.2 := by
  intro p hp
  simp only [X, List.mem_cons, List.not_mem_nil, or_false] at hp
  rcases hp with rfl | rfl | rfl | rfl | rfl | rfl <;> exact extAt_get (by kernel_rfl) (by kernel_rfl) (by kernel_rfl) (by kernel_rfl) (by kernel_rfl)
noncomputable def cfgB (base : Nat) (cons : List Con) : Cfg := cfgG Tryz.prog base (entersOf Tryz.prog) X cons
def All (_ : World) : Prop := True
theorem by_tie {c : Con} {cons : List Con} {K : List (Nat × Nat × LSpec)} {n : Nat} {Q : Prop} (tie : c.goals (cfgB c.base cons) K n = Q) (he : entersOf Tryz.prog c.f = true) (hc : ∀ c ∈ cons, c.ok Tryz.prog All) (h : Q) : c.ok Tryz.prog All := by
  have h' : c.goals (cfgB c.base cons) K n := by rw [tie]; exact h
  exact con_ok (C := cfgB c.base cons) (K := K) (n := n) mixed he (fun w hw => { (cfg_ok (B := w.heap.size) (G := c.base) (w0 := ⟨w, [], Tryz.prog⟩) rfl (fun _ h => h) exts_ok) with summ := conSumm_ok (cond := All) (fun _ _ => trivial) hc }) h'
theorem fin0 : Fin64 0 ∧ sv 0 = 0 := by
  have h := whole_sv (WholeF.near (n := 0) (by decide) (by decide))
  rw [near_zero] at h
  exact ⟨h.1, by rw [h.2.1]; simp⟩
theorem ford_self {x : Nat} (h : Fin64 x) : ford x x = some .eq := by rw [ford_fin h h]; exact congrArg some (Int.compare_eq_eq.2 rfl)
theorem ford_zero {x : Nat} (h : Fin64 x) : ford x 0 = some .eq ↔ sv x = 0 := by
  rw [ford_fin h fin0.1, fin0.2, Option.some.injEq]; exact Int.compare_eq_eq
theorem ford_big {x : Nat} (h : Fin64 x) : ford (x % 2 ^ 63) 9218868437227405311 ≠ some .gt := by
  have := (order_max (abs_fin h).1).1
  exact this
theorem abs_x {x a b r : Value} (hx : x = .float .f64 (fv x)) (h1 : extRel .fbits [x] a) (h2 : ibin .andNot IntKind.u64 (iv a) 9223372036854775808 = some (.int IntKind.u64 (iv b))) (hb : b = .int .u64 (iv b)) (h3 : extRel .ffrom [b] r) : fv r = fv x % 2 ^ 63 := abs_of hx h1 h2 hb h3
theorem in1 {k : IntKind} {a b : Int} {v : Value} (h1 : a ≤ iv v) (h2 : iv v ≤ b) : bd1 (.intIn k (some a) (some b)) v := ⟨fun x e => by cases e; exact h1, fun x e => by cases e; exact h2⟩
theorem nr_fin {x n : Nat} (h : x = nr n) (hn : n < 4294967296) : Fin64 x := by rw [h]; exact (nr_sv (by omega)).1
theorem nr_ne {x n : Nat} (h : x = nr n) (hn : n < 4294967296) (h0 : n ≠ 0) (e : ford x 0 = some .eq) : False := by
  rw [h] at e; exact h0 ((nr_nought (by omega)).1 e)
def infR_L0 : Prop := ∀ σ : Nat → Value,
 tF (σ 0) →
 σ 1 = vZ →
 σ 2 = .int .u64 (iv (σ 2)) →
 σ 3 = .int .u64 (iv (σ 3)) →
 tF (σ 4) →
 σ 5 = .bool (bv (σ 5)) →
 extRel .fbits [σ 0] (σ 2) →
 ibin .andNot IntKind.u64 (iv (σ 2)) (9223372036854775808) = some (.int IntKind.u64 (iv (σ 3))) →
 extRel .ffrom [σ 3] (σ 4) →
 fcmpV .gtr .f64 (fv (σ 4)) (9218868437227405311) = some (.bool (bv (σ 5))) →
    infR [σ 0, vZ, σ 5]
theorem infR_tie : infC.goals (cfgB infC.base []) [] 2000 = (infR_L0 ∧ True) := by kernel_rfl
theorem inf_ok : infC.ok Tryz.prog All := by
  refine by_tie infR_tie (by kernel_rfl) all_nil ⟨?_, trivial⟩
  intro σ; intros
  have e := abs_x (x := σ 0) (a := σ 2) (b := σ 3) (r := σ 4) ‹_› ‹_› ‹_› ‹_› ‹_›
  have h := ‹fcmpV .gtr .f64 (fv (σ 4)) _ = _›
  rw [e] at h
  intro p
  have p' : Fin64 (fv (σ 0)) := p
  exact (cmp_abs_max h (fun n => by unfold Fin64 at p'; unfold Nan64 at n; omega)).2 p'
def absR_L0 : Prop := ∀ σ : Nat → Value,
 tF (σ 0) →
 σ 1 = .int .u64 (iv (σ 1)) →
 σ 2 = .int .u64 (iv (σ 2)) →
 tF (σ 3) →
 extRel .fbits [σ 0] (σ 1) →
 ibin .andNot IntKind.u64 (iv (σ 1)) (9223372036854775808) = some (.int IntKind.u64 (iv (σ 2))) →
 extRel .ffrom [σ 2] (σ 3) →
    absR [σ 0, σ 3]
theorem absR_tie : absC.goals (cfgB absC.base []) [] 2000 = (absR_L0 ∧ True) := by kernel_rfl
theorem abs_ok : absC.ok Tryz.prog All := by
  refine by_tie absR_tie (by kernel_rfl) all_nil ⟨?_, trivial⟩
  intro σ; intros
  exact abs_x (a := σ 1) (b := σ 2) ‹_› ‹_› ‹_› ‹_› ‹_›
def nanR_L0 : Prop := ∀ σ : Nat → Value,
 tF (σ 0) →
 σ 1 = .bool (bv (σ 1)) →
 fcmpV .neq .f64 (fv (σ 0)) (fv (σ 0)) = some (.bool (bv (σ 1))) →
    nanR [σ 0, σ 1]
theorem nanR_tie : nanC.goals (cfgB nanC.base []) [] 2000 = (nanR_L0 ∧ True) := by kernel_rfl
theorem nan_ok : nanC.ok Tryz.prog All := by
  refine by_tie nanR_tie (by kernel_rfl) all_nil ⟨?_, trivial⟩
  intro σ; intros
  have h := ‹fcmpV .neq .f64 (fv (σ 0)) (fv (σ 0)) = _›
  intro p
  have p' : Fin64 (fv (σ 0)) := p
  rw [cmp_sv p' p' (k := .i64) rfl] at h
  simp only [ibin, Option.some.injEq, Value.bool.injEq] at h
  show bv (σ 1) = false
  rw [← h]; simp
theorem tiny_sv : Fin64 4503599627370496 ∧ sv 4503599627370496 < KK := ⟨by unfold Fin64; decide +kernel, by decide +kernel⟩
theorem not_tiny {x a n : Nat} (h0 : n ≠ 0) (h : n < 4294967296) (hx : x = nr n) (ha : a = x % 2 ^ 63) : ford a 4503599627370496 ≠ some .lt := fun k => by
  have p := (nr_parts h0 (show n < 2 ^ 53 by omega)).1
  rw [hx, Nat.mod_eq_of_lt p] at ha
  obtain ⟨f, s, _⟩ := nr_sv (n := n) (by omega)
  rw [ha, ford_fin f tiny_sv.1, Option.some.injEq, cmp_lt, s] at k
  have := tiny_sv.2
  have := KK_pos
  have : 1 * KK ≤ (n : Int) * KK := Int.mul_le_mul_of_nonneg_right (by omega) (by omega)
  omega
def normR_L0 : Prop := ∀ σ : Nat → Value,
 tF (σ 0) →
 tF (σ 1) →
 tF (σ 3) →
 normRPre [σ 0] →
 absR [σ 0, σ 1] →
 (farV .mul .f64 (fv (σ 0)) (4841369599423283200) = some (some (fv (σ 3))) ∨ (farV .mul .f64 (fv (σ 0)) (4841369599423283200) = some none ∧ Nan64 (fv (σ 3)))) →
 ford (fv (σ 1)) (4503599627370496) = some .lt →
    False
def normR_L1 : Prop := ∀ σ : Nat → Value,
 tF (σ 0) →
 tF (σ 1) →
 normRPre [σ 0] →
 absR [σ 0, σ 1] →
 ford (fv (σ 1)) (4503599627370496) ≠ some .lt →
    normR [σ 0, σ 0, vZ]
theorem normR_tie : normC.goals (cfgB normC.base [absC]) [] 2000 = (normR_L0 ∧ normR_L1 ∧ True) := by kernel_rfl
theorem norm_ok : normC.ok Tryz.prog All := by
  refine by_tie normR_tie (by kernel_rfl) (all_cons abs_ok all_nil) ⟨?_, ?_, trivial⟩
  · intro σ; intros
    obtain ⟨n, h0, h, hx⟩ : ∃ n : Nat, n ≠ 0 ∧ n < 4294967296 ∧ fv (σ 0) = nr n := (by have h := ‹normRPre _›; exact h)
    have ha_ := ‹absR [σ 0, σ 1]›
    have ha : fv (σ 1) = fv (σ 0) % 2 ^ 63 := ha_
    exact not_tiny h0 h hx ha ‹ford (fv (σ 1)) _ = some .lt›
  · intro σ; intros; exact rfl
theorem frROut_of {f e : Value} (h1 : 1 ≤ iv e) (h2 : iv e ≤ 53) : frROut [f, e] := And.intro trivial (And.intro (in1 h1 h2) trivial)
def frR_L0 : Prop := ∀ σ : Nat → Value,
 tF (σ 0) →
 frRPre [σ 0] →
 ford (fv (σ 0)) (0) = some .eq →
    False
def frR_L1 : Prop := ∀ σ : Nat → Value,
 tF (σ 0) →
 frRPre [σ 0] →
 infR [σ 0, vZ, σ 2] →
 bv (σ 2) = true →
 ford (fv (σ 0)) (0) ≠ some .eq →
    False
def frR_L2 : Prop := ∀ σ : Nat → Value,
 tF (σ 0) →
 frRPre [σ 0] →
 infR [σ 0, vZ, σ 2] →
 nanR [σ 0, σ 3] →
 bv (σ 3) = true →
 bv (σ 2) = false →
 ford (fv (σ 0)) (0) ≠ some .eq →
    False
def frR_L3 : Prop := ∀ σ : Nat → Value,
 tF (σ 0) →
 tF (σ 4) →
 σ 5 = vZ →
 σ 6 = .int .u64 (iv (σ 6)) →
 σ 7 = .int .u64 (iv (σ 7)) →
 σ 8 = .int .u64 (iv (σ 8)) →
 tI (σ 9) →
 tI (σ 10) →
 tI (σ 11) →
 tI (σ 12) →
 σ 13 = .int .u64 (iv (σ 13)) →
 σ 14 = .int .u64 (iv (σ 14)) →
 tF (σ 15) →
 frRPre [σ 0] →
 infR [σ 0, vZ, σ 2] →
 nanR [σ 0, σ 3] →
 normR [σ 0, σ 4, vZ] →
 extRel .fbits [σ 4] (σ 6) →
 iv (σ 7) = (iv (σ 6) : Int).fdiv (2 ^ min (52 : Int).toNat IntKind.u64.bits) →
 ibin .and IntKind.u64 (iv (σ 7)) (2047) = some (.int IntKind.u64 (iv (σ 8))) →
 iv (σ 9) = IntKind.i64.wrap (iv (σ 8)) →
 iv (σ 10) = IntKind.i64.wrap (iv (σ 9) - 1023) →
 iv (σ 11) = IntKind.i64.wrap (iv (σ 10) + 1) →
 iv (σ 12) = IntKind.i64.wrap (0 + iv (σ 11)) →
 ibin .andNot IntKind.u64 (iv (σ 6)) (9218868437227405312) = some (.int IntKind.u64 (iv (σ 13))) →
 ibin .or IntKind.u64 (iv (σ 13)) (4602678819172646912) = some (.int IntKind.u64 (iv (σ 14))) →
 extRel .ffrom [σ 14] (σ 15) →
 bv (σ 3) = false →
 bv (σ 2) = false →
 ford (fv (σ 0)) (0) ≠ some .eq →
    frROut [σ 15, σ 12] ∧ frR [σ 0, σ 15, σ 12]
def frR_L4 : Prop := ∀ σ : Nat → Value,
 tF (σ 0) →
 frRPre [σ 0] →
 infR [σ 0, vZ, σ 2] →
 nanR [σ 0, σ 3] →
 ¬ normRPre [σ 0] →
 bv (σ 3) = false →
 bv (σ 2) = false →
 ford (fv (σ 0)) (0) ≠ some .eq →
    False
theorem frR_tie : frexpC.goals (cfgB frexpC.base [absC, infC, nanC, normC]) [] 2000 = (frR_L0 ∧ frR_L1 ∧ frR_L2 ∧ frR_L3 ∧ frR_L4 ∧ True) := by kernel_rfl
theorem frR_L0_ok : frR_L0 := by
  intro σ; intros
  obtain ⟨n, h0, h, hx⟩ : ∃ n : Nat, n ≠ 0 ∧ n < 4294967296 ∧ fv (σ 0) = nr n := (by have h := ‹frRPre _›; exact h)
  exact nr_ne hx h h0 ‹ford (fv (σ 0)) 0 = some .eq›
theorem frR_L1_ok : frR_L1 := by
  intro σ; intros
  obtain ⟨n, h0, h, hx⟩ : ∃ n : Nat, n ≠ 0 ∧ n < 4294967296 ∧ fv (σ 0) = nr n := (by have h := ‹frRPre _›; exact h)
  have i0_ := ‹infR [σ 0, vZ, σ 2]›
  have i0 : Fin64 (fv (σ 0)) → bv (σ 2) = false := i0_
  have i1 := ‹bv (σ 2) = true›
  rw [i0 (nr_fin hx h)] at i1
  cases i1
theorem frR_L2_ok : frR_L2 := by
  intro σ; intros
  obtain ⟨n, h0, h, hx⟩ : ∃ n : Nat, n ≠ 0 ∧ n < 4294967296 ∧ fv (σ 0) = nr n := (by have h := ‹frRPre _›; exact h)
  have i0_ := ‹nanR [σ 0, σ 3]›
  have i0 : Fin64 (fv (σ 0)) → bv (σ 3) = false := i0_
  have i1 := ‹bv (σ 3) = true›
  rw [i0 (nr_fin hx h)] at i1
  cases i1
theorem frR_L3_ok : frR_L3 := by
  intro σ; intros
  obtain ⟨n, h0, h, hx⟩ : ∃ n : Nat, n ≠ 0 ∧ n < 4294967296 ∧ fv (σ 0) = nr n := (by have h := ‹frRPre _›; exact h)
  have en_ := ‹normR [σ 0, σ 4, vZ]›
  have en : fv (σ 4) = fv (σ 0) := en_
  have hb := fbits_iv (a := σ 4) (r := σ 6) ‹_› ‹_›
  rw [en] at hb
  have hf := ffrom_fv (a := σ 14) (r := σ 15) ‹_› ‹_›
  have key : ∀ n : Nat, n ≠ 0 → n < 4294967296 → fv (σ 0) = nr n → fv (σ 15) = frw n ∧ iv (σ 12) = (n.log2 : Nat) + 1 := fun n h0 h hx => by
    rw [hx] at hb
    obtain ⟨k1, k2⟩ := frexp_bits h0 (by omega) hb ‹iv (σ 7) = (iv (σ 6) : Int).fdiv (2 ^ min (52 : Int).toNat IntKind.u64.bits)› ‹ibin .and IntKind.u64 (iv (σ 7)) (2047) = some (.int IntKind.u64 (iv (σ 8)))› ‹iv (σ 9) = IntKind.i64.wrap (iv (σ 8))› ‹iv (σ 10) = IntKind.i64.wrap (iv (σ 9) - 1023)› ‹iv (σ 11) = IntKind.i64.wrap (iv (σ 10) + 1)› ‹iv (σ 12) = IntKind.i64.wrap (0 + iv (σ 11))› ‹ibin .andNot IntKind.u64 (iv (σ 6)) (9218868437227405312) = some (.int IntKind.u64 (iv (σ 13)))› ‹ibin .or IntKind.u64 (iv (σ 13)) (4602678819172646912) = some (.int IntKind.u64 (iv (σ 14)))›
    exact ⟨by rw [hf, k1, Int.toNat_natCast], k2⟩
  have k := key n h0 h hx
  have l2 : n.log2 < 53 := log2_lt h0 (by omega)
  exact ⟨frROut_of (by omega) (by omega), key⟩
theorem frR_L4_ok : frR_L4 := by
  intro σ; intros
  obtain ⟨n, h0, h, hx⟩ : ∃ n : Nat, n ≠ 0 ∧ n < 4294967296 ∧ fv (σ 0) = nr n := (by have h := ‹frRPre _›; exact h)
  have n_ := ‹¬ normRPre _›
  exact n_ ⟨n, h0, h, hx⟩
theorem frexp_ok : frexpC.ok Tryz.prog All :=
  by_tie frR_tie (by kernel_rfl) (all_cons abs_ok (all_cons inf_ok (all_cons nan_ok (all_cons norm_ok all_nil)))) ⟨frR_L0_ok, frR_L1_ok, frR_L2_ok, frR_L3_ok, frR_L4_ok, trivial⟩
theorem lg_bd {n k : Nat} (h0 : n ≠ 0) (h : n * 2 ^ k < 4294967296) : n.log2 + k < 53 ∧ n * 2 ^ k < 2 ^ 53 ∧ n < 4294967296 := by
  have hp := Nat.two_pow_pos k
  have hl := log2_lt (Nat.mul_ne_zero h0 (by omega)) (show n * 2 ^ k < 2 ^ 53 by omega)
  rw [log2_shift h0] at hl
  exact ⟨hl, by omega, Nat.lt_of_le_of_lt (Nat.le_mul_of_pos_right n hp) h⟩
def ldR_L0 : Prop := ∀ σ : Nat → Value,
 tF (σ 0) →
 tI (σ 1) →
 ldRPre [σ 0, σ 1] →
 ford (fv (σ 0)) (0) = some .eq →
    ldR [σ 0, σ 1, σ 0]
def ldR_L1 : Prop := ∀ σ : Nat → Value,
 tF (σ 0) →
 tI (σ 1) →
 ldRPre [σ 0, σ 1] →
 infR [σ 0, vZ, σ 3] →
 bv (σ 3) = true →
 ford (fv (σ 0)) (0) ≠ some .eq →
    ldR [σ 0, σ 1, σ 0]
def ldR_L2 : Prop := ∀ σ : Nat → Value,
 tF (σ 0) →
 tI (σ 1) →
 ldRPre [σ 0, σ 1] →
 infR [σ 0, vZ, σ 3] →
 nanR [σ 0, σ 4] →
 bv (σ 4) = true →
 bv (σ 3) = false →
 ford (fv (σ 0)) (0) ≠ some .eq →
    ldR [σ 0, σ 1, σ 0]
def ldR_L3 : Prop := ∀ σ : Nat → Value,
 tF (σ 0) →
 tI (σ 1) →
 tF (σ 5) →
 σ 6 = vZ →
 tI (σ 7) →
 σ 8 = .int .u64 (iv (σ 8)) →
 σ 9 = .int .u64 (iv (σ 9)) →
 tI (σ 10) →
 tI (σ 11) →
 tI (σ 12) →
 tI (σ 13) →
 iv (σ 13) ≤ (-1076) →
 σ 15 = .int .u64 (iv (σ 15)) →
 σ 16 = .int .u64 (iv (σ 16)) →
 tF (σ 17) →
 ldRPre [σ 0, σ 1] →
 infR [σ 0, vZ, σ 3] →
 nanR [σ 0, σ 4] →
 normR [σ 0, σ 5, vZ] →
 iv (σ 7) = IntKind.i64.wrap (iv (σ 1) + 0) →
 extRel .fbits [σ 5] (σ 8) →
 iv (σ 9) = (iv (σ 8) : Int).fdiv (2 ^ min (52 : Int).toNat IntKind.u64.bits) →
 iv (σ 10) = IntKind.i64.wrap (iv (σ 9)) →
 ibin .and IntKind.i64 (iv (σ 10)) (2047) = some (.int IntKind.i64 (iv (σ 11))) →
 iv (σ 12) = IntKind.i64.wrap (iv (σ 11) - 1023) →
 iv (σ 13) = IntKind.i64.wrap (iv (σ 7) + iv (σ 12)) →
 ibin .and IntKind.u64 (iv (σ 8)) (9223372036854775808) = some (.int IntKind.u64 (iv (σ 15))) →
 ibin .or IntKind.u64 (0) (iv (σ 15)) = some (.int IntKind.u64 (iv (σ 16))) →
 extRel .ffrom [σ 16] (σ 17) →
 iv (σ 13) < (-1075) →
 bv (σ 4) = false →
 bv (σ 3) = false →
 ford (fv (σ 0)) (0) ≠ some .eq →
    ldR [σ 0, σ 1, σ 17]
def ldR_L4 : Prop := ∀ σ : Nat → Value,
 tF (σ 0) →
 tI (σ 1) →
 tF (σ 5) →
 σ 6 = vZ →
 tI (σ 7) →
 σ 8 = .int .u64 (iv (σ 8)) →
 σ 9 = .int .u64 (iv (σ 9)) →
 tI (σ 10) →
 tI (σ 11) →
 tI (σ 12) →
 tI (σ 13) →
 1024 ≤ iv (σ 13) →
 ldRPre [σ 0, σ 1] →
 infR [σ 0, vZ, σ 3] →
 nanR [σ 0, σ 4] →
 normR [σ 0, σ 5, vZ] →
 iv (σ 7) = IntKind.i64.wrap (iv (σ 1) + 0) →
 extRel .fbits [σ 5] (σ 8) →
 iv (σ 9) = (iv (σ 8) : Int).fdiv (2 ^ min (52 : Int).toNat IntKind.u64.bits) →
 iv (σ 10) = IntKind.i64.wrap (iv (σ 9)) →
 ibin .and IntKind.i64 (iv (σ 10)) (2047) = some (.int IntKind.i64 (iv (σ 11))) →
 iv (σ 12) = IntKind.i64.wrap (iv (σ 11) - 1023) →
 iv (σ 13) = IntKind.i64.wrap (iv (σ 7) + iv (σ 12)) →
 ford (fv (σ 5)) (0) = some .lt →
 1023 < iv (σ 13) →
 (-1075) ≤ iv (σ 13) →
 bv (σ 4) = false →
 bv (σ 3) = false →
 ford (fv (σ 0)) (0) ≠ some .eq →
    ldR [σ 0, σ 1, (vG 18442240474082181120)]
def ldR_L5 : Prop := ∀ σ : Nat → Value,
 tF (σ 0) →
 tI (σ 1) →
 tF (σ 5) →
 σ 6 = vZ →
 tI (σ 7) →
 σ 8 = .int .u64 (iv (σ 8)) →
 σ 9 = .int .u64 (iv (σ 9)) →
 tI (σ 10) →
 tI (σ 11) →
 tI (σ 12) →
 tI (σ 13) →
 1024 ≤ iv (σ 13) →
 ldRPre [σ 0, σ 1] →
 infR [σ 0, vZ, σ 3] →
 nanR [σ 0, σ 4] →
 normR [σ 0, σ 5, vZ] →
 iv (σ 7) = IntKind.i64.wrap (iv (σ 1) + 0) →
 extRel .fbits [σ 5] (σ 8) →
 iv (σ 9) = (iv (σ 8) : Int).fdiv (2 ^ min (52 : Int).toNat IntKind.u64.bits) →
 iv (σ 10) = IntKind.i64.wrap (iv (σ 9)) →
 ibin .and IntKind.i64 (iv (σ 10)) (2047) = some (.int IntKind.i64 (iv (σ 11))) →
 iv (σ 12) = IntKind.i64.wrap (iv (σ 11) - 1023) →
 iv (σ 13) = IntKind.i64.wrap (iv (σ 7) + iv (σ 12)) →
 ford (fv (σ 5)) (0) ≠ some .lt →
 1023 < iv (σ 13) →
 (-1075) ≤ iv (σ 13) →
 bv (σ 4) = false →
 bv (σ 3) = false →
 ford (fv (σ 0)) (0) ≠ some .eq →
    ldR [σ 0, σ 1, (vG 9218868437227405312)]
def ldR_L6 : Prop := ∀ σ : Nat → Value,
 tF (σ 0) →
 tI (σ 1) →
 tF (σ 5) →
 σ 6 = vZ →
 tI (σ 7) →
 σ 8 = .int .u64 (iv (σ 8)) →
 σ 9 = .int .u64 (iv (σ 9)) →
 tI (σ 10) →
 tI (σ 11) →
 tI (σ 12) →
 tI (σ 13) →
 (-1075) ≤ iv (σ 13) →
 iv (σ 13) ≤ (-1023) →
 tI (σ 17) →
 (-1022) ≤ iv (σ 17) →
 iv (σ 17) ≤ (-970) →
 σ 18 = .int .u64 (iv (σ 18)) →
 tI (σ 19) →
 1 ≤ iv (σ 19) →
 iv (σ 19) ≤ 53 →
 σ 20 = .int .u64 (iv (σ 20)) →
 1 ≤ iv (σ 20) →
 iv (σ 20) ≤ 53 →
 σ 21 = .int .u64 (iv (σ 21)) →
 4503599627370496 ≤ iv (σ 21) →
 iv (σ 21) ≤ 238690780250636288 →
 σ 22 = .int .u64 (iv (σ 22)) →
 tF (σ 23) →
 tF (σ 24) →
 ldRPre [σ 0, σ 1] →
 infR [σ 0, vZ, σ 3] →
 nanR [σ 0, σ 4] →
 normR [σ 0, σ 5, vZ] →
 iv (σ 7) = IntKind.i64.wrap (iv (σ 1) + 0) →
 extRel .fbits [σ 5] (σ 8) →
 iv (σ 9) = (iv (σ 8) : Int).fdiv (2 ^ min (52 : Int).toNat IntKind.u64.bits) →
 iv (σ 10) = IntKind.i64.wrap (iv (σ 9)) →
 ibin .and IntKind.i64 (iv (σ 10)) (2047) = some (.int IntKind.i64 (iv (σ 11))) →
 iv (σ 12) = IntKind.i64.wrap (iv (σ 11) - 1023) →
 iv (σ 13) = IntKind.i64.wrap (iv (σ 7) + iv (σ 12)) →
 iv (σ 17) = iv (σ 13) + 53 →
 ibin .andNot IntKind.u64 (iv (σ 8)) (9218868437227405312) = some (.int IntKind.u64 (iv (σ 18))) →
 iv (σ 19) = iv (σ 17) + 1023 →
 iv (σ 20) = iv (σ 19) →
 iv (σ 21) = iv (σ 20) * 2 ^ (52 : Int).toNat →
 ibin .or IntKind.u64 (iv (σ 18)) (iv (σ 21)) = some (.int IntKind.u64 (iv (σ 22))) →
 extRel .ffrom [σ 22] (σ 23) →
 (farV .mul .f64 (4368491638549381120) (fv (σ 23)) = some (some (fv (σ 24))) ∨ (farV .mul .f64 (4368491638549381120) (fv (σ 23)) = some none ∧ Nan64 (fv (σ 24)))) →
 iv (σ 13) < (-1022) →
 iv (σ 13) ≤ 1023 →
 (-1075) ≤ iv (σ 13) →
 bv (σ 4) = false →
 bv (σ 3) = false →
 ford (fv (σ 0)) (0) ≠ some .eq →
    ldR [σ 0, σ 1, σ 24]
def ldR_L7 : Prop := ∀ σ : Nat → Value,
 tF (σ 0) →
 tI (σ 1) →
 tF (σ 5) →
 σ 6 = vZ →
 tI (σ 7) →
 σ 8 = .int .u64 (iv (σ 8)) →
 σ 9 = .int .u64 (iv (σ 9)) →
 tI (σ 10) →
 tI (σ 11) →
 tI (σ 12) →
 tI (σ 13) →
 (-1022) ≤ iv (σ 13) →
 iv (σ 13) ≤ 1023 →
 σ 17 = .int .u64 (iv (σ 17)) →
 tI (σ 18) →
 1 ≤ iv (σ 18) →
 iv (σ 18) ≤ 2046 →
 σ 19 = .int .u64 (iv (σ 19)) →
 1 ≤ iv (σ 19) →
 iv (σ 19) ≤ 2046 →
 σ 20 = .int .u64 (iv (σ 20)) →
 4503599627370496 ≤ iv (σ 20) →
 iv (σ 20) ≤ 9214364837600034816 →
 σ 21 = .int .u64 (iv (σ 21)) →
 tF (σ 22) →
 tF (σ 23) →
 ldRPre [σ 0, σ 1] →
 infR [σ 0, vZ, σ 3] →
 nanR [σ 0, σ 4] →
 normR [σ 0, σ 5, vZ] →
 iv (σ 7) = IntKind.i64.wrap (iv (σ 1) + 0) →
 extRel .fbits [σ 5] (σ 8) →
 iv (σ 9) = (iv (σ 8) : Int).fdiv (2 ^ min (52 : Int).toNat IntKind.u64.bits) →
 iv (σ 10) = IntKind.i64.wrap (iv (σ 9)) →
 ibin .and IntKind.i64 (iv (σ 10)) (2047) = some (.int IntKind.i64 (iv (σ 11))) →
 iv (σ 12) = IntKind.i64.wrap (iv (σ 11) - 1023) →
 iv (σ 13) = IntKind.i64.wrap (iv (σ 7) + iv (σ 12)) →
 ibin .andNot IntKind.u64 (iv (σ 8)) (9218868437227405312) = some (.int IntKind.u64 (iv (σ 17))) →
 iv (σ 18) = iv (σ 13) + 1023 →
 iv (σ 19) = iv (σ 18) →
 iv (σ 20) = iv (σ 19) * 2 ^ (52 : Int).toNat →
 ibin .or IntKind.u64 (iv (σ 17)) (iv (σ 20)) = some (.int IntKind.u64 (iv (σ 21))) →
 extRel .ffrom [σ 21] (σ 22) →
 (farV .mul .f64 (4607182418800017408) (fv (σ 22)) = some (some (fv (σ 23))) ∨ (farV .mul .f64 (4607182418800017408) (fv (σ 22)) = some none ∧ Nan64 (fv (σ 23)))) →
 (-1022) ≤ iv (σ 13) →
 iv (σ 13) ≤ 1023 →
 (-1075) ≤ iv (σ 13) →
 bv (σ 4) = false →
 bv (σ 3) = false →
 ford (fv (σ 0)) (0) ≠ some .eq →
    ldR [σ 0, σ 1, σ 23]
def ldR_L8 : Prop := ∀ σ : Nat → Value,
 tF (σ 0) →
 tI (σ 1) →
 ldRPre [σ 0, σ 1] →
 infR [σ 0, vZ, σ 3] →
 nanR [σ 0, σ 4] →
 ¬ normRPre [σ 0] →
 bv (σ 4) = false →
 bv (σ 3) = false →
 ford (fv (σ 0)) (0) ≠ some .eq →
    False
theorem ldR_tie : ldexpC.goals (cfgB ldexpC.base [absC, infC, nanC, normC]) [] 2000 = (ldR_L0 ∧ ldR_L1 ∧ ldR_L2 ∧ ldR_L3 ∧ ldR_L4 ∧ ldR_L5 ∧ ldR_L6 ∧ ldR_L7 ∧ ldR_L8 ∧ True) := by kernel_rfl
theorem ldR_L0_ok : ldR_L0 := by
  intro σ; intros
  obtain ⟨n, k, h0, h1, hx, hk⟩ : ∃ n k : Nat, n ≠ 0 ∧ n * 2 ^ k < 4294967296 ∧ fv (σ 0) = nr n ∧ iv (σ 1) = (k : Nat) := (by have h := ‹ldRPre _›; exact h)
  obtain ⟨l1, l2, h⟩ := lg_bd h0 h1
  exfalso
  exact nr_ne hx h h0 ‹ford (fv (σ 0)) 0 = some .eq›
theorem ldR_L1_ok : ldR_L1 := by
  intro σ; intros
  obtain ⟨n, k, h0, h1, hx, hk⟩ : ∃ n k : Nat, n ≠ 0 ∧ n * 2 ^ k < 4294967296 ∧ fv (σ 0) = nr n ∧ iv (σ 1) = (k : Nat) := (by have h := ‹ldRPre _›; exact h)
  obtain ⟨l1, l2, h⟩ := lg_bd h0 h1
  exfalso
  have i0_ := ‹infR [σ 0, vZ, σ 3]›
  have i0 : Fin64 (fv (σ 0)) → bv (σ 3) = false := i0_
  have i1 := ‹bv (σ 3) = true›
  rw [i0 (nr_fin hx h)] at i1
  cases i1
theorem ldR_L2_ok : ldR_L2 := by
  intro σ; intros
  obtain ⟨n, k, h0, h1, hx, hk⟩ : ∃ n k : Nat, n ≠ 0 ∧ n * 2 ^ k < 4294967296 ∧ fv (σ 0) = nr n ∧ iv (σ 1) = (k : Nat) := (by have h := ‹ldRPre _›; exact h)
  obtain ⟨l1, l2, h⟩ := lg_bd h0 h1
  exfalso
  have i0_ := ‹nanR [σ 0, σ 4]›
  have i0 : Fin64 (fv (σ 0)) → bv (σ 4) = false := i0_
  have i1 := ‹bv (σ 4) = true›
  rw [i0 (nr_fin hx h)] at i1
  cases i1
theorem ldR_L3_ok : ldR_L3 := by
  intro σ; intros
  obtain ⟨n, k, h0, h1, hx, hk⟩ : ∃ n k : Nat, n ≠ 0 ∧ n * 2 ^ k < 4294967296 ∧ fv (σ 0) = nr n ∧ iv (σ 1) = (k : Nat) := (by have h := ‹ldRPre _›; exact h)
  obtain ⟨l1, l2, h⟩ := lg_bd h0 h1
  have en_ := ‹normR [σ 0, σ 5, vZ]›
  have en : fv (σ 5) = fv (σ 0) := en_
  have hb := fbits_iv (a := σ 5) (r := σ 8) ‹_› ‹_›
  rw [en] at hb
  have hk1 := ‹iv (σ 7) = IntKind.i64.wrap (iv (σ 1) + 0)›
  have he : ∀ n k : Nat, n ≠ 0 → n * 2 ^ k < 2 ^ 53 → fv (σ 0) = nr n → iv (σ 1) = (k : Nat) → iv (σ 13) = ((n.log2 + k : Nat) : Int) := fun n k h0 h hx hk => by
    rw [hx] at hb
    rw [hk] at hk1
    exact ldexp_exp h0 h hb hk1 ‹iv (σ 9) = (iv (σ 8) : Int).fdiv (2 ^ min (52 : Int).toNat IntKind.u64.bits)› ‹iv (σ 10) = IntKind.i64.wrap (iv (σ 9))› ‹ibin .and IntKind.i64 (iv (σ 10)) (2047) = some (.int IntKind.i64 (iv (σ 11)))› ‹iv (σ 12) = IntKind.i64.wrap (iv (σ 11) - 1023)› ‹iv (σ 13) = IntKind.i64.wrap (iv (σ 7) + iv (σ 12))› rfl
  exfalso
  have e0 := he n k h0 l2 hx hk
  omega
theorem ldR_L4_ok : ldR_L4 := by
  intro σ; intros
  obtain ⟨n, k, h0, h1, hx, hk⟩ : ∃ n k : Nat, n ≠ 0 ∧ n * 2 ^ k < 4294967296 ∧ fv (σ 0) = nr n ∧ iv (σ 1) = (k : Nat) := (by have h := ‹ldRPre _›; exact h)
  obtain ⟨l1, l2, h⟩ := lg_bd h0 h1
  have en_ := ‹normR [σ 0, σ 5, vZ]›
  have en : fv (σ 5) = fv (σ 0) := en_
  have hb := fbits_iv (a := σ 5) (r := σ 8) ‹_› ‹_›
  rw [en] at hb
  have hk1 := ‹iv (σ 7) = IntKind.i64.wrap (iv (σ 1) + 0)›
  have he : ∀ n k : Nat, n ≠ 0 → n * 2 ^ k < 2 ^ 53 → fv (σ 0) = nr n → iv (σ 1) = (k : Nat) → iv (σ 13) = ((n.log2 + k : Nat) : Int) := fun n k h0 h hx hk => by
    rw [hx] at hb
    rw [hk] at hk1
    exact ldexp_exp h0 h hb hk1 ‹iv (σ 9) = (iv (σ 8) : Int).fdiv (2 ^ min (52 : Int).toNat IntKind.u64.bits)› ‹iv (σ 10) = IntKind.i64.wrap (iv (σ 9))› ‹ibin .and IntKind.i64 (iv (σ 10)) (2047) = some (.int IntKind.i64 (iv (σ 11)))› ‹iv (σ 12) = IntKind.i64.wrap (iv (σ 11) - 1023)› ‹iv (σ 13) = IntKind.i64.wrap (iv (σ 7) + iv (σ 12))› rfl
  exfalso
  have e0 := he n k h0 l2 hx hk
  omega
theorem ldR_L5_ok : ldR_L5 := by
  intro σ; intros
  obtain ⟨n, k, h0, h1, hx, hk⟩ : ∃ n k : Nat, n ≠ 0 ∧ n * 2 ^ k < 4294967296 ∧ fv (σ 0) = nr n ∧ iv (σ 1) = (k : Nat) := (by have h := ‹ldRPre _›; exact h)
  obtain ⟨l1, l2, h⟩ := lg_bd h0 h1
  have en_ := ‹normR [σ 0, σ 5, vZ]›
  have en : fv (σ 5) = fv (σ 0) := en_
  have hb := fbits_iv (a := σ 5) (r := σ 8) ‹_› ‹_›
  rw [en] at hb
  have hk1 := ‹iv (σ 7) = IntKind.i64.wrap (iv (σ 1) + 0)›
  have he : ∀ n k : Nat, n ≠ 0 → n * 2 ^ k < 2 ^ 53 → fv (σ 0) = nr n → iv (σ 1) = (k : Nat) → iv (σ 13) = ((n.log2 + k : Nat) : Int) := fun n k h0 h hx hk => by
    rw [hx] at hb
    rw [hk] at hk1
    exact ldexp_exp h0 h hb hk1 ‹iv (σ 9) = (iv (σ 8) : Int).fdiv (2 ^ min (52 : Int).toNat IntKind.u64.bits)› ‹iv (σ 10) = IntKind.i64.wrap (iv (σ 9))› ‹ibin .and IntKind.i64 (iv (σ 10)) (2047) = some (.int IntKind.i64 (iv (σ 11)))› ‹iv (σ 12) = IntKind.i64.wrap (iv (σ 11) - 1023)› ‹iv (σ 13) = IntKind.i64.wrap (iv (σ 7) + iv (σ 12))› rfl
  exfalso
  have e0 := he n k h0 l2 hx hk
  omega
theorem ldR_L6_ok : ldR_L6 := by
  intro σ; intros
  obtain ⟨n, k, h0, h1, hx, hk⟩ : ∃ n k : Nat, n ≠ 0 ∧ n * 2 ^ k < 4294967296 ∧ fv (σ 0) = nr n ∧ iv (σ 1) = (k : Nat) := (by have h := ‹ldRPre _›; exact h)
  obtain ⟨l1, l2, h⟩ := lg_bd h0 h1
  have en_ := ‹normR [σ 0, σ 5, vZ]›
  have en : fv (σ 5) = fv (σ 0) := en_
  have hb := fbits_iv (a := σ 5) (r := σ 8) ‹_› ‹_›
  rw [en] at hb
  have hk1 := ‹iv (σ 7) = IntKind.i64.wrap (iv (σ 1) + 0)›
  have he : ∀ n k : Nat, n ≠ 0 → n * 2 ^ k < 2 ^ 53 → fv (σ 0) = nr n → iv (σ 1) = (k : Nat) → iv (σ 13) = ((n.log2 + k : Nat) : Int) := fun n k h0 h hx hk => by
    rw [hx] at hb
    rw [hk] at hk1
    exact ldexp_exp h0 h hb hk1 ‹iv (σ 9) = (iv (σ 8) : Int).fdiv (2 ^ min (52 : Int).toNat IntKind.u64.bits)› ‹iv (σ 10) = IntKind.i64.wrap (iv (σ 9))› ‹ibin .and IntKind.i64 (iv (σ 10)) (2047) = some (.int IntKind.i64 (iv (σ 11)))› ‹iv (σ 12) = IntKind.i64.wrap (iv (σ 11) - 1023)› ‹iv (σ 13) = IntKind.i64.wrap (iv (σ 7) + iv (σ 12))› rfl
  exfalso
  have e0 := he n k h0 l2 hx hk
  omega
theorem ldR_L7_ok : ldR_L7 := by
  intro σ; intros
  obtain ⟨n, k, h0, h1, hx, hk⟩ : ∃ n k : Nat, n ≠ 0 ∧ n * 2 ^ k < 4294967296 ∧ fv (σ 0) = nr n ∧ iv (σ 1) = (k : Nat) := (by have h := ‹ldRPre _›; exact h)
  obtain ⟨l1, l2, h⟩ := lg_bd h0 h1
  have en_ := ‹normR [σ 0, σ 5, vZ]›
  have en : fv (σ 5) = fv (σ 0) := en_
  have hb := fbits_iv (a := σ 5) (r := σ 8) ‹_› ‹_›
  rw [en] at hb
  have hk1 := ‹iv (σ 7) = IntKind.i64.wrap (iv (σ 1) + 0)›
  have he : ∀ n k : Nat, n ≠ 0 → n * 2 ^ k < 2 ^ 53 → fv (σ 0) = nr n → iv (σ 1) = (k : Nat) → iv (σ 13) = ((n.log2 + k : Nat) : Int) := fun n k h0 h hx hk => by
    rw [hx] at hb
    rw [hk] at hk1
    exact ldexp_exp h0 h hb hk1 ‹iv (σ 9) = (iv (σ 8) : Int).fdiv (2 ^ min (52 : Int).toNat IntKind.u64.bits)› ‹iv (σ 10) = IntKind.i64.wrap (iv (σ 9))› ‹ibin .and IntKind.i64 (iv (σ 10)) (2047) = some (.int IntKind.i64 (iv (σ 11)))› ‹iv (σ 12) = IntKind.i64.wrap (iv (σ 11) - 1023)› ‹iv (σ 13) = IntKind.i64.wrap (iv (σ 7) + iv (σ 12))› rfl
  have hf := ffrom_fv (a := σ 21) (r := σ 22) ‹_› ‹_›
  have hs0 := ‹iv (σ 20) = iv (σ 19) * 2 ^ (52 : Int).toNat›
  have hm := ‹farV .mul .f64 _ _ = _ ∨ _›
  have ee : iv (σ 19) = iv (σ 13) + 1023 := by omega
  rw [ee] at hs0
  intro n k h0 h1 hx hk
  have hx : fv (σ 0) = nr n := hx
  have hk : iv (σ 1) = (k : Nat) := hk
  obtain ⟨l1, l2, h⟩ := lg_bd h0 h1
  have e0 := he n k h0 l2 hx hk
  rw [hx] at hb
  exact ldexp_bits h0 l2 hb e0 ‹ibin .andNot IntKind.u64 (iv (σ 8)) (9218868437227405312) = some (.int IntKind.u64 (iv (σ 17)))› hs0 ‹ibin .or IntKind.u64 (iv (σ 17)) (iv (σ 20)) = some (.int IntKind.u64 (iv (σ 21)))› hf hm
theorem ldR_L8_ok : ldR_L8 := by
  intro σ; intros
  obtain ⟨n, k, h0, h1, hx, hk⟩ : ∃ n k : Nat, n ≠ 0 ∧ n * 2 ^ k < 4294967296 ∧ fv (σ 0) = nr n ∧ iv (σ 1) = (k : Nat) := (by have h := ‹ldRPre _›; exact h)
  obtain ⟨l1, l2, h⟩ := lg_bd h0 h1
  have n_ := ‹¬ normRPre _›
  exact n_ ⟨n, h0, h, hx⟩
theorem ldexp_ok : ldexpC.ok Tryz.prog All :=
  by_tie ldR_tie (by kernel_rfl) (all_cons abs_ok (all_cons inf_ok (all_cons nan_ok (all_cons norm_ok all_nil)))) ⟨ldR_L0_ok, ldR_L1_ok, ldR_L2_ok, ldR_L3_ok, ldR_L4_ok, ldR_L5_ok, ldR_L6_ok, ldR_L7_ok, ldR_L8_ok, trivial⟩
end Go.Proofs.Dv
