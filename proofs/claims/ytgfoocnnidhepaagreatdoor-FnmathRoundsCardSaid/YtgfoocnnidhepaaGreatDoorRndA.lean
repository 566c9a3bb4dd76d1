/- Small functions, as they are called by the law of rounding. -/
import Derived.Test.YtgfoocnnidhepaaGreatDoorRows
import Derived.Test.YtgfoocnnidhepaaGreatDoorEvCon2
import Derived.Test.YtgfoocnnidhepaaGreatDoorFRnd3
import Derived.Test.YtgfoocnnidhepaaGreatDoorEvBool
namespace Go.Proofs.Rnd
open Go.Ev Go.RowKit Ieee Go.Proofs.YtgfoocnnidhepaaGreatDoor
set_option maxRecDepth 1000000
abbrev vZ : Value := .int .i64 0
abbrev vO : Value := .int .i64 1
abbrev vI (n : Int) : Value := .int .i64 n
abbrev vT : Value := .bool true
abbrev vF : Value := .bool false
abbrev vE : Value := .string ⟨#[]⟩
abbrev vU : Value := .tuple #[]
abbrev vG (n : Nat) : Value := .float .f64 n
abbrev vS (b : Array UInt8) : Value := .string ⟨b⟩
abbrev tI (x : Value) : Prop := x = .int .i64 (iv x)
abbrev tF (x : Value) : Prop := x = .float .f64 (fv x)
abbrev fl : Sh := .sc (.float .f64)
abbrev p03 : Sh := .whole true 0 3
def int0 (n : Int) : Sh := .sc (.is (.int .i64 n))
def yes (b : Bool) : Sh := .sc (.is (.bool b))
def noT : Sh := .sc (.is (.string ⟨#[]⟩))
def str (b : Array UInt8) : Sh := .sc (.is (.string ⟨b⟩))
def numV (x : Sh) : Sh := .agg [int0 1, x, noT, yes false, int0 0]
def argC (x : Sh) : List Sh := [yes false, yes false, int0 1, int0 1, .row 54 7 1 [int0 0, int0 0, int0 1, x, noT, yes false, int0 0]]
def gv (l : List Value) (n : Nat) : Value := l.getD n (.tuple #[])
def X : List (Nat × ExtOp) := [(14, .fbits), (13, .ffrom), (76, .floor), (98, .ceil), (124, .trunc), (117, .sqrt)]
def niceF (x : Nat) : Prop := Fin64 x ∧ (sv x = 0 → x = 0)
def isTrue (l : List Value) : Prop := l = [.bool true]
def absR (l : List Value) : Prop := fv (gv l 1) = fv (gv l 0) % 2 ^ 63
def infRPre (l : List Value) : Prop := Fin64 (fv (gv l 0))
def infR (l : List Value) : Prop := bv (gv l 2) = false
def chkRPre (l : List Value) : Prop := niceF (fv (gv l 1))
def chkR (_ : List Value) : Prop := True
def chkWR (_ : List Value) : Prop := True
def asnRPre (l : List Value) : Prop := niceF (fv (gv l 1))
def asnR (l : List Value) : Prop := fv (gv l 6) = fv (gv l 1)
def asnWR (l : List Value) : Prop := iv (gv l 7) = iv (gv l 1)
def absWR (l : List Value) : Prop := iv (gv l 2) = iv (gv l 0)
def reckRPre (l : List Value) : Prop := Fin64 (fv (gv l 0))
def reckR (l : List Value) : Prop := fv (gv l 2) = if sv (fv (gv l 0)) = 0 then 0 else fv (gv l 0)
def pre64 (l : List Value) : Prop := ∃ m, P64 (fv (gv l 10)) m
def roRPre (l : List Value) : Prop := pre64 l
def upRPre (l : List Value) : Prop := pre64 l
def dnRPre (l : List Value) : Prop := pre64 l
def roR (l : List Value) : Prop := resR kRo (fv (gv l 10)) (iv (gv l 22)) (fv (gv l 28))
def upR (l : List Value) : Prop := resR kUp (fv (gv l 10)) (iv (gv l 22)) (fv (gv l 28))
def dnR (l : List Value) : Prop := resR kDn (fv (gv l 10)) (iv (gv l 22)) (fv (gv l 28))
def rndR (l : List Value) : Prop := bv (gv l 2) = true
def liveC : Con := { f := 9, ins := [], out := .sc .bool, id := "isTrue", rel := isTrue }
def absC : Con := { f := 10, ins := [fl], out := fl, id := "absR", rel := absR }
def absWC : Con := { f := 10, ins := [p03], out := p03, id := "absWR", rel := absWR }
def infC : Con := { f := 64, ins := [fl, int0 0], out := .sc .bool, id := "infR", pre := infRPre, asks := true, rel := infR }
def chkC : Con := { f := 49, ins := [numV fl], out := int0 0, id := "chkR", pre := chkRPre, asks := true, rel := chkR }
def chkWC : Con := { f := 49, ins := [numV p03], out := int0 0, id := "chkWR", rel := chkWR }
def asnC : Con := { f := 55, ins := [numV fl], out := numV fl, id := "asnR", pre := asnRPre, asks := true, rel := asnR }
def asnWC : Con := { f := 55, ins := [numV p03], out := numV p03, id := "asnWR", rel := asnWR }
def reckC : Con := { f := 75, ins := [fl], out := numV fl, id := "reckR", pre := reckRPre, asks := true, rel := reckR }
def callC (b : Array UInt8) (id : String) (pre rel : List Value → Prop) : Con := { f := 7, ins := [str b, .row 30 5 2 (argC fl ++ argC p03)], out := .tup [numV fl, yes true], id := id, pre := pre, asks := true, rel := rel }
def roC : Con := callC #[82, 79, 85, 78, 68] "roR" roRPre roR
def upC : Con := callC #[82, 79, 85, 78, 68, 85, 80] "upR" upRPre upR
def dnC : Con := callC #[82, 79, 85, 78, 68, 68, 79, 87, 78] "dnR" dnRPre dnR
def lawC : Con := { f := 4, ins := [.sc (.intIn .i32 (some (-2147483648)) (some 2147483647)), .sc (.intIn .u8 (some 0) (some 255))], out := .sc .bool, id := "rndR", rel := rndR }
theorem all_nil {P : Con → Prop} : ∀ c ∈ ([] : List Con), P c := fun _ h => by cases h
theorem all_cons {P : Con → Prop} {c : Con} {l : List Con} (h : P c) (t : ∀ c ∈ l, P c) : ∀ x ∈ c :: l, P x := fun x hx => by
  cases hx with
  | head => exact h
  | tail _ hx => exact t x hx
theorem mixed : Tryz.prog.follows .mixedOrders = true := by kernel_rfl
theorem extAt_get {f : Nat} {x : ExtOp} (h : (Tryz.prog.funcs[f]?).isSome = true) (hn : ((Tryz.prog.funcs[f]?.get h).name == "runtime.NumGoroutine") = false) (hb : (Tryz.prog.funcs[f]?.get h).body.isNone = true)
    (hn : Extern.findNext (Tryz.prog.funcs[f]?.get h) = none) (he : Extern.find (Tryz.prog.funcs[f]?.get h) = some x.sem) : ExtAt Tryz.prog f x :=
  extAt_of (Option.some_get h).symm ‹_› hb hn he
theorem exts_ok : ∀ p ∈ X, ExtAt Tryz.prog p.1 p.2 := by
  intro p hp
  simp only [X, List.mem_cons, List.not_mem_nil, or_false] at hp
  rcases hp with rfl | rfl | rfl | rfl | rfl | rfl <;> exact extAt_get (by kernel_rfl) (by kernel_rfl) (by kernel_rfl) (by kernel_rfl) (by kernel_rfl)
noncomputable def cfgB (base : Nat) (cons : List Con) : Cfg := cfgG Tryz.prog base (entersOf Tryz.prog) X cons
def All (_ : World) : Prop := True
theorem by_tie {c : Con} {cons : List Con} {K : List (Nat × Nat × LSpec)} {n : Nat} {Q : Prop} (tie : c.goals (cfgB c.base cons) K n = Q) (he : entersOf Tryz.prog c.f = true) (hc : ∀ c ∈ cons, c.ok Tryz.prog All) (h : Q) : c.ok Tryz.prog All := by
  have h' : c.goals (cfgB c.base cons) K n := by rw [tie]; exact h
  exact con_ok (C := cfgB c.base cons) (K := K) (n := n) mixed he (fun w hw => { (cfg_ok (B := w.heap.size) (G := c.base) (w0 := ⟨w, [], Tryz.prog⟩) rfl (fun _ h => h) exts_ok) with summ := conSumm_ok (cond := All) (fun _ _ => trivial) hc }) h'
theorem fin0 : Fin64 0 ∧ sv 0 = 0 := by
  have h := whole_sv (WholeF.near (n := 0) (by decide) (by decide))
  rw [near_zero] at h
  exact ⟨h.1, by rw [h.2.1]; simp⟩
theorem ford_self {x : Nat} (h : Fin64 x) : ford x x = some .eq := by rw [ford_fin h h]; exact congrArg some (Int.compare_eq_eq.2 rfl)
theorem ford_zero {x : Nat} (h : Fin64 x) : ford x 0 = some .eq ↔ sv x = 0 := by
  rw [ford_fin h fin0.1, fin0.2, Option.some.injEq]; exact Int.compare_eq_eq
theorem ford_big {x : Nat} (h : Fin64 x) : ford (x % 2 ^ 63) 9218868437227405311 ≠ some .gt := by
  have := (order_max (abs_fin h).1).1
  exact this
theorem abs_x {x a b r : Value} (hx : x = .float .f64 (fv x)) (h1 : extRel .fbits [x] a) (h2 : ibin .andNot IntKind.u64 (iv a) 9223372036854775808 = some (.int IntKind.u64 (iv b))) (hb : b = .int .u64 (iv b)) (h3 : extRel .ffrom [b] r) : fv r = fv x % 2 ^ 63 := abs_of hx h1 h2 hb h3
theorem neg_fv {a r : Value} (ha : a = .float .f64 (fv a)) (h : unV .neg a = some r) : fv r = Op.negFloat .f64 (fv a) := by
  rw [ha] at h
  simp only [unV, Option.some.injEq] at h
  rw [← h]
  rfl
def isTrue_L0 : Prop := ∀ _ : Nat → Value,
    isTrue [vT]
theorem isTrue_tie : liveC.goals (cfgB liveC.base []) [] 2000 = (isTrue_L0 ∧ True) := by kernel_rfl
theorem live_ok : liveC.ok Tryz.prog All := by_tie isTrue_tie (by kernel_rfl) all_nil ⟨fun _ => rfl, trivial⟩
def absR_L0 : Prop := ∀ σ : Nat → Value,
 tF (σ 0) →
 σ 1 = .int .u64 (iv (σ 1)) →
 σ 2 = .int .u64 (iv (σ 2)) →
 tF (σ 3) →
 extRel .fbits [σ 0] (σ 1) →
 ibin .andNot IntKind.u64 (iv (σ 1)) (9223372036854775808) = some (.int IntKind.u64 (iv (σ 2))) →
 extRel .ffrom [σ 2] (σ 3) →
    absR [σ 0, σ 3]
theorem absR_tie : absC.goals (cfgB absC.base []) [] 2000 = (absR_L0 ∧ True) := by kernel_rfl
theorem abs_ok : absC.ok Tryz.prog All := by
  refine by_tie absR_tie (by kernel_rfl) all_nil ⟨?_, trivial⟩
  intro σ; intros
  exact abs_x (a := σ 1) (b := σ 2) ‹_› ‹_› ‹_› ‹_› ‹_›
def absWR_L0 : Prop := ∀ σ : Nat → Value,
 tI (σ 0) →
 0 ≤ iv (σ 0) →
 iv (σ 0) ≤ 3 →
 tF (σ 1) →
 σ 2 = .int .u64 (iv (σ 2)) →
 σ 3 = .int .u64 (iv (σ 3)) →
 fv (σ 1) = FloatKind.f64.nearest (iv (σ 0)) →
 extRel .fbits [σ 1] (σ 2) →
 ibin .andNot IntKind.u64 (iv (σ 2)) (9223372036854775808) = some (.int IntKind.u64 (iv (σ 3))) →
    absWR [σ 0, σ 1, σ 0, σ 1]
theorem absWR_tie : absWC.goals (cfgB absWC.base []) [] 2000 = (absWR_L0 ∧ True) := by kernel_rfl
theorem absW_ok : absWC.ok Tryz.prog All := by
  refine by_tie absWR_tie (by kernel_rfl) all_nil ⟨?_, trivial⟩
  intro σ; intros
  exact rfl
def infR_L0 : Prop := ∀ σ : Nat → Value,
 tF (σ 0) →
 σ 1 = vZ →
 σ 2 = .int .u64 (iv (σ 2)) →
 σ 3 = .int .u64 (iv (σ 3)) →
 tF (σ 4) →
 σ 5 = .bool (bv (σ 5)) →
 infRPre [σ 0, vZ] →
 extRel .fbits [σ 0] (σ 2) →
 ibin .andNot IntKind.u64 (iv (σ 2)) (9223372036854775808) = some (.int IntKind.u64 (iv (σ 3))) →
 extRel .ffrom [σ 3] (σ 4) →
 fcmpV .gtr .f64 (fv (σ 4)) (9218868437227405311) = some (.bool (bv (σ 5))) →
    infR [σ 0, vZ, σ 5]
theorem infR_tie : infC.goals (cfgB infC.base []) [] 2000 = (infR_L0 ∧ True) := by kernel_rfl
theorem inf_ok : infC.ok Tryz.prog All := by
  refine by_tie infR_tie (by kernel_rfl) all_nil ⟨?_, trivial⟩
  intro σ; intros
  have p_ := ‹infRPre _›
  have p : Fin64 (fv (σ 0)) := p_
  have e := abs_x (x := σ 0) (a := σ 2) (b := σ 3) (r := σ 4) ‹_› ‹_› ‹_› ‹_› ‹_›
  have h := ‹fcmpV .gtr .f64 (fv (σ 4)) _ = _›
  rw [e] at h
  exact (cmp_abs_max h (fun n => by have := p; unfold Fin64 at this; unfold Nan64 at n; omega)).2 p
def reckR_L0 : Prop := ∀ σ : Nat → Value,
 tF (σ 0) →
 σ 3 = .int .u64 (iv (σ 3)) →
 σ 4 = .int .u64 (iv (σ 4)) →
 tF (σ 5) →
 reckRPre [σ 0] →
 extRel .fbits [σ 0] (σ 3) →
 ibin .andNot IntKind.u64 (iv (σ 3)) (9223372036854775808) = some (.int IntKind.u64 (iv (σ 4))) →
 extRel .ffrom [σ 4] (σ 5) →
 ford (fv (σ 5)) (9218868437227405311) = some .gt →
 bv (σ 6) = !false →
 bv (σ 7) = !true →
 ford (fv (σ 0)) (fv (σ 0)) = some .eq →
 bv (σ 1) = !true →
    False
def reckR_L1 : Prop := ∀ σ : Nat → Value,
 tF (σ 0) →
 σ 3 = .int .u64 (iv (σ 3)) →
 σ 4 = .int .u64 (iv (σ 4)) →
 tF (σ 5) →
 reckRPre [σ 0] →
 extRel .fbits [σ 0] (σ 3) →
 ibin .andNot IntKind.u64 (iv (σ 3)) (9223372036854775808) = some (.int IntKind.u64 (iv (σ 4))) →
 extRel .ffrom [σ 4] (σ 5) →
 ford (fv (σ 0)) (0) = some .eq →
 ford (fv (σ 5)) (9218868437227405311) ≠ some .gt →
 bv (σ 6) = !true →
 bv (σ 7) = !false →
 ford (fv (σ 0)) (fv (σ 0)) = some .eq →
 bv (σ 1) = !true →
    reckR [σ 0, vO, (vG 0), vE, vF, vZ]
def reckR_L2 : Prop := ∀ σ : Nat → Value,
 tF (σ 0) →
 σ 3 = .int .u64 (iv (σ 3)) →
 σ 4 = .int .u64 (iv (σ 4)) →
 tF (σ 5) →
 reckRPre [σ 0] →
 extRel .fbits [σ 0] (σ 3) →
 ibin .andNot IntKind.u64 (iv (σ 3)) (9223372036854775808) = some (.int IntKind.u64 (iv (σ 4))) →
 extRel .ffrom [σ 4] (σ 5) →
 ford (fv (σ 0)) (0) ≠ some .eq →
 ford (fv (σ 5)) (9218868437227405311) ≠ some .gt →
 bv (σ 6) = !true →
 bv (σ 7) = !false →
 ford (fv (σ 0)) (fv (σ 0)) = some .eq →
 bv (σ 1) = !true →
    reckR [σ 0, vO, σ 0, vE, vF, vZ]
def reckR_L3 : Prop := ∀ σ : Nat → Value,
 tF (σ 0) →
 reckRPre [σ 0] →
 ford (fv (σ 0)) (fv (σ 0)) ≠ some .eq →
 bv (σ 1) = !false →
    False
theorem reckR_tie : reckC.goals (cfgB reckC.base []) [] 2000 = (reckR_L0 ∧ reckR_L1 ∧ reckR_L2 ∧ reckR_L3 ∧ True) := by kernel_rfl
theorem reck_bad {x y : Nat} (h : Fin64 x) (e : y = x % 2 ^ 63) (g : ford y 9218868437227405311 = some .gt) : False := by
  subst e; exact ford_big h g
theorem reck_ok : reckC.ok Tryz.prog All := by
  refine by_tie reckR_tie (by kernel_rfl) all_nil ⟨?_, ?_, ?_, ?_, trivial⟩
  · intro σ; intros
    have p_ := ‹reckRPre _›
    have p : Fin64 (fv (σ 0)) := p_
    exact reck_bad p (abs_x (a := σ 3) (b := σ 4) ‹_› ‹_› ‹_› ‹_› ‹_›) ‹ford (fv (σ 5)) _ = _›
  · intro σ; intros
    have p_ := ‹reckRPre _›
    have p : Fin64 (fv (σ 0)) := p_
    show fv (.float .f64 0) = if sv (fv (σ 0)) = 0 then 0 else fv (σ 0)
    rw [if_pos ((ford_zero p).1 ‹_›)]; rfl
  · intro σ; intros
    have p_ := ‹reckRPre _›
    have p : Fin64 (fv (σ 0)) := p_
    show fv (σ 0) = if sv (fv (σ 0)) = 0 then 0 else fv (σ 0)
    rw [if_neg (fun e => ‹ford (fv (σ 0)) 0 ≠ some .eq› ((ford_zero p).2 e))]
  · intro σ; intros
    have p_ := ‹reckRPre _›
    have p : Fin64 (fv (σ 0)) := p_
    exact ‹ford (fv (σ 0)) (fv (σ 0)) ≠ some .eq› (ford_self p)
def chkR_L0 : Prop := ∀ σ : Nat → Value,
 σ 0 = vO →
 tF (σ 1) →
 σ 2 = vE →
 σ 3 = vF →
 σ 4 = vZ →
 σ 7 = .int .u64 (iv (σ 7)) →
 σ 8 = .int .u64 (iv (σ 8)) →
 tF (σ 9) →
 tI (σ 13) →
 0 ≤ iv (σ 13) →
 chkRPre [vO, σ 1, vE, vF, vZ] →
 extRel .fbits [σ 1] (σ 7) →
 ibin .andNot IntKind.u64 (iv (σ 7)) (9223372036854775808) = some (.int IntKind.u64 (iv (σ 8))) →
 extRel .ffrom [σ 8] (σ 9) →
 iv (σ 13) = IntKind.i64.wrap (iv (σ 7)) →
 0 ≤ iv (σ 13) →
 bv (σ 14) = !true →
 ford (fv (σ 1)) (0) = some .eq →
 ford (fv (σ 9)) (9218868437227405311) ≠ some .gt →
 bv (σ 10) = !true →
 ford (fv (σ 1)) (fv (σ 1)) = some .eq →
 bv (σ 5) = !true →
    chkR [vO, σ 1, vE, vF, vZ, vZ]
def chkR_L1 : Prop := ∀ σ : Nat → Value,
 σ 0 = vO →
 tF (σ 1) →
 σ 2 = vE →
 σ 3 = vF →
 σ 4 = vZ →
 σ 7 = .int .u64 (iv (σ 7)) →
 σ 8 = .int .u64 (iv (σ 8)) →
 tF (σ 9) →
 tI (σ 13) →
 iv (σ 13) ≤ (-1) →
 chkRPre [vO, σ 1, vE, vF, vZ] →
 extRel .fbits [σ 1] (σ 7) →
 ibin .andNot IntKind.u64 (iv (σ 7)) (9223372036854775808) = some (.int IntKind.u64 (iv (σ 8))) →
 extRel .ffrom [σ 8] (σ 9) →
 iv (σ 13) = IntKind.i64.wrap (iv (σ 7)) →
 iv (σ 13) < 0 →
 bv (σ 14) = !false →
 ford (fv (σ 1)) (0) = some .eq →
 ford (fv (σ 9)) (9218868437227405311) ≠ some .gt →
 bv (σ 10) = !true →
 ford (fv (σ 1)) (fv (σ 1)) = some .eq →
 bv (σ 5) = !true →
    False
def chkR_L2 : Prop := ∀ σ : Nat → Value,
 σ 0 = vO →
 tF (σ 1) →
 σ 2 = vE →
 σ 3 = vF →
 σ 4 = vZ →
 σ 7 = .int .u64 (iv (σ 7)) →
 σ 8 = .int .u64 (iv (σ 8)) →
 tF (σ 9) →
 chkRPre [vO, σ 1, vE, vF, vZ] →
 extRel .fbits [σ 1] (σ 7) →
 ibin .andNot IntKind.u64 (iv (σ 7)) (9223372036854775808) = some (.int IntKind.u64 (iv (σ 8))) →
 extRel .ffrom [σ 8] (σ 9) →
 ford (fv (σ 1)) (0) ≠ some .eq →
 ford (fv (σ 9)) (9218868437227405311) ≠ some .gt →
 bv (σ 10) = !true →
 ford (fv (σ 1)) (fv (σ 1)) = some .eq →
 bv (σ 5) = !true →
    chkR [vO, σ 1, vE, vF, vZ, vZ]
def chkR_L3 : Prop := ∀ σ : Nat → Value,
 σ 0 = vO →
 tF (σ 1) →
 σ 2 = vE →
 σ 3 = vF →
 σ 4 = vZ →
 σ 7 = .int .u64 (iv (σ 7)) →
 σ 8 = .int .u64 (iv (σ 8)) →
 tF (σ 9) →
 chkRPre [vO, σ 1, vE, vF, vZ] →
 extRel .fbits [σ 1] (σ 7) →
 ibin .andNot IntKind.u64 (iv (σ 7)) (9223372036854775808) = some (.int IntKind.u64 (iv (σ 8))) →
 extRel .ffrom [σ 8] (σ 9) →
 ford (fv (σ 9)) (9218868437227405311) = some .gt →
 bv (σ 10) = !false →
 ford (fv (σ 1)) (fv (σ 1)) = some .eq →
 bv (σ 5) = !true →
    False
def chkR_L4 : Prop := ∀ σ : Nat → Value,
 σ 0 = vO →
 tF (σ 1) →
 σ 2 = vE →
 σ 3 = vF →
 σ 4 = vZ →
 chkRPre [vO, σ 1, vE, vF, vZ] →
 ford (fv (σ 1)) (fv (σ 1)) ≠ some .eq →
 bv (σ 5) = !false →
    False
theorem chkR_tie : chkC.goals (cfgB chkC.base []) [] 2000 = (chkR_L0 ∧ chkR_L1 ∧ chkR_L2 ∧ chkR_L3 ∧ chkR_L4 ∧ True) := by kernel_rfl
theorem wrap_zero : IntKind.i64.wrap (0 : Int) = 0 := by decide
theorem chk_ok : chkC.ok Tryz.prog All := by
  refine by_tie chkR_tie (by kernel_rfl) all_nil ⟨fun _ => ?_, ?_, fun _ => ?_, ?_, ?_, trivial⟩
  · intros; exact trivial
  · intro σ; intros
    have p_ := ‹chkRPre _›
    have p : niceF (fv (σ 1)) := p_
    have z := p.2 ((ford_zero p.1).1 ‹ford (fv (σ 1)) 0 = some .eq›)
    have e1 := fbits_iv (a := σ 1) (r := σ 7) ‹_› ‹_›
    rw [z] at e1
    have e2 := ‹iv (σ 13) = IntKind.i64.wrap (iv (σ 7))›
    rw [e1] at e2
    have e3 : iv (σ 13) = 0 := e2.trans wrap_zero
    omega
  · intros; exact trivial
  · intro σ; intros
    have p_ := ‹chkRPre _›
    have p : niceF (fv (σ 1)) := p_
    exact reck_bad p.1 (abs_x (a := σ 7) (b := σ 8) ‹_› ‹_› ‹_› ‹_› ‹_›) ‹ford (fv (σ 9)) _ = some .gt›
  · intro σ; intros
    have p_ := ‹chkRPre _›
    have p : niceF (fv (σ 1)) := p_
    exact ‹ford (fv (σ 1)) (fv (σ 1)) ≠ some .eq› (ford_self p.1)
def chkWR_L0 : Prop := ∀ σ : Nat → Value,
 σ 0 = vO →
 tI (σ 1) →
 0 ≤ iv (σ 1) →
 iv (σ 1) ≤ 0 →
 tF (σ 2) →
 σ 3 = vE →
 σ 4 = vF →
 σ 5 = vZ →
 σ 6 = .int .u64 (iv (σ 6)) →
 σ 7 = .int .u64 (iv (σ 7)) →
 fv (σ 2) = FloatKind.f64.nearest (iv (σ 1)) →
 extRel .fbits [σ 2] (σ 6) →
 ibin .andNot IntKind.u64 (iv (σ 6)) (9223372036854775808) = some (.int IntKind.u64 (iv (σ 7))) →
 iv (σ 1) = 0 →
    chkWR [vO, σ 1, σ 2, vE, vF, vZ, vZ]
def chkWR_L1 : Prop := ∀ σ : Nat → Value,
 σ 0 = vO →
 tI (σ 1) →
 1 ≤ iv (σ 1) →
 iv (σ 1) ≤ 3 →
 tF (σ 2) →
 σ 3 = vE →
 σ 4 = vF →
 σ 5 = vZ →
 σ 6 = .int .u64 (iv (σ 6)) →
 σ 7 = .int .u64 (iv (σ 7)) →
 fv (σ 2) = FloatKind.f64.nearest (iv (σ 1)) →
 extRel .fbits [σ 2] (σ 6) →
 ibin .andNot IntKind.u64 (iv (σ 6)) (9223372036854775808) = some (.int IntKind.u64 (iv (σ 7))) →
 iv (σ 1) ≠ 0 →
    chkWR [vO, σ 1, σ 2, vE, vF, vZ, vZ]
theorem chkWR_tie : chkWC.goals (cfgB chkWC.base []) [] 2000 = (chkWR_L0 ∧ chkWR_L1 ∧ True) := by kernel_rfl
theorem chkW_ok : chkWC.ok Tryz.prog All := by
  refine by_tie chkWR_tie (by kernel_rfl) all_nil ⟨fun _ => ?_, fun _ => ?_, trivial⟩
  · intros; exact trivial
  · intros; exact trivial
def asnR_L0 : Prop := ∀ σ : Nat → Value,
 σ 0 = vO →
 tF (σ 1) →
 σ 2 = vE →
 σ 3 = vF →
 σ 4 = vZ →
 σ 5 = vO →
 tF (σ 6) →
 σ 7 = vE →
 σ 8 = vF →
 σ 9 = vZ →
 asnRPre [vO, σ 1, vE, vF, vZ] →
 reckR [σ 1, vO, σ 6, vE, vF, vZ] →
    asnR [vO, σ 1, vE, vF, vZ, vO, σ 6, vE, vF, vZ]
def asnR_L1 : Prop := ∀ σ : Nat → Value,
 σ 0 = vO →
 tF (σ 1) →
 σ 2 = vE →
 σ 3 = vF →
 σ 4 = vZ →
 asnRPre [vO, σ 1, vE, vF, vZ] →
 ¬ reckRPre [σ 1] →
    False
theorem asnR_tie : asnC.goals (cfgB asnC.base [reckC]) [] 2000 = (asnR_L0 ∧ asnR_L1 ∧ True) := by kernel_rfl
theorem asn_ok : asnC.ok Tryz.prog All := by
  refine by_tie asnR_tie (by kernel_rfl) (all_cons reck_ok all_nil) ⟨?_, ?_, trivial⟩
  · intro σ; intros
    have p_ := ‹asnRPre _›
    have p : niceF (fv (σ 1)) := p_
    have r_ := ‹reckR _›
    have r : fv (σ 6) = if sv (fv (σ 1)) = 0 then 0 else fv (σ 1) := r_
    show fv (σ 6) = fv (σ 1)
    rw [r]
    split
    · rename_i e; exact (p.2 e).symm
    · rfl
  · intro σ; intros
    have p_ := ‹asnRPre _›
    have p : niceF (fv (σ 1)) := p_
    have n_ := ‹¬ reckRPre _›
    exact n_ p.1
def asnWR_L0 : Prop := ∀ σ : Nat → Value,
 σ 0 = vO →
 tI (σ 1) →
 0 ≤ iv (σ 1) →
 iv (σ 1) ≤ 0 →
 tF (σ 2) →
 σ 3 = vE →
 σ 4 = vF →
 σ 5 = vZ →
 σ 6 = .int .u64 (iv (σ 6)) →
 σ 7 = .int .u64 (iv (σ 7)) →
 fv (σ 2) = FloatKind.f64.nearest (iv (σ 1)) →
 extRel .fbits [σ 2] (σ 6) →
 ibin .andNot IntKind.u64 (iv (σ 6)) (9223372036854775808) = some (.int IntKind.u64 (iv (σ 7))) →
 iv (σ 1) = 0 →
    asnWR [vO, σ 1, σ 2, vE, vF, vZ, vO, vZ, (vG 0), vE, vF, vZ]
def asnWR_L1 : Prop := ∀ σ : Nat → Value,
 σ 0 = vO →
 tI (σ 1) →
 1 ≤ iv (σ 1) →
 iv (σ 1) ≤ 3 →
 tF (σ 2) →
 σ 3 = vE →
 σ 4 = vF →
 σ 5 = vZ →
 σ 6 = .int .u64 (iv (σ 6)) →
 σ 7 = .int .u64 (iv (σ 7)) →
 fv (σ 2) = FloatKind.f64.nearest (iv (σ 1)) →
 extRel .fbits [σ 2] (σ 6) →
 ibin .andNot IntKind.u64 (iv (σ 6)) (9223372036854775808) = some (.int IntKind.u64 (iv (σ 7))) →
 iv (σ 1) ≠ 0 →
    asnWR [vO, σ 1, σ 2, vE, vF, vZ, vO, σ 1, σ 2, vE, vF, vZ]
theorem asnWR_tie : asnWC.goals (cfgB asnWC.base []) [] 2000 = (asnWR_L0 ∧ asnWR_L1 ∧ True) := by kernel_rfl
theorem asnW_ok : asnWC.ok Tryz.prog All := by
  refine by_tie asnWR_tie (by kernel_rfl) all_nil ⟨?_, ?_, trivial⟩
  · intro σ; intros
    have e := ‹iv (σ 1) = 0›
    show iv (.int .i64 0) = iv (σ 1)
    rw [e]; rfl
  · intro σ; intros; exact rfl
structure Ten (P Pw : Nat) (q : Int) : Prop where
  word : FloatKind.f64.nearest (P : Int) = Pw
  le : P ≤ 1000
  pos : P ≠ 0
  z1 : double.div 0 Pw = some 0
  z2 : double.div (2 ^ 63) Pw = some (2 ^ 63)
  ten : tenN q = P
theorem ten0 {q : Int} (h : q = 0) : Ten 1 4607182418800017408 q := ⟨by decide +kernel, by decide, by decide, by decide +kernel, by decide +kernel, by subst h; rfl⟩
theorem ten1 {q : Int} (h : q = 1) : Ten 10 4621819117588971520 q := ⟨by decide +kernel, by decide, by decide, by decide +kernel, by decide +kernel, by subst h; rfl⟩
theorem ten2 {q : Int} (h : q = 2) : Ten 100 4636737291354636288 q := ⟨by decide +kernel, by decide, by decide, by decide +kernel, by decide +kernel, by subst h; rfl⟩
theorem ten3 {q : Int} (h : q = 3) : Ten 1000 4652007308841189376 q := ⟨by decide +kernel, by decide, by decide, by decide +kernel, by decide +kernel, by subst h; rfl⟩
section
variable {x x' a y z k w v : Value} {P Pw : Nat} {q : Int}
theorem cb {m : Int} (hx : P64 (fv x) m) (hP : P ≤ 1000) : 0 ≤ (m.natAbs : Int) * P ∧ (m.natAbs : Int) * P ≤ 2147483648000 := by
  constructor
  · exact Int.mul_nonneg (by omega) (by omega)
  · have : (m.natAbs : Int) * P ≤ 2147483648 * 1000 := Int.mul_le_mul (by have := hx.2.2; omega) (by omega) (by omega) (by decide)
    omega
theorem y_fin (pre : ∃ m, P64 (fv x) m) (ea : fv x' = fv x) (ha : fv a = fv x' % 2 ^ 63) (hP : Ten P Pw q)
    (h1 : farV .mul .f64 (fv a) Pw = some (some (fv y)) ∨ farV .mul .f64 (fv a) Pw = some none ∧ Nan64 (fv y)) : Fin64 (fv y) := by
  obtain ⟨m, hx⟩ := pre
  exact (st_mul hx (by rw [ha, ea]) hP.le hP.word h1).1
theorem v_end {f : Int → Int} {m s : Int} (hx : P64 (fv x) m) (ea : fv x' = fv x) (hs : qsv (f (m.natAbs * tenN q)) (tenN q) s) (fw : Fin64 (fv w)) (lw : fv w < 2 ^ 64) (ew : sv (fv w) = s)
    (h5 : (ford (fv x') 0 = some .lt ∧ fv v = Op.negFloat .f64 (fv w)) ∨ (ford (fv x') 0 ≠ some .lt ∧ fv v = fv w)) :
    Fin64 (fv v) ∧ ∀ r : Value, fv r = (if sv (fv v) = 0 then 0 else fv v) → resR f (fv x) q (fv r) := by
  rw [ea] at h5
  have h6 : (m < 0 ∧ fv v = Op.negFloat .f64 (fv w)) ∨ (0 ≤ m ∧ fv v = fv w) := h5.imp (fun h => ⟨lt_m hx h.1, h.2⟩) (fun h => ⟨ge_m hx h.1, h.2⟩)
  refine ⟨?_, fun r hr => st_end hx hs fw lw ew h6 hr⟩
  rcases h6 with h | h
  · rw [h.2]; exact (neg_fin fw lw).1
  · rw [h.2]; exact fw
theorem ro_leaf (pre : ∃ m, P64 (fv x) m) (ea : fv x' = fv x) (ha : fv a = fv x' % 2 ^ 63) (hP : Ten P Pw q)
    (h1 : farV .mul .f64 (fv a) Pw = some (some (fv y)) ∨ farV .mul .f64 (fv a) Pw = some none ∧ Nan64 (fv y))
    (h2 : farV .add .f64 (fv y) 4602678819172646912 = some (some (fv z)) ∨ farV .add .f64 (fv y) 4602678819172646912 = some none ∧ Nan64 (fv z))
    (hz : z = .float .f64 (fv z)) (h3 : extRel .floor [z] k)
    (h4 : farV .quo .f64 (fv k) Pw = some (some (fv w)) ∨ farV .quo .f64 (fv k) Pw = some none ∧ Nan64 (fv w))
    (h5 : (ford (fv x') 0 = some .lt ∧ fv v = Op.negFloat .f64 (fv w)) ∨ (ford (fv x') 0 ≠ some .lt ∧ fv v = fv w)) :
    Fin64 (fv v) ∧ ∀ r : Value, fv r = (if sv (fv v) = 0 then 0 else fv v) → resR kRo (fv x) q (fv r) := by
  obtain ⟨m, hx⟩ := pre
  have b := cb hx hP.le
  obtain ⟨f1, s1⟩ := st_mul hx (by rw [ha, ea]) hP.le hP.word h1
  obtain ⟨f2, s2⟩ := st_half f1 s1 (by omega) (by omega) h2
  have hk := st_floor hz f2 s2 (by omega) (by omega) h3
  obtain ⟨s, q1, q2, q3, q4⟩ := st_quo hk (by omega) (by omega) hP.pos hP.le hP.word hP.z1 hP.z2 h4
  exact v_end (w := w) hx ea (by rw [hP.ten]; exact q1) q2 q3 q4 h5
theorem up_leaf (pre : ∃ m, P64 (fv x) m) (ea : fv x' = fv x) (ha : fv a = fv x' % 2 ^ 63) (hP : Ten P Pw q)
    (h1 : farV .mul .f64 (fv a) Pw = some (some (fv y)) ∨ farV .mul .f64 (fv a) Pw = some none ∧ Nan64 (fv y))
    (hz : y = .float .f64 (fv y)) (h3 : extRel .ceil [y] k)
    (h4 : farV .quo .f64 (fv k) Pw = some (some (fv w)) ∨ farV .quo .f64 (fv k) Pw = some none ∧ Nan64 (fv w))
    (h5 : (ford (fv x') 0 = some .lt ∧ fv v = Op.negFloat .f64 (fv w)) ∨ (ford (fv x') 0 ≠ some .lt ∧ fv v = fv w)) :
    Fin64 (fv v) ∧ ∀ r : Value, fv r = (if sv (fv v) = 0 then 0 else fv v) → resR kUp (fv x) q (fv r) := by
  obtain ⟨m, hx⟩ := pre
  have b := cb hx hP.le
  obtain ⟨f1, s1⟩ := st_mul hx (by rw [ha, ea]) hP.le hP.word h1
  have hk := st_ceil hz f1 s1 (by omega) (by omega) h3
  obtain ⟨s, q1, q2, q3, q4⟩ := st_quo hk (by omega) (by omega) hP.pos hP.le hP.word hP.z1 hP.z2 h4
  exact v_end (w := w) hx ea (by rw [hP.ten]; exact q1) q2 q3 q4 h5
theorem dn_leaf (pre : ∃ m, P64 (fv x) m) (ea : fv x' = fv x) (ha : fv a = fv x' % 2 ^ 63) (hP : Ten P Pw q)
    (h1 : farV .mul .f64 (fv a) Pw = some (some (fv y)) ∨ farV .mul .f64 (fv a) Pw = some none ∧ Nan64 (fv y))
    (hz : y = .float .f64 (fv y)) (h3 : extRel .floor [y] k)
    (h4 : farV .quo .f64 (fv k) Pw = some (some (fv w)) ∨ farV .quo .f64 (fv k) Pw = some none ∧ Nan64 (fv w))
    (h5 : (ford (fv x') 0 = some .lt ∧ fv v = Op.negFloat .f64 (fv w)) ∨ (ford (fv x') 0 ≠ some .lt ∧ fv v = fv w)) :
    Fin64 (fv v) ∧ ∀ r : Value, fv r = (if sv (fv v) = 0 then 0 else fv v) → resR kDn (fv x) q (fv r) := by
  obtain ⟨m, hx⟩ := pre
  have b := cb hx hP.le
  obtain ⟨f1, s1⟩ := st_mul hx (by rw [ha, ea]) hP.le hP.word h1
  have hk := st_floor hz f1 s1 (by omega) (by omega) h3
  obtain ⟨s, q1, q2, q3, q4⟩ := st_quo hk (by omega) (by omega) hP.pos hP.le hP.word hP.z1 hP.z2 h4
  exact v_end (w := w) hx ea (by rw [hP.ten]; exact q1) q2 q3 q4 h5
end
theorem pre_nice {x : Nat} (h : ∃ m, P64 x m) : niceF x := by
  obtain ⟨m, h⟩ := h
  exact ⟨h.1, h.2.2.2.2⟩
end Go.Proofs.Rnd
