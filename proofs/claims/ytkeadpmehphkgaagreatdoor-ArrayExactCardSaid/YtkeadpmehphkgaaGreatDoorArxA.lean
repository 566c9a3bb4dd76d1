/- Small functions, as they are called by the law of exact operators. -/
import Derived.Test.YtkeadpmehphkgaaGreatDoorRows
import Derived.Test.YtkeadpmehphkgaaGreatDoorEvCon2
import Derived.Test.YtkeadpmehphkgaaGreatDoorFDivN
import Derived.Test.YtkeadpmehphkgaaGreatDoorFArr
import Derived.Test.YtkeadpmehphkgaaGreatDoorEvBool
namespace Go.Proofs.Arx
open Go.Ev Go.RowKit Ieee Go.Proofs.YtkeadpmehphkgaaGreatDoor
set_option maxRecDepth 1000000
abbrev vZ : Value := .int .i64 0
abbrev vO : Value := .int .i64 1
abbrev vI (n : Int) : Value := .int .i64 n
abbrev vT : Value := .bool true
abbrev vF : Value := .bool false
abbrev vE : Value := .string ⟨#[]⟩
abbrev vU : Value := .tuple #[]
abbrev vG (n : Nat) : Value := .float .f64 n
abbrev vS (b : Array UInt8) : Value := .string ⟨b⟩
abbrev tI (x : Value) : Prop := x = .int .i64 (iv x)
abbrev tF (x : Value) : Prop := x = .float .f64 (fv x)
abbrev fl : Sh := .sc (.float .f64)
def int0 (n : Int) : Sh := .sc (.is (.int .i64 n))
def yes (b : Bool) : Sh := .sc (.is (.bool b))
def noT : Sh := .sc (.is (.string ⟨#[]⟩))
abbrev i64S : Sh := .sc (.int .i64)
def wn : Sh := .whole true (-1022) 1023
def two : Sh := .sc (.is (.float .f64 4611686018427387904))
def numV (x : Sh) : Sh := .agg [int0 1, x, noT, yes false, int0 0]
def vR : Sh := .agg [i64S, fl, noT, yes false, i64S]
def gv (l : List Value) (n : Nat) : Value := l.getD n (.tuple #[])
def X : List (Nat × ExtOp) := [(34, .fbits), (8, .ffrom), (102, .trunc), (104, .sqrt)]
def niceF (x : Nat) : Prop := Fin64 x ∧ (sv x = 0 → x = 0)
def isTrue (l : List Value) : Prop := l = [.bool true]
def chkRPre (l : List Value) : Prop := niceF (fv (gv l 1))
def chkR (_ : List Value) : Prop := True
def chkWR (_ : List Value) : Prop := True
def asnRPre (l : List Value) : Prop := niceF (fv (gv l 1))
def asnR (l : List Value) : Prop := fv (gv l 6) = fv (gv l 1)
def asnWR (l : List Value) : Prop := iv (gv l 7) = iv (gv l 1)
def asn2R (_ : List Value) : Prop := True
def reckR (l : List Value) : Prop := RK (fv (gv l 0)) (iv (gv l 1)) (fv (gv l 2)) (iv (gv l 5))
def opPre (l : List Value) : Prop := niceF (fv (gv l 2)) ∧ niceF (fv (gv l 7))
def addRPre (l : List Value) : Prop := opPre l
def subRPre (l : List Value) : Prop := opPre l
def mulRPre (l : List Value) : Prop := opPre l
def divRPre (l : List Value) : Prop := opPre l ∧ sv (fv (gv l 7)) ≠ 0
def opR (op : BinOp) (l : List Value) : Prop := ∃ z, FarR op (fv (gv l 2)) (fv (gv l 7)) z ∧ RK z (iv (gv l 11)) (fv (gv l 12)) (iv (gv l 15))
def addR (l : List Value) : Prop := opR .add l
def subR (l : List Value) : Prop := opR .sub l
def mulR (l : List Value) : Prop := opR .mul l
def divR (l : List Value) : Prop := opR .quo l
def sameR (l : List Value) : Prop := iv (gv l 0) = iv (gv l 5) → fv (gv l 1) = fv (gv l 6) → iv (gv l 4) = iv (gv l 9) → bv (gv l 10) = true
def powI (l : List Value) : Prop := powAt (iv (gv l 0)) (fv (gv l 1)) (iv (gv l 2))
def powIM (l : List Value) : Nat := (iv (gv l 2) + 1).toNat
def powI_ : LSpec := ⟨"powI", powI, powIM, some [6], [(1, -1, 10)]⟩
def powR (l : List Value) : Prop := iv (gv l 3) = 1 ∧ fv (gv l 4) = PW (iv (gv l 1) + 1022).toNat ∧ iv (gv l 7) = 0
def powBR (l : List Value) : Prop := iv (gv l 12) = 1 ∧ fv (gv l 13) = PW (iv (gv l 7) + 1022).toNat ∧ iv (gv l 16) = 0
def exactR (l : List Value) : Prop := bv (gv l 3) = true
def begunC : Con := { f := 9, ins := [], out := .sc .bool, id := "isTrue", rel := isTrue }
def chkC : Con := { f := 35, ins := [numV fl], out := int0 0, id := "chkR", pre := chkRPre, asks := true, rel := chkR }
def chkWC : Con := { f := 35, ins := [numV wn], out := int0 0, id := "chkWR", rel := chkWR }
def chk2C : Con := { f := 35, ins := [numV two], out := int0 0, id := "chkWR", rel := chkWR }
def asnC : Con := { f := 37, ins := [numV fl], out := numV fl, id := "asnR", pre := asnRPre, asks := true, rel := asnR }
def asnWC : Con := { f := 37, ins := [numV wn], out := numV wn, id := "asnWR", rel := asnWR }
def asn2C : Con := { f := 37, ins := [numV two], out := numV two, id := "asn2R", rel := asn2R }
def reckC : Con := { f := 62, ins := [fl], out := vR, id := "reckR", rel := reckR }
def rreckC : Con := { f := 13, ins := [fl], out := vR, id := "reckR", rel := reckR }
def sameC : Con := { f := 11, ins := [vR, vR], out := .sc .bool, id := "sameR", rel := sameR }
def binC (op : Int) (id : String) (pre rel : List Value → Prop) : Con := { f := 12, ins := [int0 op, numV fl, numV fl], out := vR, id := id, pre := pre, asks := true, rel := rel }
def addC : Con := binC 15 "addR" addRPre addR
def subC : Con := binC 16 "subR" subRPre subR
def mulC : Con := binC 13 "mulR" mulRPre mulR
def divC : Con := binC 14 "divR" divRPre divR
def powerC : Con := { f := 65, ins := [two, wn], out := vR, id := "powR", rel := powR }
def powC : Con := { f := 12, ins := [int0 12, numV two, numV wn], out := vR, id := "powBR", rel := powBR }
def lawC : Con := { f := 3, ins := [.sc (.int .u64), .sc (.int .u64), i64S], out := .sc .bool, id := "exactR", rel := exactR }
theorem all_nil {P : Con → Prop} : ∀ c ∈ ([] : List Con), P c := fun _ h => by cases h
theorem all_cons {P : Con → Prop} {c : Con} {l : List Con} (h : P c) (t : ∀ c ∈ l, P c) : ∀ x ∈ c :: l, P x := fun x hx => by
  cases hx with
  | head => exact h
  | tail _ hx => exact t x hx
theorem mixed : Tryz.prog.follows .mixedOrders = true := by kernel_rfl
theorem extAt_get {f : Nat} {x : ExtOp} (h : (Tryz.prog.funcs[f]?).isSome = true) (hn : ((Tryz.prog.funcs[f]?.get h).name == "runtime.NumGoroutine") = false) (hb : (Tryz.prog.funcs[f]?.get h).body.isNone = true)
    (hn : Extern.findNext (Tryz.prog.funcs[f]?.get h) = none) (he : Extern.find (Tryz.prog.funcs[f]?.get h) = some x.sem) : ExtAt Tryz.prog f x :=
  extAt_of (Option.some_get h).symm ‹_› hb hn he
theorem exts_ok : ∀ p ∈ X, ExtAt Tryz.prog p.1 p.2 := by
  intro p hp
  simp only [X, List.mem_cons, List.not_mem_nil, or_false] at hp
  rcases hp with rfl | rfl | rfl | rfl <;> exact extAt_get (by kernel_rfl) (by kernel_rfl) (by kernel_rfl) (by kernel_rfl) (by kernel_rfl)
noncomputable def cfgB (base : Nat) (cons : List Con) : Cfg := cfgG Tryz.prog base (entersOf Tryz.prog) X cons
def All (_ : World) : Prop := True
theorem by_tie {c : Con} {cons : List Con} {K : List (Nat × Nat × LSpec)} {n : Nat} {Q : Prop} (tie : c.goals (cfgB c.base cons) K n = Q) (he : entersOf Tryz.prog c.f = true) (hc : ∀ c ∈ cons, c.ok Tryz.prog All) (h : Q) : c.ok Tryz.prog All := by
  have h' : c.goals (cfgB c.base cons) K n := by rw [tie]; exact h
  exact con_ok (C := cfgB c.base cons) (K := K) (n := n) mixed he (fun w hw => { (cfg_ok (B := w.heap.size) (G := c.base) (w0 := ⟨w, [], Tryz.prog⟩) rfl (fun _ h => h) exts_ok) with summ := conSumm_ok (cond := All) (fun _ _ => trivial) hc }) h'
theorem fin0 : Fin64 0 ∧ sv 0 = 0 := by
  have h := whole_sv (WholeF.near (n := 0) (by decide) (by decide))
  rw [near_zero] at h
  exact ⟨h.1, by rw [h.2.1]; simp⟩
theorem ford_self {x : Nat} (h : Fin64 x) : ford x x = some .eq := by rw [ford_fin h h]; exact congrArg some (Int.compare_eq_eq.2 rfl)
theorem ford_zero {x : Nat} (h : Fin64 x) : ford x 0 = some .eq ↔ sv x = 0 := by
  rw [ford_fin h fin0.1, fin0.2, Option.some.injEq]; exact Int.compare_eq_eq
theorem ford_big {x : Nat} (h : Fin64 x) : ford (x % 2 ^ 63) 9218868437227405311 ≠ some .gt := by
  have := (order_max (abs_fin h).1).1
  exact this
theorem abs_x {x a b r : Value} (hx : x = .float .f64 (fv x)) (h1 : extRel .fbits [x] a) (h2 : ibin .andNot IntKind.u64 (iv a) 9223372036854775808 = some (.int IntKind.u64 (iv b))) (hb : b = .int .u64 (iv b)) (h3 : extRel .ffrom [b] r) : fv r = fv x % 2 ^ 63 := abs_of hx h1 h2 hb h3
theorem sub_test {x d : Nat} (h : farV .sub .f64 x x = some (some d) ∨ farV .sub .f64 x x = some none ∧ Nan64 d) : ford d 0 = some .eq ↔ Fin64 x := by
  have z : Ieee.double.order 0 0 = some .eq := by decide
  rcases three x with c | c | c
  · have e : farV .sub .f64 x x = some (some 0) := congrArg some (sub_self c)
    have : d = 0 := far_val h e
    subst this
    exact ⟨fun _ => c, fun _ => z⟩
  · have nf : ¬ Fin64 x := fun f => by unfold Fin64 at f; omega
    refine ⟨fun k => ?_, fun f => (nf f).elim⟩
    obtain ⟨s, hs⟩ := inf_read c
    have e : farV .sub .f64 x x = some none := by
      show some (Ieee.double.sub x x) = _
      unfold Ieee.Format.sub
      rw [hs]
      cases s <;> rfl
    rcases h with h | ⟨_, h⟩
    · rw [e] at h; cases h
    · rw [(ford_nan h 0).1] at k; cases k
  · have nf : ¬ Fin64 x := nan_not c
    refine ⟨fun k => ?_, fun f => (nf f).elim⟩
    have e : farV .sub .f64 x x = some none := congrArg some (sub_nan c x).1
    rcases h with h | ⟨_, h⟩
    · rw [e] at h; cases h
    · rw [(ford_nan h 0).1] at k; cases k
def isTrue_L0 : Prop := ∀ _ : Nat → Value,
    isTrue [vT]
theorem isTrue_tie : begunC.goals (cfgB begunC.base []) [] 2000 = (isTrue_L0 ∧ True) := by kernel_rfl
theorem begun_ok : begunC.ok Tryz.prog All := by_tie isTrue_tie (by kernel_rfl) all_nil ⟨fun _ => rfl, trivial⟩
theorem big_bad {x y : Nat} (h : Fin64 x) (e : y = x % 2 ^ 63) (g : ford y 9218868437227405311 = some .gt) : False := by
  subst e; exact ford_big h g
theorem not_big {x y : Nat} (e : y = x % 2 ^ 63) (n : ford x x = some .eq) (g : ford y 9218868437227405311 ≠ some .gt) : Fin64 x := by
  subst e
  have hn : ¬ Nan64 x := fun c => by rw [(ford_nan c x).1] at n; cases n
  have hb : fcmpV .gtr .f64 (x % 2 ^ 63) 9218868437227405311 = some (.bool false) := by
    show some (Value.bool (ford (x % 2 ^ 63) 9218868437227405311 == some .gt)) = _
    have : (ford (x % 2 ^ 63) 9218868437227405311 == some .gt) = false := by simpa using g
    rw [this]
  exact (cmp_abs_max hb hn).1 rfl
theorem is_big {x y : Nat} (e : y = x % 2 ^ 63) (g : ford y 9218868437227405311 = some .gt) : ¬ Fin64 x := fun f => big_bad f e g
theorem rk_err {z : Nat} (h : ¬ Fin64 z) : RK z 4 0 6 := .inr ⟨h, rfl, rfl, rfl⟩
theorem rk_nought {z : Nat} (f : Fin64 z) (h : ford z 0 = some .eq) : RK z 1 0 0 := .inl ⟨f, rfl, by rw [if_pos ((ford_zero f).1 h)], rfl⟩
theorem rk_num {z : Nat} (f : Fin64 z) (h : ford z 0 ≠ some .eq) : RK z 1 z 0 := .inl ⟨f, rfl, by rw [if_neg (fun e => h ((ford_zero f).2 e))], rfl⟩
def reckR_L0 : Prop := ∀ σ : Nat → Value,
 tF (σ 0) →
 σ 3 = .int .u64 (iv (σ 3)) →
 σ 4 = .int .u64 (iv (σ 4)) →
 tF (σ 5) →
 extRel .fbits [σ 0] (σ 3) →
 ibin .andNot IntKind.u64 (iv (σ 3)) (9223372036854775808) = some (.int IntKind.u64 (iv (σ 4))) →
 extRel .ffrom [σ 4] (σ 5) →
 ford (fv (σ 5)) (9218868437227405311) = some .gt →
 bv (σ 6) = !false →
 bv (σ 7) = !true →
 ford (fv (σ 0)) (fv (σ 0)) = some .eq →
 bv (σ 1) = !true →
    reckR [σ 0, (vI 4), (vG 0), vE, vF, (vI 6)]
def reckR_L1 : Prop := ∀ σ : Nat → Value,
 tF (σ 0) →
 σ 3 = .int .u64 (iv (σ 3)) →
 σ 4 = .int .u64 (iv (σ 4)) →
 tF (σ 5) →
 extRel .fbits [σ 0] (σ 3) →
 ibin .andNot IntKind.u64 (iv (σ 3)) (9223372036854775808) = some (.int IntKind.u64 (iv (σ 4))) →
 extRel .ffrom [σ 4] (σ 5) →
 ford (fv (σ 0)) (0) = some .eq →
 ford (fv (σ 5)) (9218868437227405311) ≠ some .gt →
 bv (σ 6) = !true →
 bv (σ 7) = !false →
 ford (fv (σ 0)) (fv (σ 0)) = some .eq →
 bv (σ 1) = !true →
    reckR [σ 0, vO, (vG 0), vE, vF, vZ]
def reckR_L2 : Prop := ∀ σ : Nat → Value,
 tF (σ 0) →
 σ 3 = .int .u64 (iv (σ 3)) →
 σ 4 = .int .u64 (iv (σ 4)) →
 tF (σ 5) →
 extRel .fbits [σ 0] (σ 3) →
 ibin .andNot IntKind.u64 (iv (σ 3)) (9223372036854775808) = some (.int IntKind.u64 (iv (σ 4))) →
 extRel .ffrom [σ 4] (σ 5) →
 ford (fv (σ 0)) (0) ≠ some .eq →
 ford (fv (σ 5)) (9218868437227405311) ≠ some .gt →
 bv (σ 6) = !true →
 bv (σ 7) = !false →
 ford (fv (σ 0)) (fv (σ 0)) = some .eq →
 bv (σ 1) = !true →
    reckR [σ 0, vO, σ 0, vE, vF, vZ]
def reckR_L3 : Prop := ∀ σ : Nat → Value,
 tF (σ 0) →
 ford (fv (σ 0)) (fv (σ 0)) ≠ some .eq →
 bv (σ 1) = !false →
    reckR [σ 0, (vI 4), (vG 0), vE, vF, (vI 6)]
theorem reckR_tie : reckC.goals (cfgB reckC.base []) [] 2000 = (reckR_L0 ∧ reckR_L1 ∧ reckR_L2 ∧ reckR_L3 ∧ True) := by kernel_rfl
theorem reck_ok : reckC.ok Tryz.prog All := by
  refine by_tie reckR_tie (by kernel_rfl) all_nil ⟨?_, ?_, ?_, ?_, trivial⟩
  · intro σ; intros
    have e := abs_x (x := σ 0) (a := σ 3) (b := σ 4) (r := σ 5) ‹_› ‹_› ‹_› ‹_› ‹_›
    exact rk_err (is_big e ‹ford (fv (σ 5)) _ = some .gt›)
  · intro σ; intros
    have e := abs_x (x := σ 0) (a := σ 3) (b := σ 4) (r := σ 5) ‹_› ‹_› ‹_› ‹_› ‹_›
    exact rk_nought (not_big e ‹ford (fv (σ 0)) (fv (σ 0)) = some .eq› ‹ford (fv (σ 5)) _ ≠ some .gt›) ‹ford (fv (σ 0)) 0 = some .eq›
  · intro σ; intros
    have e := abs_x (x := σ 0) (a := σ 3) (b := σ 4) (r := σ 5) ‹_› ‹_› ‹_› ‹_› ‹_›
    exact rk_num (not_big e ‹ford (fv (σ 0)) (fv (σ 0)) = some .eq› ‹ford (fv (σ 5)) _ ≠ some .gt›) ‹ford (fv (σ 0)) 0 ≠ some .eq›
  · intro σ; intros
    exact rk_err (fun f => ‹ford (fv (σ 0)) (fv (σ 0)) ≠ some .eq› (ford_self f))
namespace R
def reckR_L0 : Prop := ∀ σ : Nat → Value,
 tF (σ 0) →
 tF (σ 1) →
 (farV .sub .f64 (fv (σ 0)) (fv (σ 0)) = some (some (fv (σ 1))) ∨ (farV .sub .f64 (fv (σ 0)) (fv (σ 0)) = some none ∧ Nan64 (fv (σ 1)))) →
 ford (fv (σ 1)) (0) ≠ some .eq →
 bv (σ 2) = !true →
    reckR [σ 0, (vI 4), (vG 0), vE, vF, (vI 6)]
def reckR_L1 : Prop := ∀ σ : Nat → Value,
 tF (σ 0) →
 tF (σ 1) →
 (farV .sub .f64 (fv (σ 0)) (fv (σ 0)) = some (some (fv (σ 1))) ∨ (farV .sub .f64 (fv (σ 0)) (fv (σ 0)) = some none ∧ Nan64 (fv (σ 1)))) →
 ford (fv (σ 0)) (0) = some .eq →
 ford (fv (σ 1)) (0) = some .eq →
 bv (σ 2) = !false →
    reckR [σ 0, vO, (vG 0), vE, vF, vZ]
def reckR_L2 : Prop := ∀ σ : Nat → Value,
 tF (σ 0) →
 tF (σ 1) →
 (farV .sub .f64 (fv (σ 0)) (fv (σ 0)) = some (some (fv (σ 1))) ∨ (farV .sub .f64 (fv (σ 0)) (fv (σ 0)) = some none ∧ Nan64 (fv (σ 1)))) →
 ford (fv (σ 0)) (0) ≠ some .eq →
 ford (fv (σ 1)) (0) = some .eq →
 bv (σ 2) = !false →
    reckR [σ 0, vO, σ 0, vE, vF, vZ]
theorem reckR_tie : rreckC.goals (cfgB rreckC.base []) [] 2000 = (reckR_L0 ∧ reckR_L1 ∧ reckR_L2 ∧ True) := by kernel_rfl
theorem ok : rreckC.ok Tryz.prog All := by
  refine by_tie reckR_tie (by kernel_rfl) all_nil ⟨?_, ?_, ?_, trivial⟩
  · intro σ; intros
    exact rk_err (fun f => ‹ford (fv (σ 1)) 0 ≠ some .eq› ((sub_test ‹farV .sub .f64 _ _ = _ ∨ _›).2 f))
  · intro σ; intros
    exact rk_nought ((sub_test ‹farV .sub .f64 _ _ = _ ∨ _›).1 ‹ford (fv (σ 1)) 0 = some .eq›) ‹ford (fv (σ 0)) 0 = some .eq›
  · intro σ; intros
    exact rk_num ((sub_test ‹farV .sub .f64 _ _ = _ ∨ _›).1 ‹ford (fv (σ 1)) 0 = some .eq›) ‹ford (fv (σ 0)) 0 ≠ some .eq›
end R
def sameR_L0 : Prop := ∀ σ : Nat → Value,
 tI (σ 0) →
 tF (σ 1) →
 σ 2 = vE →
 σ 3 = vF →
 tI (σ 4) →
 tI (σ 5) →
 tF (σ 6) →
 σ 7 = vE →
 σ 8 = vF →
 tI (σ 9) →
 σ 12 = .int .u64 (iv (σ 12)) →
 σ 13 = .int .u64 (iv (σ 13)) →
 σ 14 = .bool (bv (σ 14)) →
 extRel .fbits [σ 1] (σ 12) →
 extRel .fbits [σ 6] (σ 13) →
 bv (σ 14) = decide (iv (σ 12) = iv (σ 13)) →
 iv (σ 4) = iv (σ 9) →
 iv (σ 0) = iv (σ 5) →
    sameR [σ 0, σ 1, vE, vF, σ 4, σ 5, σ 6, vE, vF, σ 9, σ 14]
def sameR_L1 : Prop := ∀ σ : Nat → Value,
 tI (σ 0) →
 tF (σ 1) →
 σ 2 = vE →
 σ 3 = vF →
 tI (σ 4) →
 tI (σ 5) →
 tF (σ 6) →
 σ 7 = vE →
 σ 8 = vF →
 tI (σ 9) →
 iv (σ 4) ≠ iv (σ 9) →
 iv (σ 0) = iv (σ 5) →
    sameR [σ 0, σ 1, vE, vF, σ 4, σ 5, σ 6, vE, vF, σ 9, vF]
def sameR_L2 : Prop := ∀ σ : Nat → Value,
 tI (σ 0) →
 tF (σ 1) →
 σ 2 = vE →
 σ 3 = vF →
 tI (σ 4) →
 tI (σ 5) →
 tF (σ 6) →
 σ 7 = vE →
 σ 8 = vF →
 tI (σ 9) →
 iv (σ 0) ≠ iv (σ 5) →
    sameR [σ 0, σ 1, vE, vF, σ 4, σ 5, σ 6, vE, vF, σ 9, vF]
theorem sameR_tie : sameC.goals (cfgB sameC.base []) [] 2000 = (sameR_L0 ∧ sameR_L1 ∧ sameR_L2 ∧ True) := by kernel_rfl
theorem sameR_L0_ok : sameR_L0 := by
  intro σ; intros
  have e1 := fbits_iv (a := σ 1) (r := σ 12) ‹_› ‹_›
  have e2 := fbits_iv (a := σ 6) (r := σ 13) ‹_› ‹_›
  have d := ‹bv (σ 14) = decide _›
  intro _ h _
  have h' : fv (σ 1) = fv (σ 6) := h
  show bv (σ 14) = true
  rw [d]
  exact decide_eq_true (by rw [e1, e2, h'])
theorem sameR_L1_ok : sameR_L1 := by
  intro σ; intros
  intro _ _ h
  exact (‹iv (σ 4) ≠ iv (σ 9)› h).elim
theorem sameR_L2_ok : sameR_L2 := by
  intro σ; intros
  intro h
  exact (‹iv (σ 0) ≠ iv (σ 5)› h).elim
theorem same_ok : sameC.ok Tryz.prog All := by_tie sameR_tie (by kernel_rfl) all_nil ⟨sameR_L0_ok, sameR_L1_ok, sameR_L2_ok, trivial⟩
def chkR_L0 : Prop := ∀ σ : Nat → Value,
 σ 0 = vO →
 tF (σ 1) →
 σ 2 = vE →
 σ 3 = vF →
 σ 4 = vZ →
 σ 7 = .int .u64 (iv (σ 7)) →
 σ 8 = .int .u64 (iv (σ 8)) →
 tF (σ 9) →
 tI (σ 13) →
 0 ≤ iv (σ 13) →
 chkRPre [vO, σ 1, vE, vF, vZ] →
 extRel .fbits [σ 1] (σ 7) →
 ibin .andNot IntKind.u64 (iv (σ 7)) (9223372036854775808) = some (.int IntKind.u64 (iv (σ 8))) →
 extRel .ffrom [σ 8] (σ 9) →
 iv (σ 13) = IntKind.i64.wrap (iv (σ 7)) →
 0 ≤ iv (σ 13) →
 bv (σ 14) = !true →
 ford (fv (σ 1)) (0) = some .eq →
 ford (fv (σ 9)) (9218868437227405311) ≠ some .gt →
 bv (σ 10) = !true →
 ford (fv (σ 1)) (fv (σ 1)) = some .eq →
 bv (σ 5) = !true →
    chkR [vO, σ 1, vE, vF, vZ, vZ]
def chkR_L1 : Prop := ∀ σ : Nat → Value,
 σ 0 = vO →
 tF (σ 1) →
 σ 2 = vE →
 σ 3 = vF →
 σ 4 = vZ →
 σ 7 = .int .u64 (iv (σ 7)) →
 σ 8 = .int .u64 (iv (σ 8)) →
 tF (σ 9) →
 tI (σ 13) →
 iv (σ 13) ≤ (-1) →
 chkRPre [vO, σ 1, vE, vF, vZ] →
 extRel .fbits [σ 1] (σ 7) →
 ibin .andNot IntKind.u64 (iv (σ 7)) (9223372036854775808) = some (.int IntKind.u64 (iv (σ 8))) →
 extRel .ffrom [σ 8] (σ 9) →
 iv (σ 13) = IntKind.i64.wrap (iv (σ 7)) →
 iv (σ 13) < 0 →
 bv (σ 14) = !false →
 ford (fv (σ 1)) (0) = some .eq →
 ford (fv (σ 9)) (9218868437227405311) ≠ some .gt →
 bv (σ 10) = !true →
 ford (fv (σ 1)) (fv (σ 1)) = some .eq →
 bv (σ 5) = !true →
    False
def chkR_L2 : Prop := ∀ σ : Nat → Value,
 σ 0 = vO →
 tF (σ 1) →
 σ 2 = vE →
 σ 3 = vF →
 σ 4 = vZ →
 σ 7 = .int .u64 (iv (σ 7)) →
 σ 8 = .int .u64 (iv (σ 8)) →
 tF (σ 9) →
 chkRPre [vO, σ 1, vE, vF, vZ] →
 extRel .fbits [σ 1] (σ 7) →
 ibin .andNot IntKind.u64 (iv (σ 7)) (9223372036854775808) = some (.int IntKind.u64 (iv (σ 8))) →
 extRel .ffrom [σ 8] (σ 9) →
 ford (fv (σ 1)) (0) ≠ some .eq →
 ford (fv (σ 9)) (9218868437227405311) ≠ some .gt →
 bv (σ 10) = !true →
 ford (fv (σ 1)) (fv (σ 1)) = some .eq →
 bv (σ 5) = !true →
    chkR [vO, σ 1, vE, vF, vZ, vZ]
def chkR_L3 : Prop := ∀ σ : Nat → Value,
 σ 0 = vO →
 tF (σ 1) →
 σ 2 = vE →
 σ 3 = vF →
 σ 4 = vZ →
 σ 7 = .int .u64 (iv (σ 7)) →
 σ 8 = .int .u64 (iv (σ 8)) →
 tF (σ 9) →
 chkRPre [vO, σ 1, vE, vF, vZ] →
 extRel .fbits [σ 1] (σ 7) →
 ibin .andNot IntKind.u64 (iv (σ 7)) (9223372036854775808) = some (.int IntKind.u64 (iv (σ 8))) →
 extRel .ffrom [σ 8] (σ 9) →
 ford (fv (σ 9)) (9218868437227405311) = some .gt →
 bv (σ 10) = !false →
 ford (fv (σ 1)) (fv (σ 1)) = some .eq →
 bv (σ 5) = !true →
    False
def chkR_L4 : Prop := ∀ σ : Nat → Value,
 σ 0 = vO →
 tF (σ 1) →
 σ 2 = vE →
 σ 3 = vF →
 σ 4 = vZ →
 chkRPre [vO, σ 1, vE, vF, vZ] →
 ford (fv (σ 1)) (fv (σ 1)) ≠ some .eq →
 bv (σ 5) = !false →
    False
theorem chkR_tie : chkC.goals (cfgB chkC.base []) [] 2000 = (chkR_L0 ∧ chkR_L1 ∧ chkR_L2 ∧ chkR_L3 ∧ chkR_L4 ∧ True) := by kernel_rfl
theorem wrap_zero : IntKind.i64.wrap (0 : Int) = 0 := by decide
theorem chk_ok : chkC.ok Tryz.prog All := by
  refine by_tie chkR_tie (by kernel_rfl) all_nil ⟨fun _ => ?_, ?_, fun _ => ?_, ?_, ?_, trivial⟩
  · intros; exact trivial
  · intro σ; intros
    have p_ := ‹chkRPre _›
    have p : niceF (fv (σ 1)) := p_
    have z := p.2 ((ford_zero p.1).1 ‹ford (fv (σ 1)) 0 = some .eq›)
    have e1 := fbits_iv (a := σ 1) (r := σ 7) ‹_› ‹_›
    rw [z] at e1
    have e2 := ‹iv (σ 13) = IntKind.i64.wrap (iv (σ 7))›
    rw [e1] at e2
    have e3 : iv (σ 13) = 0 := e2.trans wrap_zero
    omega
  · intros; exact trivial
  · intro σ; intros
    have p_ := ‹chkRPre _›
    have p : niceF (fv (σ 1)) := p_
    exact big_bad p.1 (abs_x (a := σ 7) (b := σ 8) ‹_› ‹_› ‹_› ‹_› ‹_›) ‹ford (fv (σ 9)) _ = some .gt›
  · intro σ; intros
    have p_ := ‹chkRPre _›
    have p : niceF (fv (σ 1)) := p_
    exact ‹ford (fv (σ 1)) (fv (σ 1)) ≠ some .eq› (ford_self p.1)
def asnR_L0 : Prop := ∀ σ : Nat → Value,
 σ 0 = vO →
 tF (σ 1) →
 σ 2 = vE →
 σ 3 = vF →
 σ 4 = vZ →
 σ 7 = .int .u64 (iv (σ 7)) →
 σ 8 = .int .u64 (iv (σ 8)) →
 tF (σ 9) →
 asnRPre [vO, σ 1, vE, vF, vZ] →
 extRel .fbits [σ 1] (σ 7) →
 ibin .andNot IntKind.u64 (iv (σ 7)) (9223372036854775808) = some (.int IntKind.u64 (iv (σ 8))) →
 extRel .ffrom [σ 8] (σ 9) →
 ford (fv (σ 9)) (9218868437227405311) = some .gt →
 bv (σ 10) = !false →
 bv (σ 11) = !true →
 ford (fv (σ 1)) (fv (σ 1)) = some .eq →
 bv (σ 5) = !true →
    False
def asnR_L1 : Prop := ∀ σ : Nat → Value,
 σ 0 = vO →
 tF (σ 1) →
 σ 2 = vE →
 σ 3 = vF →
 σ 4 = vZ →
 σ 7 = .int .u64 (iv (σ 7)) →
 σ 8 = .int .u64 (iv (σ 8)) →
 tF (σ 9) →
 asnRPre [vO, σ 1, vE, vF, vZ] →
 extRel .fbits [σ 1] (σ 7) →
 ibin .andNot IntKind.u64 (iv (σ 7)) (9223372036854775808) = some (.int IntKind.u64 (iv (σ 8))) →
 extRel .ffrom [σ 8] (σ 9) →
 ford (fv (σ 1)) (0) = some .eq →
 ford (fv (σ 9)) (9218868437227405311) ≠ some .gt →
 bv (σ 10) = !true →
 bv (σ 11) = !false →
 ford (fv (σ 1)) (fv (σ 1)) = some .eq →
 bv (σ 5) = !true →
    asnR [vO, σ 1, vE, vF, vZ, vO, (vG 0), vE, vF, vZ]
def asnR_L2 : Prop := ∀ σ : Nat → Value,
 σ 0 = vO →
 tF (σ 1) →
 σ 2 = vE →
 σ 3 = vF →
 σ 4 = vZ →
 σ 7 = .int .u64 (iv (σ 7)) →
 σ 8 = .int .u64 (iv (σ 8)) →
 tF (σ 9) →
 asnRPre [vO, σ 1, vE, vF, vZ] →
 extRel .fbits [σ 1] (σ 7) →
 ibin .andNot IntKind.u64 (iv (σ 7)) (9223372036854775808) = some (.int IntKind.u64 (iv (σ 8))) →
 extRel .ffrom [σ 8] (σ 9) →
 ford (fv (σ 1)) (0) ≠ some .eq →
 ford (fv (σ 9)) (9218868437227405311) ≠ some .gt →
 bv (σ 10) = !true →
 bv (σ 11) = !false →
 ford (fv (σ 1)) (fv (σ 1)) = some .eq →
 bv (σ 5) = !true →
    asnR [vO, σ 1, vE, vF, vZ, vO, σ 1, vE, vF, vZ]
def asnR_L3 : Prop := ∀ σ : Nat → Value,
 σ 0 = vO →
 tF (σ 1) →
 σ 2 = vE →
 σ 3 = vF →
 σ 4 = vZ →
 asnRPre [vO, σ 1, vE, vF, vZ] →
 ford (fv (σ 1)) (fv (σ 1)) ≠ some .eq →
 bv (σ 5) = !false →
    False
theorem asnR_tie : asnC.goals (cfgB asnC.base []) [] 2000 = (asnR_L0 ∧ asnR_L1 ∧ asnR_L2 ∧ asnR_L3 ∧ True) := by kernel_rfl
theorem asn_ok : asnC.ok Tryz.prog All := by
  refine by_tie asnR_tie (by kernel_rfl) all_nil ⟨?_, ?_, ?_, ?_, trivial⟩
  · intro σ; intros
    have p_ := ‹asnRPre _›
    have p : niceF (fv (σ 1)) := p_
    exact big_bad p.1 (abs_x (a := σ 7) (b := σ 8) ‹_› ‹_› ‹_› ‹_› ‹_›) ‹ford _ 9218868437227405311 = some .gt›
  · intro σ; intros
    have p_ := ‹asnRPre _›
    have p : niceF (fv (σ 1)) := p_
    show 0 = fv (σ 1)
    exact (p.2 ((ford_zero p.1).1 ‹ford (fv (σ 1)) 0 = some .eq›)).symm
  · intro σ; intros
    exact rfl
  · intro σ; intros
    have p_ := ‹asnRPre _›
    have p : niceF (fv (σ 1)) := p_
    exact ‹ford (fv (σ 1)) (fv (σ 1)) ≠ some .eq› (ford_self p.1)
namespace W
def chkWR_L0 : Prop := ∀ σ : Nat → Value,
 σ 0 = vO →
 tI (σ 1) →
 (-1022) ≤ iv (σ 1) →
 iv (σ 1) ≤ (-1) →
 tF (σ 2) →
 σ 3 = vE →
 σ 4 = vF →
 σ 5 = vZ →
 σ 6 = .int .u64 (iv (σ 6)) →
 σ 7 = .int .u64 (iv (σ 7)) →
 tI (σ 9) →
 1 ≤ iv (σ 9) →
 iv (σ 9) ≤ 1022 →
 tF (σ 10) →
 fv (σ 2) = FloatKind.f64.nearest (iv (σ 1)) →
 extRel .fbits [σ 2] (σ 6) →
 ibin .andNot IntKind.u64 (iv (σ 6)) (9223372036854775808) = some (.int IntKind.u64 (iv (σ 7))) →
 iv (σ 9) = 0 - iv (σ 1) →
 fv (σ 10) = FloatKind.f64.nearest (iv (σ 9)) →
 iv (σ 1) < 0 →
    chkWR [vO, σ 1, σ 2, vE, vF, vZ, vZ]
def chkWR_L1 : Prop := ∀ σ : Nat → Value,
 σ 0 = vO →
 tI (σ 1) →
 0 ≤ iv (σ 1) →
 iv (σ 1) ≤ 0 →
 tF (σ 2) →
 σ 3 = vE →
 σ 4 = vF →
 σ 5 = vZ →
 σ 6 = .int .u64 (iv (σ 6)) →
 σ 7 = .int .u64 (iv (σ 7)) →
 fv (σ 2) = FloatKind.f64.nearest (iv (σ 1)) →
 extRel .fbits [σ 2] (σ 6) →
 ibin .andNot IntKind.u64 (iv (σ 6)) (9223372036854775808) = some (.int IntKind.u64 (iv (σ 7))) →
 iv (σ 1) = 0 →
 0 ≤ iv (σ 1) →
    chkWR [vO, σ 1, σ 2, vE, vF, vZ, vZ]
def chkWR_L2 : Prop := ∀ σ : Nat → Value,
 σ 0 = vO →
 tI (σ 1) →
 1 ≤ iv (σ 1) →
 iv (σ 1) ≤ 1023 →
 tF (σ 2) →
 σ 3 = vE →
 σ 4 = vF →
 σ 5 = vZ →
 σ 6 = .int .u64 (iv (σ 6)) →
 σ 7 = .int .u64 (iv (σ 7)) →
 fv (σ 2) = FloatKind.f64.nearest (iv (σ 1)) →
 extRel .fbits [σ 2] (σ 6) →
 ibin .andNot IntKind.u64 (iv (σ 6)) (9223372036854775808) = some (.int IntKind.u64 (iv (σ 7))) →
 iv (σ 1) ≠ 0 →
 0 ≤ iv (σ 1) →
    chkWR [vO, σ 1, σ 2, vE, vF, vZ, vZ]
theorem chkWR_tie : chkWC.goals (cfgB chkWC.base []) [] 2000 = (chkWR_L0 ∧ chkWR_L1 ∧ chkWR_L2 ∧ True) := by kernel_rfl
theorem chk_ok : chkWC.ok Tryz.prog All := by
  refine by_tie chkWR_tie (by kernel_rfl) all_nil ⟨fun _ => ?_, fun _ => ?_, fun _ => ?_, trivial⟩
  · intros; exact trivial
  · intros; exact trivial
  · intros; exact trivial
def asnWR_L0 : Prop := ∀ σ : Nat → Value,
 σ 0 = vO →
 tI (σ 1) →
 (-1022) ≤ iv (σ 1) →
 iv (σ 1) ≤ (-1) →
 tF (σ 2) →
 σ 3 = vE →
 σ 4 = vF →
 σ 5 = vZ →
 σ 6 = .int .u64 (iv (σ 6)) →
 σ 7 = .int .u64 (iv (σ 7)) →
 tI (σ 9) →
 1 ≤ iv (σ 9) →
 iv (σ 9) ≤ 1022 →
 tF (σ 10) →
 fv (σ 2) = FloatKind.f64.nearest (iv (σ 1)) →
 extRel .fbits [σ 2] (σ 6) →
 ibin .andNot IntKind.u64 (iv (σ 6)) (9223372036854775808) = some (.int IntKind.u64 (iv (σ 7))) →
 iv (σ 9) = 0 - iv (σ 1) →
 fv (σ 10) = FloatKind.f64.nearest (iv (σ 9)) →
 iv (σ 1) < 0 →
    asnWR [vO, σ 1, σ 2, vE, vF, vZ, vO, σ 1, σ 2, vE, vF, vZ]
def asnWR_L1 : Prop := ∀ σ : Nat → Value,
 σ 0 = vO →
 tI (σ 1) →
 0 ≤ iv (σ 1) →
 iv (σ 1) ≤ 0 →
 tF (σ 2) →
 σ 3 = vE →
 σ 4 = vF →
 σ 5 = vZ →
 σ 6 = .int .u64 (iv (σ 6)) →
 σ 7 = .int .u64 (iv (σ 7)) →
 fv (σ 2) = FloatKind.f64.nearest (iv (σ 1)) →
 extRel .fbits [σ 2] (σ 6) →
 ibin .andNot IntKind.u64 (iv (σ 6)) (9223372036854775808) = some (.int IntKind.u64 (iv (σ 7))) →
 iv (σ 1) = 0 →
 0 ≤ iv (σ 1) →
    asnWR [vO, σ 1, σ 2, vE, vF, vZ, vO, vZ, (vG 0), vE, vF, vZ]
def asnWR_L2 : Prop := ∀ σ : Nat → Value,
 σ 0 = vO →
 tI (σ 1) →
 1 ≤ iv (σ 1) →
 iv (σ 1) ≤ 1023 →
 tF (σ 2) →
 σ 3 = vE →
 σ 4 = vF →
 σ 5 = vZ →
 σ 6 = .int .u64 (iv (σ 6)) →
 σ 7 = .int .u64 (iv (σ 7)) →
 fv (σ 2) = FloatKind.f64.nearest (iv (σ 1)) →
 extRel .fbits [σ 2] (σ 6) →
 ibin .andNot IntKind.u64 (iv (σ 6)) (9223372036854775808) = some (.int IntKind.u64 (iv (σ 7))) →
 iv (σ 1) ≠ 0 →
 0 ≤ iv (σ 1) →
    asnWR [vO, σ 1, σ 2, vE, vF, vZ, vO, σ 1, σ 2, vE, vF, vZ]
theorem asnWR_tie : asnWC.goals (cfgB asnWC.base []) [] 2000 = (asnWR_L0 ∧ asnWR_L1 ∧ asnWR_L2 ∧ True) := by kernel_rfl
theorem asn_ok : asnWC.ok Tryz.prog All := by
  refine by_tie asnWR_tie (by kernel_rfl) all_nil ⟨?_, ?_, ?_, trivial⟩
  · intro σ; intros; exact rfl
  · intro σ; intros
    have e := ‹iv (σ 1) = 0›
    show iv (.int .i64 0) = iv (σ 1)
    rw [e]; rfl
  · intro σ; intros; exact rfl
end W
namespace T
def chkWR_L0 : Prop := ∀ σ : Nat → Value,
 σ 0 = vO →
 σ 1 = (vG 4611686018427387904) →
 σ 2 = vE →
 σ 3 = vF →
 σ 4 = vZ →
    chkWR [vO, (vG 4611686018427387904), vE, vF, vZ, vZ]
theorem chkWR_tie : chk2C.goals (cfgB chk2C.base []) [] 2000 = (chkWR_L0 ∧ True) := by kernel_rfl
theorem chk_ok : chk2C.ok Tryz.prog All := by_tie chkWR_tie (by kernel_rfl) all_nil ⟨by intro σ; intros; exact trivial, trivial⟩
def asn2R_L0 : Prop := ∀ σ : Nat → Value,
 σ 0 = vO →
 σ 1 = (vG 4611686018427387904) →
 σ 2 = vE →
 σ 3 = vF →
 σ 4 = vZ →
    asn2R [vO, (vG 4611686018427387904), vE, vF, vZ, vO, (vG 4611686018427387904), vE, vF, vZ]
theorem asn2R_tie : asn2C.goals (cfgB asn2C.base []) [] 2000 = (asn2R_L0 ∧ True) := by kernel_rfl
theorem asn_ok : asn2C.ok Tryz.prog All := by_tie asn2R_tie (by kernel_rfl) all_nil ⟨by intro σ; intros; exact trivial, trivial⟩
end T
end Go.Proofs.Arx
