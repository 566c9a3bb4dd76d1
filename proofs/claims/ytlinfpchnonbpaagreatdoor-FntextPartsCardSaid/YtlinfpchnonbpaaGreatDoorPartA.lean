/- Contracts of the law of cut texts. -/
import Derived.Test.YtlinfpchnonbpaaGreatDoorPartW
import Derived.Test.YtlinfpchnonbpaaGreatDoorPartLay
import Derived.Test.YtlinfpchnonbpaaGreatDoorFMod2
import Derived.Test.YtlinfpchnonbpaaGreatDoorEvCon2
import Derived.Test.YtlinfpchnonbpaaGreatDoorEvBool
namespace Go.Proofs.Bs
open Go.Ev Go.RowKit Ieee
set_option maxRecDepth 1000000
open Go.Shelf
abbrev vZ : Value := .int .i64 0
abbrev vO : Value := .int .i64 1
abbrev vI (n : Int) : Value := .int .i64 n
abbrev vT : Value := .bool true
abbrev vF : Value := .bool false
abbrev vE : Value := .string ⟨#[]⟩
abbrev vU : Value := .tuple #[]
abbrev vG (n : Nat) : Value := .float .f64 n
abbrev vS (b : Array UInt8) : Value := .string ⟨b⟩
abbrev tI (x : Value) : Prop := x = .int .i64 (iv x)
abbrev tF (x : Value) : Prop := x = .float .f64 (fv x)
abbrev fl : Sh := .sc (.float .f64)
abbrev nE (n : Int) : Nat := FloatKind.f64.nearest n
abbrev tU (x : Value) : Prop := x = .int .u64 (iv x)
abbrev tS (x : Value) : Prop := x = .string (tv x)
abbrev tB (x : Value) : Prop := x = .bool (bv x)
abbrev aN (x y : Value) : Prop := ibin .andNot IntKind.u64 (iv x) 9223372036854775808 = some (.int IntKind.u64 (iv y))
def int0 (n : Int) : Sh := .sc (.is (.int .i64 n))
def yes (b : Bool) : Sh := .sc (.is (.bool b))
def noT : Sh := .sc (.is (.string ⟨#[]⟩))
def str (b : Array UInt8) : Sh := .sc (.is (.string ⟨b⟩))
def f0 : Sh := .sc (.is (.float .f64 0))
def numV (x : Sh) : Sh := .agg [int0 1, x, noT, yes false, int0 0]
def textV (x : Sh) : Sh := .agg [int0 2, f0, x, yes false, int0 0]
def argC (x : Sh) : List Sh := [yes false, yes false, int0 1, int0 1, .row 49 7 1 [int0 0, int0 0, int0 1, x, noT, yes false, int0 0]]
def argT (x : Sh) : List Sh := [yes false, yes false, int0 1, int0 1, .row 49 7 1 [int0 0, int0 0, int0 2, f0, x, yes false, int0 0]]
def X : List (Nat × ExtOp) := [(128, .fbits), (144, .ffrom), (142, .floor), (213, .trunc)]
def isTrue (l : List Value) : Prop := l = [.bool true]
def Nice (l : List UInt8) : Prop := Lib.validD l = true ∧ l.length ≤ 1000
def cntRPre (l : List Value) : Prop := (tl (gv l 0)).length ≤ 100000
def cntR (l : List Value) : Prop := iv (gv l 1) = (cntL (tl (gv l 0)) : Nat)
def cutRPre (l : List Value) : Prop := (tl (gv l 0)).length ≤ 100000
def cutR (l : List Value) : Prop := tl (gv l 3) = ((tl (gv l 0)).drop (cutL (iv (gv l 1)).toNat (tl (gv l 0)))).take (cutL (iv (gv l 2)).toNat ((tl (gv l 0)).drop (cutL (iv (gv l 1)).toNat (tl (gv l 0)))))
def leftRPre (l : List Value) : Prop := Nice (tl (gv l 11))
def leftR (l : List Value) : Prop := tl (gv l 29) = (tl (gv l 11)).take (cutL (iv (gv l 22)).toNat (tl (gv l 11)))
def midRPre (l : List Value) : Prop := Nice (tl (gv l 11)) ∧ iv (gv l 35) = ((tl (gv l 11)).length : Nat)
def midR (l : List Value) : Prop := tl (gv l 42) = (tl (gv l 11)).drop (cutL (iv (gv l 22) - 1).toNat (tl (gv l 11)))
def catRPre (l : List Value) : Prop := Nice (tl (gv l 11)) ∧ Nice (tl (gv l 23))
def catR (l : List Value) : Prop := tl (gv l 28) = tl (gv l 11) ++ tl (gv l 23)
def lenRPre (l : List Value) : Prop := Nice (tl (gv l 11))
def lenR (l : List Value) : Prop := fv (gv l 15) = nr (cntL (tl (gv l 11)))
def lawRPre (l : List Value) : Prop := (tl (gv l 0)).length ≤ 9223372036854775807
def lawR (l : List Value) : Prop := gv l 2 = .bool true
def liveC : Con := { f := 8, ins := [], out := .sc .bool, id := "isTrue", rel := isTrue }
def rg (a b : Int) : Sort_ := .intIn .i64 (some a) (some b)
def cntC : Con := { f := 93, ins := [.sc .str], out := .sc (rg 0 100000), id := "cntR", pre := cntRPre, asks := true, rel := cntR }
def cutC : Con := { f := 59, ins := [.sc .str, .sc (rg 0 100000), .sc (rg 0 100000)], out := .sc .str, id := "cutR", pre := cutRPre, asks := true, rel := cutR }
def leftC : Con := { f := 5, ins := [str #[76, 69, 70, 84], .row 31 5 2 (argT (.sc .str) ++ argC (.whole true 0 255))], out := .tup [textV (.sc .str), yes true], id := "leftR", pre := leftRPre, asks := true, rel := leftR }
def midC : Con := { f := 5, ins := [str #[77, 73, 68], .row 31 5 3 (argT (.sc .str) ++ argC (.whole true 1 256) ++ argC (.whole true 0 1000))], out := .tup [textV (.sc .str), yes true], id := "midR", pre := midRPre, asks := true, rel := midR }
def catC : Con := { f := 5, ins := [str #[67, 79, 78, 67, 65, 84, 69, 78, 65, 84, 69], .row 31 5 2 (argT (.sc .str) ++ argT (.sc .str))], out := .tup [textV (.sc .str), yes true], id := "catR", pre := catRPre, asks := true, rel := catR }
def lenC : Con := { f := 5, ins := [str #[76, 69, 78], .row 31 5 1 (argT (.sc .str))], out := .tup [numV fl, yes true], id := "lenR", pre := lenRPre, asks := true, rel := lenR }
def lawC : Con := { f := 4, ins := [.sc .str, .sc (.intIn .u8 (some 0) (some 255))], out := .sc .bool, id := "lawR", pre := lawRPre, asks := true, rel := lawR }
def cons : List Con := [vldC, cntC, cutC]
theorem all_nil {P : Con → Prop} : ∀ c ∈ ([] : List Con), P c := fun _ h => by cases h
theorem all_cons {P : Con → Prop} {c : Con} {l : List Con} (h : P c) (t : ∀ c ∈ l, P c) : ∀ x ∈ c :: l, P x := fun x hx => by
  cases hx with
  | head => exact h
  | tail _ hx => exact t x hx
theorem extAt_get {f : Nat} {x : ExtOp} (h : (Tryz.prog.funcs[f]?).isSome = true) (hn : ((Tryz.prog.funcs[f]?.get h).name == "runtime.NumGoroutine") = false) (hb : (Tryz.prog.funcs[f]?.get h).body.isNone = true)
    (hn : Extern.findNext (Tryz.prog.funcs[f]?.get h) = none) (he : Extern.find (Tryz.prog.funcs[f]?.get h) = some x.sem) : ExtAt Tryz.prog f x :=
  extAt_of (Option.some_get h).symm ‹_› hb hn he
theorem exts_ok : ∀ p ∈ X, ExtAt Tryz.prog p.1 p.2 := by
  intro p hp
  simp only [X, List.mem_cons, List.not_mem_nil, or_false] at hp
  rcases hp with rfl | rfl | rfl | rfl <;> exact extAt_get (by kernel_rfl) (by kernel_rfl) (by kernel_rfl) (by kernel_rfl) (by kernel_rfl)
noncomputable def cfgB (base : Nat) (cons : List Con) : Cfg := cfgG Tryz.prog base (entersOf Tryz.prog) X cons
theorem by_tie {c : Con} {cons : List Con} {K : List (Nat × Nat × LSpec)} {n : Nat} {Q : Prop} (tie : c.goals (cfgB c.base cons) K n = Q) (he : entersOf Tryz.prog c.f = true) (hc : ∀ c ∈ cons, c.ok Tryz.prog Tabs) (h : Q) : c.ok Tryz.prog Tabs := by
  have h' : c.goals (cfgB c.base cons) K n := by rw [tie]; exact h
  exact con_ok (C := cfgB c.base cons) (K := K) (n := n) mixed he (fun w hw => cfgG_ok (fun _ h => h) exts_ok tabs_keep hc w hw) h'
theorem fin0 : Fin64 0 ∧ sv 0 = 0 := by
  have h := whole_sv (WholeF.near (n := 0) (by decide) (by decide))
  rw [near_zero] at h
  exact ⟨h.1, by rw [h.2.1]; simp⟩
theorem ford_self {x : Nat} (h : Fin64 x) : ford x x = some .eq := by rw [ford_fin h h]; exact congrArg some (Int.compare_eq_eq.2 rfl)
theorem ford_zero {x : Nat} (h : Fin64 x) : ford x 0 = some .eq ↔ sv x = 0 := by
  rw [ford_fin h fin0.1, fin0.2, Option.some.injEq]; exact Int.compare_eq_eq
theorem ford_big {x : Nat} (h : Fin64 x) : ford (x % 2 ^ 63) 9218868437227405311 ≠ some .gt := by
  have := (order_max (abs_fin h).1).1
  exact this
theorem abs_x {x a b r : Value} (hx : x = .float .f64 (fv x)) (h1 : extRel .fbits [x] a) (h2 : ibin .andNot IntKind.u64 (iv a) 9223372036854775808 = some (.int IntKind.u64 (iv b))) (hb : b = .int .u64 (iv b)) (h3 : extRel .ffrom [b] r) : fv r = fv x % 2 ^ 63 := abs_of hx h1 h2 hb h3
theorem tl_len (v : Value) : (tl v).length = (tv v).size := by unfold tl; rw [Array.length_toList]; rfl
theorem app_data (a b : ByteArray) : (a ++ b).data.toList = a.data.toList ++ b.data.toList := by
  rw [ByteArray.data_append, Array.toList_append]
theorem tl_app {a b c : Value} (h : tv c = tv a ++ tv b) : tl c = tl a ++ tl b := by unfold tl; rw [h, app_data]
theorem tl_eq {a b : Value} (h : ((tv a).toList == (tv b).toList) = true) : tl a = tl b := by
  simp only [beq_iff_eq, ByteArray.toList_eq] at h; exact h
theorem tl_ne {a b : Value} (h : ((tv a).toList == (tv b).toList) = false) : tl a ≠ tl b := fun e => by
  have : ((tv a).toList == (tv b).toList) = true := by simp only [beq_iff_eq, ByteArray.toList_eq]; exact e
  rw [this] at h; cases h
theorem tl_some {a : Value} (h : ∀ x ∈ ([⟨#[]⟩] : List ByteArray), (tv a).toList ≠ x.toList) : tl a ≠ [] := fun e => by
  refine h ⟨#[]⟩ List.mem_cons_self ?_
  rw [ByteArray.toList_eq, ByteArray.toList_eq]
  exact e
theorem tl_none {a : Value} (h : a = .string ⟨#[]⟩) : tl a = [] := by rw [h]; rfl
theorem tl_tv {a b : Value} (h : tv a = tv b) : tl a = tl b := by unfold tl; rw [h]
theorem big_no {a b : Value} {x y : Nat} (hx : (tl a).length = x) (hy : (tl b).length = y) (h1 : x + y < 4611686018427387904) (h : IntKind.i64.max < (((tv a).size + (tv b).size : Nat) : Int)) : False := by
  rw [tl_len] at hx hy
  have : IntKind.i64.max = 9223372036854775807 := rfl
  omega
theorem vld_yes {a b : Value} (h : vldR [a, b]) (hv : Lib.validD (tl a) = true) (hb : bv b = false) : False := by
  have h : bv b = Lib.validD (tl a) := h
  rw [hb, hv] at h
  cases h
theorem vld_pre {a : Value} (h : (tl a).length ≤ 9223372036854775807) : vldRPre [a] := by
  show (tv a).size ≤ _
  rw [← tl_len]; exact h
theorem true_of {v : Value} (h : isTrue [v]) : bv v = true := by cases h; rfl
theorem cnt_ok : cntC.ok Tryz.prog Tabs := con1 (by kernel_rfl) fun w x hw hx hp => by
  obtain ⟨s, rfl⟩ := hx
  have hp : s.data.toList.length ≤ 100000 := hp
  have hp2 := hp
  rw [Array.length_toList] at hp2
  have hp2 : s.size ≤ 100000 := hp2
  have e : cntL s.data.toList = Lib.runeCount s := Lib.runeCountL_eq s
  have le := cntL_le s.data.toList
  refine (Any.utf8_RuneCountInString Tryz.laysCount s w (by omega)).mono fun e' w' ⟨h1, pos, h2⟩ => ⟨_, h1, ⟨_, rfl, fun a ha => by cases ha; omega, fun a ha => by cases ha; omega⟩, ?_, ?_⟩
  · show ((Lib.runeCount s : Nat) : Int) = (cntL s.data.toList : Nat)
    rw [e]
  · rw [h2]; exact (Below.refl _ w).alloc (Nat.le_refl _) _
theorem con3 {P : Program} {cond : World → Prop} {f : Nat} {s s2 s3 t : Sort_} {id : String} {pre rel : List Value → Prop} (he : entersOf P f = true)
    (h : ∀ (w : World) (x y z : Value), cond w → s.fits x → s2.fits y → s3.fits z → pre [x, y, z] → Calls P f #[x, y, z] w fun e w' => ∃ v, e = .returned v ∧ t.fits v ∧ rel [x, y, z, v] ∧ Below w.heap.size w w') :
    ({ f := f, ins := [.sc s, .sc s2, .sc s3], out := .sc t, id := id, pre := pre, asks := true, rel := rel } : Con).ok P cond := by
  refine ⟨he, fun w vs fl hw hin hp => ?_⟩
  simp only [relL, Sh.rel] at hin
  obtain ⟨v, vs', f1, f2, rfl, rfl, ⟨hf, rfl⟩, v2, vs2, f3, f4, rfl, rfl, ⟨hf2, rfl⟩, v3, vs3, f5, f6, rfl, rfl, ⟨hf3, rfl⟩, rfl, rfl⟩ := hin
  exact (h w v v2 v3 hw hf hf2 hf3 (hp rfl)).mono fun e w' ⟨u, h1, h2, h3, h4⟩ => .inl ⟨u, [u], h1, by simp only [Sh.rel]; exact ⟨h2, trivial⟩, h3, h4⟩
theorem ext_take (s : ByteArray) (a b : Nat) : (s.extract a b).data.toList = (s.data.toList.drop a).take (b - a) := by
  simp only [ByteArray.data_extract, Array.toList_extract, List.extract_eq_take_drop]
theorem cut_ok : cutC.ok Tryz.prog Tabs := con3 (by kernel_rfl) fun w x y z hw hx hy hz hp => by
  obtain ⟨s, rfl⟩ := hx
  obtain ⟨f, rfl, f1, f2⟩ := hy
  obtain ⟨n, rfl, n1, n2⟩ := hz
  have f1 := f1 0 rfl; have f2 := f2 100000 rfl; have n1 := n1 0 rfl; have n2 := n2 100000 rfl
  have hp : s.data.toList.length ≤ 100000 := hp
  have hp2 := hp
  rw [Array.length_toList] at hp2
  have hp2 : s.size ≤ 100000 := hp2
  obtain ⟨F, rfl⟩ : ∃ F : Nat, f = F := ⟨f.toNat, by omega⟩
  obtain ⟨N, rfl⟩ : ∃ N : Nat, n = N := ⟨n.toNat, by omega⟩
  refine (cut_walk s F N (by omega) (by omega) (by omega) w).mono fun e w' ⟨h1, h2⟩ => ⟨_, h1, ⟨_, rfl⟩, ?_, h2⟩
  have l1 := cutL_le F s.data.toList
  have l2 := cutL_le N (s.data.toList.drop (cutL F s.data.toList))
  rw [List.length_drop, Array.length_toList] at l2
  rw [Array.length_toList] at l1
  have l1 : cutL F s.data.toList ≤ s.size := l1
  have l2 : cutL N (s.data.toList.drop (cutL F s.data.toList)) ≤ s.size - cutL F s.data.toList := l2
  show (s.extract _ _).data.toList = _
  rw [ext_take, Nat.add_sub_cancel_left]
  rfl
theorem cons_ok : ∀ c ∈ cons, c.ok Tryz.prog Tabs := all_cons vld_ok (all_cons cnt_ok (all_cons cut_ok all_nil))
theorem far_nr_add {a b r : Nat} (h : a + b ≤ 2 ^ 53) (hr : farV .add .f64 (nr a) (nr b) = some (some r) ∨ farV .add .f64 (nr a) (nr b) = some none ∧ Nan64 r) : r = nr (a + b) := by
  obtain ⟨v, e1, e2, e3⟩ := add_whole (WholeF.near (n := a) (by omega) (by omega)) (WholeF.near (n := b) (by omega) (by omega)) (by omega) (by omega)
  have := far_is hr (congrArg some e1)
  rw [this, e3 rfl rfl]
  rfl
theorem nice_cut {l : List UInt8} (h : Nice l) (n : Nat) : Nice (l.take (cutL n l)) ∧ Nice (l.drop (cutL n l)) ∧ cntL l = cntL (l.take (cutL n l)) + cntL (l.drop (cutL n l)) := by
  obtain ⟨v1, v2⟩ := valid_cut n l h.1
  have le := h.2
  exact ⟨⟨v1, by rw [List.length_take]; omega⟩, ⟨v2, by rw [List.length_drop]; omega⟩, cnt_cut n l h.1⟩
theorem parts {n : Nat} {l m : List Value} {s a b : Value} (hs : Nice (tl s)) (hl : leftR l) (e1 : gv l 11 = s) (e2 : gv l 29 = a) (e3 : (iv (gv l 22)).toNat = n)
    (hm : midR m) (e4 : gv m 11 = s) (e5 : gv m 42 = b) (e6 : (iv (gv m 22) - 1).toNat = n) : Nice (tl a) ∧ Nice (tl b) ∧ tl a ++ tl b = tl s ∧ cntL (tl s) = cntL (tl a) + cntL (tl b) := by
  unfold leftR at hl
  unfold midR at hm
  rw [e1, e2, e3] at hl
  rw [e4, e5, e6] at hm
  obtain ⟨c1, c2, c3⟩ := nice_cut hs n
  rw [hl, hm]
  exact ⟨c1, c2, List.take_append_drop _ _, c3⟩
theorem con_boolP {P : Program} {cond : World → Prop} {c : Con} {w : World} {vs fl : List Value} (hc : c.ok P cond) (hw : cond w) (ho : c.out = .sc .bool) (hp : c.pre (hide undef (maskL c.ins) fl)) (hnf : c.fails = none) (hin : relL (inR w) c.ins vs fl) (ht : ∀ b, c.rel (hide undef (maskL c.ins) fl ++ [.bool b]) → b = true) :
    Calls P c.f vs.toArray w fun e w' => e = .returned (.bool true) ∧ Below w.heap.size w w' := by
  refine (hc.2 w vs fl hw hin (fun _ => hp)).mono fun e w' hend => ?_
  rcases hend with ⟨v, fo, he, hout, hrel, hb⟩ | ⟨t, sh, _, _, hf, _⟩
  case inr => rw [hnf] at hf; cases hf
  rw [ho] at hout
  simp only [Sh.rel] at hout
  obtain ⟨⟨b, rfl⟩, rfl⟩ := hout
  have := ht b (by rw [ho] at hrel; exact hrel)
  subst this
  exact ⟨he, hb⟩
end Go.Proofs.Bs
