/- Contracts of the law of bases of texts. -/
import Derived.Test.YtlinfpchnonbpaaGreatDoorFxbD
import Derived.Test.YtlinfpchnonbpaaGreatDoorFMod2
import Derived.Test.YtlinfpchnonbpaaGreatDoorEvCon2
import Derived.Test.YtlinfpchnonbpaaGreatDoorEvBool
namespace Go.Proofs.Bs
open Go.Ev Go.RowKit Ieee
set_option maxRecDepth 1000000
abbrev vZ : Value := .int .i64 0
abbrev vO : Value := .int .i64 1
abbrev vI (n : Int) : Value := .int .i64 n
abbrev vT : Value := .bool true
abbrev vF : Value := .bool false
abbrev vE : Value := .string ⟨#[]⟩
abbrev vU : Value := .tuple #[]
abbrev vG (n : Nat) : Value := .float .f64 n
abbrev vS (b : Array UInt8) : Value := .string ⟨b⟩
abbrev tI (x : Value) : Prop := x = .int .i64 (iv x)
abbrev tF (x : Value) : Prop := x = .float .f64 (fv x)
abbrev fl : Sh := .sc (.float .f64)
abbrev sgC : ByteArray := (⟨#[48, 49, 50, 51, 52, 53, 54, 55, 56, 57, 65, 66, 67, 68, 69, 70]⟩ : ByteArray)
abbrev nE (n : Int) : Nat := FloatKind.f64.nearest n
abbrev tU (x : Value) : Prop := x = .int .u64 (iv x)
abbrev tS (x : Value) : Prop := x = .string (tv x)
abbrev tB (x : Value) : Prop := x = .bool (bv x)
abbrev aN (x y : Value) : Prop := ibin .andNot IntKind.u64 (iv x) 9223372036854775808 = some (.int IntKind.u64 (iv y))
abbrev i64S : Sh := .sc (.int .i64)
def int0 (n : Int) : Sh := .sc (.is (.int .i64 n))
def yes (b : Bool) : Sh := .sc (.is (.bool b))
def noT : Sh := .sc (.is (.string ⟨#[]⟩))
def str (b : Array UInt8) : Sh := .sc (.is (.string ⟨b⟩))
def f0 : Sh := .sc (.is (.float .f64 0))
def numV (x : Sh) : Sh := .agg [int0 1, x, noT, yes false, int0 0]
def textV (x : Sh) : Sh := .agg [int0 2, f0, x, yes false, int0 0]
def argC (x : Sh) : List Sh := [yes false, yes false, int0 1, int0 1, .row 49 7 1 [int0 0, int0 0, int0 1, x, noT, yes false, int0 0]]
def argT (x : Sh) : List Sh := [yes false, yes false, int0 1, int0 1, .row 49 7 1 [int0 0, int0 0, int0 2, f0, x, yes false, int0 0]]
def X : List (Nat × ExtOp) := [(128, .fbits), (144, .ffrom), (142, .floor), (213, .trunc)]
structure Par where
  nm : Array UInt8
  nm2 : Array UInt8
  bn : Array UInt8
  kn : Nat
  b : Int
  K : Int
  M : Int
  H : Int
  G : Int
  F : Int
  E : Int
  D : Int
def pB : Par := ⟨#[68, 69, 67, 50, 66, 73, 78], #[66, 73, 78, 50, 68, 69, 67], #[66, 73, 78], 2, 1, 2, 1, 511, 512, 1024, 1023, 513⟩
def pO : Par := ⟨#[68, 69, 67, 50, 79, 67, 84], #[79, 67, 84, 50, 68, 69, 67], #[79, 67, 84], 8, 3, 8, 7, 536870911, 536870912, 1073741824, 1073741823, 536870913⟩
def pX : Par := ⟨#[68, 69, 67, 50, 72, 69, 88], #[72, 69, 88, 50, 68, 69, 67], #[72, 69, 88], 16, 4, 16, 15, 549755813887, 549755813888, 1099511627776, 1099511627775, 549755813889⟩
structure Good (p : Par) : Prop where
  k2 : 2 ≤ p.kn
  k16 : p.kn ≤ 16
  hK : p.K = (p.kn : Nat)
  hb : ∃ c : Nat, p.b = (c : Nat) ∧ c ≤ 4 ∧ p.kn = 2 ^ c ∧ p.M = ((2 ^ c - 1 : Nat) : Int)
  hF : p.F = ((p.kn ^ 10 : Nat) : Int)
  hH : 2 * (p.H + 1) = p.F
  h0 : 0 ≤ p.H
  hL : p.F ≤ 1099511627776
  h9 : ((p.kn ^ 9 : Nat) : Int) ≤ p.H + 1
  hG : p.G = p.H + 1
  hE : p.E = 2 * p.H + 1
  hD : p.D = p.H + 2
theorem goodB : Good pB := ⟨by decide, by decide, by decide, ⟨1, rfl, by decide, rfl, rfl⟩, by decide, by decide, by decide, by decide, by decide, by decide, by decide, by decide⟩
theorem goodO : Good pO := ⟨by decide, by decide, by decide, ⟨3, rfl, by decide, rfl, rfl⟩, by decide, by decide, by decide, by decide, by decide, by decide, by decide, by decide⟩
theorem goodX : Good pX := ⟨by decide, by decide, by decide, ⟨4, rfl, by decide, rfl, rfl⟩, by decide, by decide, by decide, by decide, by decide, by decide, by decide, by decide⟩
def enc (p : Par) (x : Int) : Nat := (if x < 0 then x + p.F else x).toNat
def isTrue (l : List Value) : Prop := l = [.bool true]
def ixR (_ : List Value) : Prop := True
def toR (p : Par) (l : List Value) : Prop := tl (gv l 17) = dg p.kn (enc p (iv (gv l 10)))
def ToI (p : Par) (N x : Int) (s : List UInt8) : Prop := ∃ n y : Nat, N = (n : Nat) ∧ x = (y : Nat) ∧ n < 1099511627776 ∧ Writes p.kn n y s
def toI (p : Par) (l : List Value) : Prop := if iv (gv l 0) = 0 then ToI p 0 0 (tl (gv l 1)) else ToI p (iv (gv l 0)) (iv (gv l 1)) (tl (gv l 2))
def ToM (x : Int) (s : List UInt8) : Nat := x.toNat + (if s = [] then 1 else 0)
def toIM (_ : Par) (l : List Value) : Nat := if iv (gv l 0) = 0 then ToM 0 (tl (gv l 1)) else ToM (iv (gv l 1)) (tl (gv l 2))
def toI_ (p : Par) : LSpec := ⟨"toI", toI p, toIM p, some [7], []⟩
def bkRPre (p : Par) (l : List Value) : Prop := ∃ x : Int, -p.H ≤ x ∧ x ≤ p.H ∧ tl (gv l 11) = dg p.kn (enc p x)
def bkR (p : Par) (l : List Value) : Prop := ∀ x : Int, -p.H ≤ x → x ≤ p.H → tl (gv l 11) = dg p.kn (enc p x) → fv (gv l 15) = FloatKind.f64.nearest x
def dgtRPre (p : Par) (l : List Value) : Prop := ∃ x : Int, -p.H ≤ x ∧ x ≤ p.H ∧ tl (gv l 1) = dg p.kn (enc p x)
def dgtR (p : Par) (l : List Value) : Prop := ∀ x : Int, -p.H ≤ x → x ≤ p.H → tl (gv l 1) = dg p.kn (enc p x) → iv (gv l 2) = x
def lawR (l : List Value) : Prop := gv l 1 = .bool true
def liveC : Con := { f := 8, ins := [], out := .sc .bool, id := "isTrue", rel := isTrue }
def ixC (s : Array UInt8) (n : Int) : Con := { f := 130, ins := [str s, .sc (.is (.int .u8 50))], out := int0 n, id := "ixR", rel := ixR }
def dgtC (p : Par) : Con := { f := 44, ins := [str p.bn, .sc .str], out := i64S, id := "dgtR", pre := dgtRPre p, asks := true, rel := dgtR p }
def toC (p : Par) : Con := { f := 5, ins := [str p.nm, .row 31 5 1 (argC (.whole true (-p.H) p.H))], out := .tup [textV (.sc .str), yes true], id := "toR", rel := toR p }
def bkC (p : Par) : Con := { f := 5, ins := [str p.nm2, .row 31 5 1 (argT (.sc .str))], out := .tup [numV fl, yes true], id := "bkR", pre := bkRPre p, asks := true, rel := bkR p }
def lawC : Con := { f := 3, ins := [.sc (.intIn .i64 (some (-9223372036854775808)) (some 9223372036854775807))], out := .sc .bool, id := "lawR", rel := lawR }
def cons (p : Par) : List Con := [vldC, rptC, ixC p.nm 3, ixC p.nm2 3, dgtC p]
theorem all_nil {P : Con → Prop} : ∀ c ∈ ([] : List Con), P c := fun _ h => by cases h
theorem all_cons {P : Con → Prop} {c : Con} {l : List Con} (h : P c) (t : ∀ c ∈ l, P c) : ∀ x ∈ c :: l, P x := fun x hx => by
  cases hx with
  | head => exact h
  | tail _ hx => exact t x hx
theorem extAt_get {f : Nat} {x : ExtOp} (h : (Tryz.prog.funcs[f]?).isSome = true) (hn : ((Tryz.prog.funcs[f]?.get h).name == "runtime.NumGoroutine") = false) (hb : (Tryz.prog.funcs[f]?.get h).body.isNone = true)
    (hn : Extern.findNext (Tryz.prog.funcs[f]?.get h) = none) (he : Extern.find (Tryz.prog.funcs[f]?.get h) = some x.sem) : ExtAt Tryz.prog f x :=
  extAt_of (Option.some_get h).symm ‹_› hb hn he
theorem exts_ok : ∀ p ∈ X, ExtAt Tryz.prog p.1 p.2 := by
  intro p hp
  simp only [X, List.mem_cons, List.not_mem_nil, or_false] at hp
  rcases hp with rfl | rfl | rfl | rfl <;> exact extAt_get (by kernel_rfl) (by kernel_rfl) (by kernel_rfl) (by kernel_rfl) (by kernel_rfl)
noncomputable def cfgB (base : Nat) (cons : List Con) : Cfg := cfgG Tryz.prog base (entersOf Tryz.prog) X cons
theorem by_tie {c : Con} {cons : List Con} {K : List (Nat × Nat × LSpec)} {n : Nat} {Q : Prop} (tie : c.goals (cfgB c.base cons) K n = Q) (he : entersOf Tryz.prog c.f = true) (hc : ∀ c ∈ cons, c.ok Tryz.prog Tabs) (h : Q) : c.ok Tryz.prog Tabs := by
  have h' : c.goals (cfgB c.base cons) K n := by rw [tie]; exact h
  exact con_ok (C := cfgB c.base cons) (K := K) (n := n) mixed he (fun w hw => cfgG_ok (fun _ h => h) exts_ok tabs_keep hc w hw) h'
theorem fin0 : Fin64 0 ∧ sv 0 = 0 := by
  have h := whole_sv (WholeF.near (n := 0) (by decide) (by decide))
  rw [near_zero] at h
  exact ⟨h.1, by rw [h.2.1]; simp⟩
theorem ford_self {x : Nat} (h : Fin64 x) : ford x x = some .eq := by rw [ford_fin h h]; exact congrArg some (Int.compare_eq_eq.2 rfl)
theorem ford_zero {x : Nat} (h : Fin64 x) : ford x 0 = some .eq ↔ sv x = 0 := by
  rw [ford_fin h fin0.1, fin0.2, Option.some.injEq]; exact Int.compare_eq_eq
theorem ford_big {x : Nat} (h : Fin64 x) : ford (x % 2 ^ 63) 9218868437227405311 ≠ some .gt := by
  have := (order_max (abs_fin h).1).1
  exact this
theorem abs_x {x a b r : Value} (hx : x = .float .f64 (fv x)) (h1 : extRel .fbits [x] a) (h2 : ibin .andNot IntKind.u64 (iv a) 9223372036854775808 = some (.int IntKind.u64 (iv b))) (hb : b = .int .u64 (iv b)) (h3 : extRel .ffrom [b] r) : fv r = fv x % 2 ^ 63 := abs_of hx h1 h2 hb h3
theorem tl_len (v : Value) : (tl v).length = (tv v).size := by unfold tl; rw [Array.length_toList]; rfl
theorem app_data (a b : ByteArray) : (a ++ b).data.toList = a.data.toList ++ b.data.toList := by
  rw [ByteArray.data_append, Array.toList_append]
theorem tl_app {a b c : Value} (h : tv c = tv a ++ tv b) : tl c = tl a ++ tl b := by unfold tl; rw [h, app_data]
theorem tl_eq {a b : Value} (h : ((tv a).toList == (tv b).toList) = true) : tl a = tl b := by
  simp only [beq_iff_eq, ByteArray.toList_eq] at h; exact h
theorem tl_ne {a b : Value} (h : ((tv a).toList == (tv b).toList) = false) : tl a ≠ tl b := fun e => by
  have : ((tv a).toList == (tv b).toList) = true := by simp only [beq_iff_eq, ByteArray.toList_eq]; exact e
  rw [this] at h; cases h
theorem tl_some {a : Value} (h : ∀ x ∈ ([⟨#[]⟩] : List ByteArray), (tv a).toList ≠ x.toList) : tl a ≠ [] := fun e => by
  refine h ⟨#[]⟩ List.mem_cons_self ?_
  rw [ByteArray.toList_eq, ByteArray.toList_eq]
  exact e
theorem tl_none {a : Value} (h : a = .string ⟨#[]⟩) : tl a = [] := by rw [h]; rfl
theorem tl_tv {a b : Value} (h : tv a = tv b) : tl a = tl b := by unfold tl; rw [h]
theorem big_no {a b : Value} {x y : Nat} (hx : (tl a).length = x) (hy : (tl b).length = y) (h1 : x + y < 4611686018427387904) (h : IntKind.i64.max < (((tv a).size + (tv b).size : Nat) : Int)) : False := by
  rw [tl_len] at hx hy
  have : IntKind.i64.max = 9223372036854775807 := rfl
  omega
theorem rep_no {c r : Value} {w : Array UInt8} {n : Nat} (h : rptR [.string ⟨w⟩, c, r]) (hc : (iv c).toNat = n) : tl r = Lib.repeatL w.toList n := by
  have h : tl r = Lib.repeatL w.toList (iv c).toNat := h
  rw [h, hc]
theorem rep_pre {c : Value} {w : Array UInt8} (h0 : 0 ≤ iv c) (h1 : iv c ≤ 3) (hw : w.toList.length ≤ 2) : rptRPre [.string ⟨w⟩, c] := by
  refine ⟨h0, by show iv c ≤ _; omega, ?_⟩
  show w.toList.length * (iv c).toNat ≤ _
  have : w.toList.length * (iv c).toNat ≤ 2 * 3 := Nat.mul_le_mul hw (by omega)
  omega
theorem rep_len {c r : Value} {w : Array UInt8} (h : rptR [.string ⟨w⟩, c, r]) (h1 : iv c ≤ 3) (hw : w.toList.length ≤ 2) : (tl r).length ≤ 6 := by
  rw [rep_no h rfl, Lib.repeatL_length]
  have : (iv c).toNat * w.toList.length ≤ 3 * 2 := Nat.mul_le_mul (by omega) hw
  omega
theorem div_nat {a c : Int} {n o : Nat} (ha : a = n) (h : c = a.tdiv o) : c.toNat = n / o := by subst ha; subst h; rfl
theorem mod_nat {a c : Int} {n o : Nat} (ha : a = n) (h : c = a.tmod o) : c = ((n % o : Nat) : Int) := by subst ha; subst h; rfl
theorem wrap_neg {c m : Int} {n : Nat} (hm : m = (n : Nat)) (hn : n < 9007199254740994) (h : c = IntKind.i64.wrap (0 - m)) : c = -(n : Int) := by
  rw [h, hm, i64_small (by omega) (by omega)]; omega
theorem sig_text : ∀ d : Fin 16, Utf8.encode (((sgA d.val).toNat : Nat) : Int) = ⟨#[sgA d.val]⟩ := by decide +kernel
theorem sig_byte : ∀ d : Fin 16, (sgC[d.val]?.map fun b => (b.toNat : Int)) = some ((sgA d.val).toNat : Int) := by decide +kernel
theorem sig_of {i c : Int} {t : Value} {d : Nat} (hd : d < 16) (hi : i = (d : Nat)) (h : sgC[i.toNat]?.map (fun b => (b.toNat : Int)) = some c) (ht : tv t = Utf8.encode c) : tl t = [sgA d] := by
  subst hi
  rw [Int.toNat_natCast, sig_byte ⟨d, hd⟩] at h
  have h := Option.some.inj h
  unfold tl
  rw [ht, ← h]
  have := sig_text ⟨d, hd⟩
  simp only at this
  rw [this]
theorem Writes.nil {k n x : Nat} {s : List UInt8} (h : Writes k n x s) (hs : s = []) : x = n := by
  rcases h.2 with ⟨_, h1⟩ | ⟨h1, _⟩
  · exact h1
  · exact absurd hs h1
theorem dg_lenK {k : Nat} (hk : 2 ≤ k) : ∀ (L n : Nat), 0 < L → n < k ^ L → (dg k n).length ≤ L
  | 0, _, h, _ => absurd h (by omega)
  | L + 1, n, _, hn => by
    rcases Nat.lt_or_ge n k with h | h
    · rw [dg_lt h]; simp
    · have h3 : n / k < k ^ L := by
        rw [Nat.pow_succ] at hn
        exact Nat.div_lt_of_lt_mul (by rw [Nat.mul_comm]; exact hn)
      have hL : 0 < L := by
        rcases Nat.eq_zero_or_pos L with rfl | h'
        · rw [Nat.pow_zero] at h3
          have : 0 < n / k := Nat.div_pos h (by omega)
          omega
        · exact h'
      rw [dg_ge hk h, List.length_append, List.length_singleton]
      have := dg_lenK hk L (n / k) hL h3
      omega
theorem dg_lenG {k : Nat} (hk : 2 ≤ k) : ∀ (L n : Nat), k ^ L ≤ n → L < (dg k n).length
  | 0, n, _ => by have := dg_ne hk n; cases h : dg k n with
    | nil => exact absurd h this
    | cons a l => simp
  | L + 1, n, hn => by
    have hkn : k ≤ n := Nat.le_trans (by rw [Nat.pow_succ]; exact Nat.le_mul_of_pos_left k (Nat.pow_pos (by omega))) hn
    have h3 : k ^ L ≤ n / k := by
      rw [Nat.le_div_iff_mul_le (by omega), ← Nat.pow_succ]; exact hn
    rw [dg_ge hk hkn, List.length_append, List.length_singleton]
    have := dg_lenG hk L (n / k) h3
    omega
theorem enc_lt {p : Par} (hp : Good p) {x : Int} (h1 : -p.H ≤ x) (h2 : x ≤ p.H) : ((enc p x : Nat) : Int) < p.F ∧ enc p x < p.kn ^ 10 ∧ enc p x < 1099511627776 := by
  have a := hp.hF; have b := hp.hH; have c := hp.hL; have d := hp.h0
  unfold enc
  split <;> omega
theorem enc_inj {p : Par} (hp : Good p) {x y : Int} (h1 : -p.H ≤ x) (h2 : x ≤ p.H) (h3 : -p.H ≤ y) (h4 : y ≤ p.H) (h : enc p x = enc p y) : x = y := by
  have b := hp.hH; have d := hp.h0
  unfold enc at h
  split at h <;> split at h <;> omega
theorem dg_enc {p : Par} (hp : Good p) {x y : Int} (h1 : -p.H ≤ x) (h2 : x ≤ p.H) (h3 : -p.H ≤ y) (h4 : y ≤ p.H) (h : dg p.kn (enc p x) = dg p.kn (enc p y)) : x = y := by
  have k36 : p.kn ≤ 36 := Nat.le_trans hp.k16 (by decide)
  refine enc_inj hp h1 h2 h3 h4 ?_
  rw [← dv_dg hp.k2 k36 (enc p x), ← dv_dg hp.k2 k36 (enc p y), h]
theorem toI_ne {p : Par} {l : List Value} {N x : Int} {s : List UInt8} (h : toI p l) (e1 : iv (gv l 0) = N) (e2 : iv (gv l 1) = x) (e3 : tl (gv l 2) = s) (h0 : N ≠ 0) : ToI p N x s := by
  unfold toI at h
  rw [if_neg (by rw [e1]; exact h0), e1, e2, e3] at h
  exact h
theorem toI_eq {p : Par} {l : List Value} {s : List UInt8} (h : toI p l) (e1 : iv (gv l 0) = 0) (e3 : tl (gv l 1) = s) : ToI p 0 0 s := by
  unfold toI at h
  rw [if_pos e1, e3] at h
  exact h
theorem toI_mk {p : Par} {l : List Value} {N x : Int} {s : List UInt8} (e1 : iv (gv l 0) = N) (e2 : iv (gv l 1) = x) (e3 : tl (gv l 2) = s) (h0 : N ≠ 0) (h : ToI p N x s) : toI p l := by
  unfold toI
  rw [if_neg (by rw [e1]; exact h0), e1, e2, e3]
  exact h
theorem toI_mk0 {p : Par} {l : List Value} {s : List UInt8} (e1 : iv (gv l 0) = 0) (e3 : tl (gv l 1) = s) (h : ToI p 0 0 s) : toI p l := by
  unfold toI
  rw [if_pos e1, e3]
  exact h
theorem toIM_ne {p : Par} {l : List Value} {N x : Int} {s : List UInt8} (e1 : iv (gv l 0) = N) (e2 : iv (gv l 1) = x) (e3 : tl (gv l 2) = s) (h0 : N ≠ 0) : toIM p l = ToM x s := by
  unfold toIM
  rw [if_neg (by rw [e1]; exact h0), e2, e3]
theorem toIM_eq {p : Par} {l : List Value} {s : List UInt8} (e1 : iv (gv l 0) = 0) (e3 : tl (gv l 1) = s) : toIM p l = ToM 0 s := by
  unfold toIM
  rw [if_pos e1, e3]
theorem to_step {p : Par} (hp : Good p) {n y : Nat} {s : List UInt8} (hn : n < 1099511627776) (h : Writes p.kn n y s) (hc : y ≠ 0 ∨ s = []) :
    ToI p (n : Nat) ((y / p.kn : Nat) : Int) (sgA (y % p.kn) :: s) ∧ ToM ((y / p.kn : Nat) : Int) (sgA (y % p.kn) :: s) < ToM (y : Nat) s := by
  refine ⟨⟨n, y / p.kn, rfl, rfl, hn, h.step hp.k2 hc⟩, ?_⟩
  have hd : y / p.kn ≤ y / 2 := Nat.div_le_div_left hp.k2 (by omega)
  unfold ToM
  rw [if_neg (by simp : ¬ (sgA (y % p.kn) :: s = []))]
  rcases hc with hc | hc
  · split <;> omega
  · rw [if_pos hc]; omega
theorem and_mask {a r M : Int} {c n : Nat} (hc : c ≤ 4) (hM : M = ((2 ^ c - 1 : Nat) : Int)) (ha : a = (n : Nat)) (h1 : n < 4611686018427387904) (h : ibin .and .i64 a M = some (.int .i64 r)) : r = ((n % 2 ^ c : Nat) : Int) := by
  subst ha
  simp only [ibin, Option.some.injEq, Value.int.injEq, true_and] at h
  rw [← h, hM]
  have hp : 2 ^ c ≤ 2 ^ 4 := Nat.pow_le_pow_right (by decide) hc
  have hq : 0 < 2 ^ c := Nat.two_pow_pos c
  have e : (BitVec.ofInt 64 (n : Int) &&& BitVec.ofInt 64 ((2 ^ c - 1 : Nat) : Int)).toNat = n % 2 ^ c := by
    rw [BitVec.toNat_and, ofInt_nat (by omega), ofInt_nat (by omega), Nat.and_two_pow_sub_one_eq_mod]
  show IntKind.i64.wrap ((BitVec.ofInt 64 (n : Int) &&& BitVec.ofInt 64 ((2 ^ c - 1 : Nat) : Int)).toNat : Int) = _
  have hm : n % 2 ^ c < 2 ^ c := Nat.mod_lt _ hq
  rw [e, i64_small (by omega) (by omega)]
theorem shr_nat {a r b : Int} {c n : Nat} (hc : c ≤ 4) (hb : b = (c : Nat)) (ha : a = (n : Nat)) (h : r = a.fdiv (2 ^ min b.toNat IntKind.i64.bits)) : r = ((n / 2 ^ c : Nat) : Int) := by
  subst hb; subst ha
  rw [h, Int.toNat_natCast]
  have e : min c IntKind.i64.bits = c := Nat.min_eq_left (Nat.le_trans hc (by decide))
  rw [e, Int.fdiv_eq_ediv_of_nonneg _ (Int.le_of_lt (Int.pow_pos (by decide)))]
  rfl
theorem low_dg {K N : Nat} (k2 : 2 ≤ K) (k36 : K ≤ 36) : ∀ c ∈ dg K N, 48 ≤ c.toNat ∧ c.toNat ≤ 90 := fun c hc => by
  obtain ⟨d, hd, rfl⟩ := dg_mem k2 N c hc
  exact sgA_byte ⟨d, by omega⟩
theorem true_of {v : Value} (h : isTrue [v]) : bv v = true := by cases h; rfl
theorem vld_low {a b : Value} (h : vldR [a, b]) (hl : ∀ c ∈ tl a, c.toNat < 128) (hb : bv b = false) : False := by
  have h : bv b = Lib.validD (tl a) := h
  rw [hb] at h
  unfold tl at h hl
  rw [valid_low hl] at h
  cases h
theorem vld_pre {a : Value} (h : (tl a).length ≤ 100) : vldRPre [a] := by
  show (tv a).size ≤ _
  rw [← tl_len]; omega
theorem near_fin {x : Int} (h1 : -1099511627776 ≤ x) (h2 : x ≤ 1099511627776) : Fin64 (FloatKind.f64.nearest x) := (nearest_int (by omega) (by omega)).1
theorem near_nought {x : Int} (h1 : -1099511627776 ≤ x) (h2 : x ≤ 1099511627776) (h : ford (FloatKind.f64.nearest x) 0 = some .eq) : x = 0 := by
  obtain ⟨f, s⟩ := nearest_int (n := x) (by omega) (by omega)
  have := (ford_zero f).1 h
  rw [s] at this
  have kp := KK_pos
  rcases Int.mul_eq_zero.1 this with h | h
  · exact h
  · omega
theorem ixB_ok {s : Array UInt8} (h : Lib.indexByte s.toList 50 = 3) : (ixC s 3).ok Tryz.prog Tabs := by
  refine ⟨by show entersOf Tryz.prog 130 = true; kernel_rfl, fun w vs fl hw hin _ => ?_⟩
  simp only [ixC, relL, Sh.rel, str, int0] at hin
  obtain ⟨v, vs', f1, f2, rfl, rfl, ⟨hf, rfl⟩, v2, vs2, f3, f4, rfl, rfl, ⟨hf2, rfl⟩, rfl, rfl⟩ := hin
  have hf : v = .string ⟨s⟩ := hf
  have hf2 : v2 = .int .u8 50 := hf2
  subst hf; subst hf2
  refine (Any.stringslite_IndexByte { Tryz.laysIndex with } ⟨s⟩ 50 w).mono fun e w' ⟨h1, h2⟩ => .inl ⟨.int .i64 3, [.int .i64 3], ?_, ?_, trivial, h2 ▸ Below.refl _ _⟩
  · rw [h1]
    have : Lib.indexByte (⟨s⟩ : ByteArray).data.toList ((50 : Int).toNat.toUInt8) = 3 := h
    rw [this]
  · simp only [ixC, int0, Sh.rel]; exact ⟨rfl, trivial⟩
theorem dgt_ok {p : Par} (hp : Good p) (he : entersOf Tryz.prog 44 = true)
    (hd : ∀ (t : ByteArray) (n : Nat), t.data.toList = dg p.kn n → t.size ≤ 10 → n < p.kn ^ 10 → ∀ w : World, Calls Tryz.prog 44 #[.string ⟨p.bn⟩, .string t] w fun e w' => e = .returned (.int .i64 (if p.G ≤ (n : Int) ∧ t.size = 10 then (n : Int) - p.F else n)) ∧ Below w.heap.size w w') : (dgtC p).ok Tryz.prog Tabs := by
  refine ⟨he, fun w vs fl hw hin hpre => ?_⟩
  simp only [dgtC, relL, Sh.rel, str] at hin
  obtain ⟨v, vs', f1, f2, rfl, rfl, ⟨hf, rfl⟩, v2, vs2, f3, f4, rfl, rfl, ⟨hf2, rfl⟩, rfl, rfl⟩ := hin
  have hf : v = .string ⟨p.bn⟩ := hf
  obtain ⟨t, rfl⟩ := hf2
  subst hf
  obtain ⟨x, x1, x2, ht⟩ := hpre rfl
  have ht : t.data.toList = dg p.kn (enc p x) := ht
  obtain ⟨l1, l2, _⟩ := enc_lt hp x1 x2
  have lt := dg_lenK hp.k2 10 (enc p x) (by decide) l2
  have sz : t.size = (dg p.kn (enc p x)).length := by rw [← ht, Array.length_toList]; rfl
  refine (hd t (enc p x) ht (by omega) l2 w).mono fun e w' ⟨h1, h2⟩ => .inl ⟨_, [_], h1, by simp only [dgtC, i64S, Sh.rel]; exact ⟨⟨_, rfl⟩, rfl⟩, ?_, h2⟩
  intro y y1 y2 ty
  have ty : t.data.toList = dg p.kn (enc p y) := ty
  have e := dg_enc hp y1 y2 x1 x2 (ty.symm.trans ht)
  subst e
  show (if p.G ≤ ((enc p y : Nat) : Int) ∧ t.size = 10 then ((enc p y : Nat) : Int) - p.F else (enc p y : Nat)) = y
  have a := hp.hF; have b := hp.hH; have c := hp.h0; have g := hp.hG; have h9 := hp.h9
  by_cases hy : y < 0
  · have en : ((enc p y : Nat) : Int) = y + p.F := by unfold enc; rw [if_pos hy]; omega
    have l9 := dg_lenG hp.k2 9 (enc p y) (by omega)
    rw [if_pos ⟨by omega, by omega⟩]; omega
  · have en : ((enc p y : Nat) : Int) = y := by unfold enc; rw [if_neg hy]; omega
    rw [if_neg (by omega)]; exact en
end Go.Proofs.Bs
