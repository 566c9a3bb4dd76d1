/- Contracts of the law of bases. -/
import Derived.Test.YtgfoocnnidhepaaGreatDoorBasH
import Derived.Test.YtgfoocnnidhepaaGreatDoorFMod2
import Derived.Test.YtgfoocnnidhepaaGreatDoorEvCon2
import Derived.Test.YtgfoocnnidhepaaGreatDoorEvBool
namespace Go.Proofs.Bs
open Go.Ev Go.RowKit Ieee
set_option maxRecDepth 1000000
abbrev vZ : Value := .int .i64 0
abbrev vO : Value := .int .i64 1
abbrev vI (n : Int) : Value := .int .i64 n
abbrev vT : Value := .bool true
abbrev vF : Value := .bool false
abbrev vE : Value := .string ⟨#[]⟩
abbrev vU : Value := .tuple #[]
abbrev vG (n : Nat) : Value := .float .f64 n
abbrev vS (b : Array UInt8) : Value := .string ⟨b⟩
abbrev tI (x : Value) : Prop := x = .int .i64 (iv x)
abbrev tF (x : Value) : Prop := x = .float .f64 (fv x)
abbrev fl : Sh := .sc (.float .f64)
abbrev sgB : ByteArray := (⟨#[48, 49, 50, 51, 52, 53, 54, 55, 56, 57, 65, 66, 67, 68, 69, 70, 71, 72, 73, 74, 75, 76, 77, 78, 79, 80, 81, 82, 83, 84, 85, 86, 87, 88, 89, 90]⟩ : ByteArray)
abbrev nE (n : Int) : Nat := FloatKind.f64.nearest n
abbrev tU (x : Value) : Prop := x = .int .u64 (iv x)
abbrev tS (x : Value) : Prop := x = .string (tv x)
abbrev tB (x : Value) : Prop := x = .bool (bv x)
abbrev aN (x y : Value) : Prop := ibin .andNot IntKind.u64 (iv x) 9223372036854775808 = some (.int IntKind.u64 (iv y))
abbrev i64S : Sh := .sc (.int .i64)
def rg (a b : Int) : Sh := .sc (.intIn .i64 (some a) (some b))
def int0 (n : Int) : Sh := .sc (.is (.int .i64 n))
def yes (b : Bool) : Sh := .sc (.is (.bool b))
def noT : Sh := .sc (.is (.string ⟨#[]⟩))
def str (b : Array UInt8) : Sh := .sc (.is (.string ⟨b⟩))
def f0 : Sh := .sc (.is (.float .f64 0))
def numV (x : Sh) : Sh := .agg [int0 1, x, noT, yes false, int0 0]
def textV (x : Sh) : Sh := .agg [int0 2, f0, x, yes false, int0 0]
def argC (x : Sh) : List Sh := [yes false, yes false, int0 1, int0 1, .row 54 7 1 [int0 0, int0 0, int0 1, x, noT, yes false, int0 0]]
def argT (x : Sh) : List Sh := [yes false, yes false, int0 1, int0 1, .row 54 7 1 [int0 0, int0 0, int0 2, f0, x, yes false, int0 0]]
def X : List (Nat × ExtOp) := [(14, .fbits), (13, .ffrom), (76, .floor), (98, .ceil), (124, .trunc), (117, .sqrt)]
def isTrue (l : List Value) : Prop := l = [.bool true]
def baseR (l : List Value) : Prop := tl (gv l 30) = dg (iv (gv l 23)).toNat (iv (gv l 10)).toNat
def BaseI (kf nf : Nat) (x3 : Int) (s : List UInt8) : Prop := ∃ K N x : Nat, 2 ≤ K ∧ K ≤ 36 ∧ N < 9007199254740992 ∧ kf = nr K ∧ nf = nr N ∧ (N ≠ 0 → x3 = (x : Nat)) ∧ (N = 0 → x = 0) ∧ Writes K N x s
def BaseM (nf : Nat) (x3 : Int) (s : List UInt8) : Nat := (if nf = 0 then 0 else x3.toNat) + (if s = [] then 1 else 0)
def baseI (l : List Value) : Prop := BaseI (fv (gv l 1)) (fv (gv l 0)) (iv (gv l 3)) (tl (gv l 2))
def baseIM (l : List Value) : Nat := BaseM (fv (gv l 0)) (iv (gv l 3)) (tl (gv l 2))
def baseI_ : LSpec := ⟨"baseI", baseI, baseIM, some [3, 4], []⟩
def deciRPre (l : List Value) : Prop := ∃ N : Nat, N < 9007199254740992 ∧ tl (gv l 11) = dg (iv (gv l 22)).toNat N
def deciR (l : List Value) : Prop := ∀ N : Nat, N < 9007199254740992 → tl (gv l 11) = dg (iv (gv l 22)).toNat N → fv (gv l 28) = nr N
def DeciI (kf nf : Nat) (i : Int) (t : List UInt8) : Prop := ∃ K N j : Nat, 2 ≤ K ∧ K ≤ 36 ∧ N < 9007199254740992 ∧ kf = nr K ∧ t = dg K N ∧ i = (j : Nat) ∧ j ≤ t.length ∧ nf = nr (dv K (t.take j))
def deciI (l : List Value) : Prop := DeciI (fv (gv l 1)) (fv (gv l 2)) (iv (gv l 5)) (tl (gv l 0))
def deciIM (l : List Value) : Nat := (tl (gv l 0)).length - (iv (gv l 5)).toNat
def deciI_ : LSpec := ⟨"deciI", deciI, deciIM, some [3, 4], []⟩
def rmnR (l : List Value) : Prop := tl (gv l 1) = roman (iv (gv l 0)).toNat
def romR (l : List Value) : Prop := tl (gv l 17) = roman (iv (gv l 10)).toNat
def araRPre (l : List Value) : Prop := ∃ m : Nat, m < 4000 ∧ tl (gv l 11) = roman m
def araR (l : List Value) : Prop := ∀ m : Nat, m < 4000 → tl (gv l 11) = roman m → fv (gv l 15) = nr m
def AraI (i : Int) (t : List UInt8) : Prop := ∃ m j : Nat, m < 4000 ∧ t = roman m ∧ i = (j : Nat) ∧ j ≤ m
def araI (l : List Value) : Prop := AraI (iv (gv l 2)) (tl (gv l 0))
def araIM (l : List Value) : Nat := 4000 - (iv (gv l 2)).toNat
def araI_ : LSpec := ⟨"araI", araI, araIM, some [0], [(1, 0, 4000)]⟩
def lawR (l : List Value) : Prop := gv l 3 = .bool true
def liveC : Con := { f := 9, ins := [], out := .sc .bool, id := "isTrue", rel := isTrue }
def baseC : Con := { f := 7, ins := [str #[66, 65, 83, 69], .row 30 5 2 (argC (.whole true 0 9007199254740991) ++ argC (.whole true 2 36))], out := .tup [textV (.sc .str), yes true], id := "baseR", rel := baseR }
def deciC : Con := { f := 7, ins := [str #[68, 69, 67, 73, 77, 65, 76], .row 30 5 2 (argT (.sc .str) ++ argC (.whole true 2 36))], out := .tup [numV fl, yes true], id := "deciR", pre := deciRPre, asks := true, rel := deciR }
def rmnC : Con := { f := 38, ins := [rg 0 3999], out := .sc .str, id := "rmnR", rel := rmnR }
def romC : Con := { f := 7, ins := [str #[82, 79, 77, 65, 78], .row 30 5 1 (argC (.whole true 0 3999))], out := .tup [textV (.sc .str), yes true], id := "romR", rel := romR }
def araC : Con := { f := 7, ins := [str #[65, 82, 65, 66, 73, 67], .row 30 5 1 (argT (.sc .str))], out := .tup [numV fl, yes true], id := "araR", pre := araRPre, asks := true, rel := araR }
def lawC : Con := { f := 6, ins := [.sc (.intIn .u64 (some 0) (some 18446744073709551615)), .sc (.intIn .u8 (some 0) (some 255)), .sc (.intIn .u16 (some 0) (some 65535))], out := .sc .bool, id := "lawR", rel := lawR }
theorem all_nil {P : Con → Prop} : ∀ c ∈ ([] : List Con), P c := fun _ h => by cases h
theorem all_cons {P : Con → Prop} {c : Con} {l : List Con} (h : P c) (t : ∀ c ∈ l, P c) : ∀ x ∈ c :: l, P x := fun x hx => by
  cases hx with
  | head => exact h
  | tail _ hx => exact t x hx
theorem mixed : Tryz.prog.follows .mixedOrders = true := by kernel_rfl
theorem extAt_get {f : Nat} {x : ExtOp} (h : (Tryz.prog.funcs[f]?).isSome = true) (hn : ((Tryz.prog.funcs[f]?.get h).name == "runtime.NumGoroutine") = false) (hb : (Tryz.prog.funcs[f]?.get h).body.isNone = true)
    (hn : Extern.findNext (Tryz.prog.funcs[f]?.get h) = none) (he : Extern.find (Tryz.prog.funcs[f]?.get h) = some x.sem) : ExtAt Tryz.prog f x :=
  extAt_of (Option.some_get h).symm ‹_› hb hn he
theorem exts_ok : ∀ p ∈ X, ExtAt Tryz.prog p.1 p.2 := by
  intro p hp
  simp only [X, List.mem_cons, List.not_mem_nil, or_false] at hp
  rcases hp with rfl | rfl | rfl | rfl | rfl | rfl <;> exact extAt_get (by kernel_rfl) (by kernel_rfl) (by kernel_rfl) (by kernel_rfl) (by kernel_rfl)
noncomputable def cfgB (base : Nat) (cons : List Con) : Cfg := cfgG Tryz.prog base (entersOf Tryz.prog) X cons
theorem by_tie {c : Con} {cons : List Con} {K : List (Nat × Nat × LSpec)} {n : Nat} {Q : Prop} (tie : c.goals (cfgB c.base cons) K n = Q) (he : entersOf Tryz.prog c.f = true) (hc : ∀ c ∈ cons, c.ok Tryz.prog Tabs) (h : Q) : c.ok Tryz.prog Tabs := by
  have h' : c.goals (cfgB c.base cons) K n := by rw [tie]; exact h
  exact con_ok (C := cfgB c.base cons) (K := K) (n := n) mixed he (fun w hw => cfgG_ok (fun _ h => h) exts_ok tabs_keep hc w hw) h'
theorem fin0 : Fin64 0 ∧ sv 0 = 0 := by
  have h := whole_sv (WholeF.near (n := 0) (by decide) (by decide))
  rw [near_zero] at h
  exact ⟨h.1, by rw [h.2.1]; simp⟩
theorem ford_self {x : Nat} (h : Fin64 x) : ford x x = some .eq := by rw [ford_fin h h]; exact congrArg some (Int.compare_eq_eq.2 rfl)
theorem ford_zero {x : Nat} (h : Fin64 x) : ford x 0 = some .eq ↔ sv x = 0 := by
  rw [ford_fin h fin0.1, fin0.2, Option.some.injEq]; exact Int.compare_eq_eq
theorem ford_big {x : Nat} (h : Fin64 x) : ford (x % 2 ^ 63) 9218868437227405311 ≠ some .gt := by
  have := (order_max (abs_fin h).1).1
  exact this
theorem abs_x {x a b r : Value} (hx : x = .float .f64 (fv x)) (h1 : extRel .fbits [x] a) (h2 : ibin .andNot IntKind.u64 (iv a) 9223372036854775808 = some (.int IntKind.u64 (iv b))) (hb : b = .int .u64 (iv b)) (h3 : extRel .ffrom [b] r) : fv r = fv x % 2 ^ 63 := abs_of hx h1 h2 hb h3
theorem tl_len (v : Value) : (tl v).length = (tv v).size := by unfold tl; rw [Array.length_toList]; rfl
theorem app_data (a b : ByteArray) : (a ++ b).data.toList = a.data.toList ++ b.data.toList := by
  rw [ByteArray.data_append, Array.toList_append]
theorem tl_app {a b c : Value} (h : tv c = tv a ++ tv b) : tl c = tl a ++ tl b := by unfold tl; rw [h, app_data]
theorem tl_eq {a b : Value} (h : ((tv a).toList == (tv b).toList) = true) : tl a = tl b := by
  simp only [beq_iff_eq, ByteArray.toList_eq] at h; exact h
theorem tl_ne {a b : Value} (h : ((tv a).toList == (tv b).toList) = false) : tl a ≠ tl b := fun e => by
  have : ((tv a).toList == (tv b).toList) = true := by simp only [beq_iff_eq, ByteArray.toList_eq]; exact e
  rw [this] at h; cases h
theorem tl_some {a : Value} (h : ∀ x ∈ ([⟨#[]⟩] : List ByteArray), (tv a).toList ≠ x.toList) : tl a ≠ [] := fun e => by
  refine h ⟨#[]⟩ List.mem_cons_self ?_
  rw [ByteArray.toList_eq, ByteArray.toList_eq]
  exact e
theorem tl_none {a : Value} (h : a = .string ⟨#[]⟩) : tl a = [] := by rw [h]; rfl
theorem tl_tv {a b : Value} (h : tv a = tv b) : tl a = tl b := by unfold tl; rw [h]
theorem big_no {a b : Value} {x y : Nat} (hx : (tl a).length = x) (hy : (tl b).length = y) (h1 : x + y < 4611686018427387904) (h : IntKind.i64.max < (((tv a).size + (tv b).size : Nat) : Int)) : False := by
  rw [tl_len] at hx hy
  have : IntKind.i64.max = 9223372036854775807 := rfl
  omega
theorem rep_no {c r : Value} {w : Array UInt8} {n : Nat} (h : rptR [.string ⟨w⟩, c, r]) (hc : (iv c).toNat = n) : tl r = Lib.repeatL w.toList n := by
  have h : tl r = Lib.repeatL w.toList (iv c).toNat := h
  rw [h, hc]
theorem rep_pre {c : Value} {w : Array UInt8} (h0 : 0 ≤ iv c) (h1 : iv c ≤ 3) (hw : w.toList.length ≤ 2) : rptRPre [.string ⟨w⟩, c] := by
  refine ⟨h0, by show iv c ≤ _; omega, ?_⟩
  show w.toList.length * (iv c).toNat ≤ _
  have : w.toList.length * (iv c).toNat ≤ 2 * 3 := Nat.mul_le_mul hw (by omega)
  omega
theorem rep_len {c r : Value} {w : Array UInt8} (h : rptR [.string ⟨w⟩, c, r]) (h1 : iv c ≤ 3) (hw : w.toList.length ≤ 2) : (tl r).length ≤ 6 := by
  rw [rep_no h rfl, Lib.repeatL_length]
  have : (iv c).toNat * w.toList.length ≤ 3 * 2 := Nat.mul_le_mul (by omega) hw
  omega
theorem div_nat {a c : Int} {n o : Nat} (ha : a = n) (h : c = a.tdiv o) : c.toNat = n / o := by subst ha; subst h; rfl
theorem mod_nat {a c : Int} {n o : Nat} (ha : a = n) (h : c = a.tmod o) : c = ((n % o : Nat) : Int) := by subst ha; subst h; rfl
theorem wrap_nat {c : Int} {n : Nat} (hn : n < 9007199254740994) (h : c = IntKind.i64.wrap (n : Int)) : c = (n : Nat) := by rw [h]; exact i64_small (by omega) (by omega)
theorem wrap_neg {c m : Int} {n : Nat} (hm : m = (n : Nat)) (hn : n < 9007199254740994) (h : c = IntKind.i64.wrap (0 - m)) : c = -(n : Int) := by
  rw [h, hm, i64_small (by omega) (by omega)]; omega
theorem sig_text : ∀ d : Fin 36, Utf8.encode (((sgA d.val).toNat : Nat) : Int) = ⟨#[sgA d.val]⟩ := by decide +kernel
theorem sig_byte : ∀ d : Fin 36, ((⟨#[48, 49, 50, 51, 52, 53, 54, 55, 56, 57, 65, 66, 67, 68, 69, 70, 71, 72, 73, 74, 75, 76, 77, 78, 79, 80, 81, 82, 83, 84, 85, 86, 87, 88, 89, 90]⟩ : ByteArray)[d.val]?.map fun b => (b.toNat : Int)) = some ((sgA d.val).toNat : Int) := by decide +kernel
theorem sig_of {i c : Int} {t : Value} {d : Nat} (hd : d < 36) (hi : i = (d : Nat)) (h : (⟨#[48, 49, 50, 51, 52, 53, 54, 55, 56, 57, 65, 66, 67, 68, 69, 70, 71, 72, 73, 74, 75, 76, 77, 78, 79, 80, 81, 82, 83, 84, 85, 86, 87, 88, 89, 90]⟩ : ByteArray)[i.toNat]?.map (fun b => (b.toNat : Int)) = some c) (ht : tv t = Utf8.encode c) : tl t = [sgA d] := by
  subst hi
  rw [Int.toNat_natCast, sig_byte ⟨d, hd⟩] at h
  have h := Option.some.inj h
  unfold tl
  rw [ht, ← h]
  have := sig_text ⟨d, hd⟩
  simp only at this
  rw [this]
theorem BaseI.get {kf nf : Nat} {x3 : Int} {s : List UInt8} {K N : Nat} (h : BaseI kf nf x3 s) (hk : kf = nr K) (hn : nf = nr N) (k36 : K ≤ 36) (n53 : N < 9007199254740992) : ∃ x : Nat, (N ≠ 0 → x3 = (x : Nat)) ∧ (N = 0 → x = 0) ∧ Writes K N x s := by
  obtain ⟨K', N', x, h1, h2, h3, h4, h5, h6, h7, h8⟩ := h
  have e1 := nr_inj (show K' ≤ 2 ^ 53 by omega) (show K ≤ 2 ^ 53 by omega) (h4.symm.trans hk)
  have e2 := nr_inj (show N' ≤ 2 ^ 53 by omega) (show N ≤ 2 ^ 53 by omega) (h5.symm.trans hn)
  subst e1; subst e2
  exact ⟨x, h6, h7, h8⟩
theorem nr_of0 {n : Nat} (h : n < 9007199254740992) : nr n = 0 ↔ n = 0 := ⟨fun e => nr_inj (show n ≤ 2 ^ 53 by omega) (by decide) (e.trans nr_zero.symm), fun e => by rw [e]; exact nr_zero⟩
theorem base_step {kf nf : Nat} {x3 y3 : Int} {s : List UInt8} {K N x : Nat} (k2 : 2 ≤ K) (k36 : K ≤ 36) (n53 : N < 9007199254740992) (hk : kf = nr K) (hn : nf = nr N) (h6 : N ≠ 0 → x3 = (x : Nat)) (h7 : N = 0 → x = 0) (h8 : Writes K N x s)
    (hc : x ≠ 0 ∨ s = []) (hy : N ≠ 0 → y3 = ((x / K : Nat) : Int)) : BaseI kf nf y3 (sgA (x % K) :: s) ∧ BaseM nf y3 (sgA (x % K) :: s) < BaseM nf x3 s := by
  refine ⟨⟨K, N, x / K, k2, k36, n53, hk, hn, hy, fun e => by rw [h7 e]; simp, h8.step k2 hc⟩, ?_⟩
  have hd : x / K ≤ x / 2 := Nat.div_le_div_left k2 (by omega)
  unfold BaseM
  rw [if_neg (by simp : ¬ (sgA (x % K) :: s = []))]
  by_cases h0 : N = 0
  · have e : nf = 0 := by rw [hn]; exact (nr_of0 n53).2 h0
    rw [if_pos e, if_pos e]
    have := h7 h0
    rcases hc with hc | hc
    · exact absurd this hc
    · rw [if_pos hc]; omega
  · have e : ¬ nf = 0 := by rw [hn]; exact fun c => h0 ((nr_of0 n53).1 c)
    rw [if_neg e, if_neg e, hy h0, h6 h0]
    rcases hc with hc | hc
    · split <;> omega
    · rw [if_pos hc]; omega
theorem Writes.nil {k n x : Nat} {s : List UInt8} (h : Writes k n x s) (hs : s = []) : x = n := by
  rcases h.2 with ⟨_, h1⟩ | ⟨h1, _⟩
  · exact h1
  · exact absurd hs h1
theorem dg_small {K N : Nat} (k2 : 2 ≤ K) (h : N < 9007199254740992) : (dg K N).length ≤ 53 := dg_len k2 53 N (by decide) h
theorem ext_signs {v : Value} {c : Int} {K : Nat} (hc : c = (K : Nat)) (h : tv v = (⟨#[48, 49, 50, 51, 52, 53, 54, 55, 56, 57, 65, 66, 67, 68, 69, 70, 71, 72, 73, 74, 75, 76, 77, 78, 79, 80, 81, 82, 83, 84, 85, 86, 87, 88, 89, 90]⟩ : ByteArray).extract (0 : Int).toNat c.toNat) : tl v = sgT.take K := by
  subst hc
  unfold tl
  rw [h, Int.toNat_natCast]
  simp only [ByteArray.data_extract, Array.toList_extract, List.extract_eq_take_drop]
  rfl
theorem byte_at {s : ByteArray} {i c : Int} {j : Nat} (hi : i = (j : Nat)) (h : s[i.toNat]?.map (fun b => (b.toNat : Int)) = some c) : ∃ b, s.data.toList[j]? = some b ∧ c = (b.toNat : Int) := by
  subst hi
  rw [Int.toNat_natCast] at h
  obtain ⟨b, hb, rfl⟩ := Option.map_eq_some_iff.1 h
  refine ⟨b, ?_, rfl⟩
  rw [Array.getElem?_toList]
  obtain ⟨h1, h2⟩ := getElem?_eq_some_iff.1 hb
  exact Array.getElem?_eq_some_iff.2 ⟨h1, h2⟩
theorem far_nr_mul {a b r : Nat} (ha : a ≤ 2 ^ 53) (hb : b ≤ 2 ^ 53) (h : a * b ≤ 2 ^ 53) (hr : farV .mul .f64 (nr a) (nr b) = some (some r) ∨ farV .mul .f64 (nr a) (nr b) = some none ∧ Nan64 r) : r = nr (a * b) := by
  have hc : (a : Int) * b = ((a * b : Nat) : Int) := (Int.natCast_mul a b).symm
  have e := mul_exact (a := (a : Int)) (b := (b : Int)) (x := nr a) (y := nr b) rfl rfl (by omega) (by omega) (by omega) (by omega) (by rw [hc]; omega)
  rw [hc] at e
  exact far_is hr (congrArg some e)
theorem far_nr_add {a b r : Nat} (h : a + b ≤ 2 ^ 53) (hr : farV .add .f64 (nr a) (nr b) = some (some r) ∨ farV .add .f64 (nr a) (nr b) = some none ∧ Nan64 r) : r = nr (a + b) := by
  obtain ⟨v, e1, e2, e3⟩ := add_whole (WholeF.near (n := a) (by omega) (by omega)) (WholeF.near (n := b) (by omega) (by omega)) (by omega) (by omega)
  have := far_is hr (congrArg some e1)
  rw [this, e3 rfl rfl]
  rfl
theorem sv54 : Fin64 4850376798678024192 ∧ sv 4850376798678024192 = 18014398509481984 * KK := ⟨by unfold Fin64; decide +kernel, by decide +kernel⟩
theorem nr_54 {n : Nat} (h : n ≤ 2 ^ 53) : ford (nr n) 4850376798678024192 = some .lt := by
  obtain ⟨f, s, _⟩ := nr_sv h
  rw [ford_fin f sv54.1, Option.some.injEq, cmp_lt, s, sv54.2]
  have := KK_pos
  have : (n : Int) * KK ≤ 9007199254740992 * KK := Int.mul_le_mul_of_nonneg_right (by omega) (by omega)
  omega
theorem nr_53 {n : Nat} (h : n < 9007199254740992) : ford (nr n) 4845873199050653696 = some .lt := by
  have e : (4845873199050653696 : Nat) = nr (2 ^ 53) := by decide +kernel
  rw [e]
  exact (nr_lt (show n ≤ 2 ^ 53 by omega) (by decide)).2 (by omega)
theorem DeciI.get {kf nf : Nat} {i : Int} {t : List UInt8} {K : Nat} (h : DeciI kf nf i t) (hk : kf = nr K) (k36 : K ≤ 36) : ∃ j : Nat, i = (j : Nat) ∧ j ≤ t.length ∧ nf = nr (dv K (t.take j)) := by
  obtain ⟨K', N', j, h1, h2, h3, h4, h5, h6, h7, h8⟩ := h
  have e1 := nr_inj (show K' ≤ 2 ^ 53 by omega) (show K ≤ 2 ^ 53 by omega) (h4.symm.trans hk)
  subst e1
  exact ⟨j, h6, h7, h8⟩
theorem base_pre {a b c d : Value} (h1 : 0 ≤ iv a) (h2 : iv a ≤ 9007199254740991) (h3 : 2 ≤ iv c) (h4 : iv c ≤ 36) (e1 : fv d = FloatKind.f64.nearest (iv c)) (e2 : fv b = FloatKind.f64.nearest (iv a)) :
    ∃ K N : Nat, iv c = K ∧ iv a = N ∧ fv d = nr K ∧ fv b = nr N ∧ 2 ≤ K ∧ K ≤ 36 ∧ N < 9007199254740992 := by
  obtain ⟨K, hK⟩ : ∃ K : Nat, iv c = K := ⟨(iv c).toNat, by omega⟩
  obtain ⟨N, hN⟩ : ∃ N : Nat, iv a = N := ⟨(iv a).toNat, by omega⟩
  rw [hK] at e1
  rw [hN] at e2
  exact ⟨K, N, hK, hN, e1, e2, by omega, by omega, by omega⟩
theorem low_dg {K N : Nat} (k2 : 2 ≤ K) (k36 : K ≤ 36) : ∀ c ∈ dg K N, 48 ≤ c.toNat ∧ c.toNat ≤ 90 := fun c hc => by
  obtain ⟨d, hd, rfl⟩ := dg_mem k2 N c hc
  exact sgA_byte ⟨d, by omega⟩
theorem deci_pre {t c d : Value} (h : ∃ N : Nat, N < 9007199254740992 ∧ tl t = dg (iv c).toNat N) (h3 : 2 ≤ iv c) (h4 : iv c ≤ 36) (e1 : fv d = FloatKind.f64.nearest (iv c)) :
    ∃ N K : Nat, N < 9007199254740992 ∧ iv c = K ∧ fv d = nr K ∧ 2 ≤ K ∧ K ≤ 36 ∧ tl t = dg K N ∧ (∀ c ∈ dg K N, 48 ≤ c.toNat ∧ c.toNat ≤ 90) ∧ (dg K N).length ≤ 53 ∧ ∀ c ∈ tl t, c.toNat < 128 := by
  obtain ⟨N, n53, ht⟩ := h
  obtain ⟨K, hK⟩ : ∃ K : Nat, iv c = K := ⟨(iv c).toNat, by omega⟩
  rw [hK] at e1
  rw [hK, Int.toNat_natCast] at ht
  have k2 : 2 ≤ K := by omega
  have k36 : K ≤ 36 := by omega
  have lw := low_dg (N := N) k2 k36
  exact ⟨N, K, n53, hK, e1, k2, k36, ht, lw, dg_small k2 n53, fun c hc => by rw [ht] at hc; have := lw c hc; omega⟩
theorem app_le {a b c : Value} {n : Nat} (h : tv c = tv a ++ tv b) (ha : (tl a).length ≤ n) (hb : (tl b).length ≤ 6) : (tl c).length ≤ n + 6 := by
  rw [tl_app h, List.length_append]; omega
theorem true_of {v : Value} (h : isTrue [v]) : bv v = true := by cases h; rfl
theorem vld_low {a b : Value} (h : vldR [a, b]) (hl : ∀ c ∈ tl a, c.toNat < 128) (hb : bv b = false) : False := by
  have h : bv b = Lib.validD (tl a) := h
  rw [hb] at h
  unfold tl at h hl
  rw [valid_low hl] at h
  cases h
theorem vld_pre {a : Value} (h : (tl a).length ≤ 100) : vldRPre [a] := by
  show (tv a).size ≤ _
  rw [← tl_len]; omega
theorem deci_step {t : List UInt8} {K N j d : Nat} {b : UInt8} (k2 : 2 ≤ K) (k36 : K ≤ 36) (n53 : N < 9007199254740992) (ht : t = dg K N) (hj : t[j]? = some b) (hb : b = sgA d) (hd : d < K) : dv K (t.take j) * K + d = dv K (t.take (j + 1)) ∧ dv K (t.take (j + 1)) < 9007199254740992 := by
  have e := dv_take_succ (k := K) hj
  have ix := sgA_ix ⟨d, by omega⟩
  simp only at ix
  rw [hb, ix] at e
  have m := dv_take (k := K) (by omega) t (j + 1)
  rw [ht, dv_dg k2 k36] at m
  rw [← ht] at m
  exact ⟨e.symm, by omega⟩
theorem find_byte {t : List UInt8} {K N : Nat} {b : UInt8} (k2 : 2 ≤ K) (k36 : K ≤ 36) (ht : t = dg K N) {j : Nat} (hj : t[j]? = some b) {s c r : Value} (hs : tl s = sgT.take K) (hc : iv c = (b.toNat : Int)) (h : ixbR [s, c, r]) : ∃ d, d < K ∧ b = sgA d ∧ iv r = (d : Nat) := by
  obtain ⟨d, hd, rfl⟩ := dg_mem k2 N b (by rw [← ht]; exact List.mem_of_getElem? hj)
  refine ⟨d, hd, rfl, ?_⟩
  have h : iv r = Lib.indexByte (tl s) (iv c).toNat.toUInt8 := h
  have e : (sgA d).toNat.toUInt8 = sgA d := UInt8.ofNat_toNat
  rw [hs, hc, Int.toNat_natCast, e, find_sgA k36 hd] at h
  exact h
end Go.Proofs.Bs
