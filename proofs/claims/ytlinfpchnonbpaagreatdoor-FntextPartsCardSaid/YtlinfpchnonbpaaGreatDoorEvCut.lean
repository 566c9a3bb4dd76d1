/- Finite floats: equal to themselves, no further than the greatest, nothing from themselves. -/
import Derived.WalkKit
import Ieee.Arith
namespace Go.Ev
open Ieee
def Fin64 (b : Nat) : Prop := b % double.signWeight < double.infRung
theorem read_fin {b : Nat} (h : Fin64 b) : ∃ s m i, double.read b = .number s m i ∧ m < 2 ^ 53 ∧ double.leastPlace ≤ i ∧ i ≤ double.leastPlace + 2045 ∧ (b % double.signWeight ≠ 0 → m ≠ 0) := by
  unfold Fin64 at h
  have hb : double.binade = 2 ^ 52 := rfl
  have hi : double.infRung = 2047 * 2 ^ 52 := rfl
  rw [hi] at h
  unfold Format.read
  simp only [hb, hi]
  generalize b % double.signWeight = r at h
  split
  · exact ⟨_, _, _, rfl, by omega, Int.le_refl _, by omega, fun h => h⟩
  · refine ⟨_, _, _, rfl, by omega, by omega, ?_, fun _ => by omega⟩
    have : r / 2 ^ 52 < 2047 := Nat.div_lt_of_lt_mul (by omega)
    omega
theorem order_self {b : Nat} (h : Fin64 b) : double.order b b = some .eq := by
  obtain ⟨s, m, i, e, _⟩ := read_fin h
  unfold Format.order
  rw [e]
  simp only [Datum.order]
  congr 1
  exact Std.ReflCmp.compare_self
theorem sub_self {b : Nat} (h : Fin64 b) : double.sub b b = some 0 := by
  obtain ⟨s, m, i, e, _⟩ := read_fin h
  unfold Format.sub
  rw [e]
  have : Datum.sum (.number s m i) (Datum.opposite (.number s m i)) = some (.number false 0 i) := by
    simp only [Datum.opposite, Datum.sum, Int.min_self, Int.sub_self, Int.toNat_zero, signed]
    cases s <;> simp <;> omega
  rw [this]
  rfl
theorem shl_pow (m k : Nat) : m <<< k = m * 2 ^ k := Nat.shiftLeft_eq m k
theorem order_max {b : Nat} (h : Fin64 b) : double.order b 9218868437227405311 ≠ some .gt ∧ double.order b 18442240474082181119 ≠ some .lt := by
  obtain ⟨s, m, i, e, hm, h1, h2, _⟩ := read_fin h
  have r1 : double.read 9218868437227405311 = .number false 9007199254740991 (double.leastPlace + 2045) := by decide +kernel
  have r2 : double.read 18442240474082181119 = .number true 9007199254740991 (double.leastPlace + 2045) := by decide +kernel
  unfold Format.order
  rw [e, r1, r2]
  simp only [Datum.order]
  have hmin : min i (double.leastPlace + 2045) = i := Int.min_eq_left h2
  rw [hmin]
  have hz : (i - i).toNat = 0 := by omega
  rw [hz]
  generalize (double.leastPlace + 2045 - i).toNat = k
  have hk : 1 ≤ 2 ^ k := Nat.one_le_two_pow
  have hbig : (m : Int) ≤ ((9007199254740991 <<< k : Nat) : Int) := by
    rw [shl_pow]
    have : 9007199254740991 * 1 ≤ 9007199254740991 * 2 ^ k := Nat.mul_le_mul_left _ hk
    omega
  constructor
  · simp only [ne_eq, Option.some.injEq, Int.compare_eq_gt]
    cases s <;> simp only [signed, Nat.shiftLeft_zero, Bool.false_eq_true, if_false, if_true] <;> omega
  · simp only [ne_eq, Option.some.injEq, Int.compare_eq_lt]
    cases s <;> simp only [signed, Nat.shiftLeft_zero, Bool.false_eq_true, if_false, if_true] <;> omega
theorem order_zero {b : Nat} (h : Fin64 b) (hn : b % double.signWeight ≠ 0) : double.order b 0 ≠ some .eq := by
  obtain ⟨s, m, i, e, hm, h1, h2, h3⟩ := read_fin h
  have r0 : double.read 0 = .number false 0 double.leastPlace := by decide +kernel
  unfold Format.order
  rw [e, r0]
  simp only [Datum.order]
  generalize (i - min i double.leastPlace).toNat = k
  have hk : 1 ≤ 2 ^ k := Nat.one_le_two_pow
  have hm0 := h3 hn
  have : 1 ≤ m * 2 ^ k := Nat.mul_pos (by omega) (by omega)
  simp only [ne_eq, Option.some.injEq, Int.compare_eq_eq]
  have hs : ((m <<< k : Nat) : Int) = ((m * 2 ^ k : Nat) : Int) := by rw [shl_pow]
  cases s <;> simp only [signed, Nat.zero_shiftLeft, Bool.false_eq_true, if_false, if_true] <;> omega
def Nan64 (b : Nat) : Prop := double.infRung < b % double.signWeight
theorem read_nan {b : Nat} (h : Nan64 b) : ∃ s t, double.read b = .nan s t := by
  unfold Nan64 at h
  have hb : double.binade = 2 ^ 52 := rfl
  have hi : double.infRung = 2047 * 2 ^ 52 := rfl
  rw [hi] at h
  unfold Format.read
  simp only [hb, hi]
  generalize b % double.signWeight = r at h
  split
  · omega
  · split
    · omega
    · split
      · omega
      · exact ⟨_, _, rfl⟩
theorem order_nan {b : Nat} (h : Nan64 b) (y : Nat) : double.order b y = none ∧ double.order y b = none := by
  obtain ⟨s, t, e⟩ := read_nan h
  unfold Format.order
  rw [e]
  refine ⟨rfl, ?_⟩
  cases double.read y <;> rfl
theorem sub_nan {b : Nat} (h : Nan64 b) (y : Nat) : double.sub b y = none ∧ double.sub y b = none := by
  obtain ⟨s, t, e⟩ := read_nan h
  unfold Format.sub
  rw [e]
  refine ⟨rfl, ?_⟩
  cases double.read y <;> rfl
theorem add_nan {b : Nat} (h : Nan64 b) (y : Nat) : double.add b y = none ∧ double.add y b = none := by
  obtain ⟨s, t, e⟩ := read_nan h
  unfold Format.add
  rw [e]
  refine ⟨rfl, ?_⟩
  cases double.read y <;> rfl
theorem mul_nan {b : Nat} (h : Nan64 b) (y : Nat) : double.mul b y = none ∧ double.mul y b = none := by
  obtain ⟨s, t, e⟩ := read_nan h
  unfold Format.mul
  rw [e]
  refine ⟨rfl, ?_⟩
  cases double.read y <;> rfl
theorem div_nan {b : Nat} (h : Nan64 b) (y : Nat) : double.div b y = none ∧ double.div y b = none := by
  obtain ⟨s, t, e⟩ := read_nan h
  unfold Format.div
  rw [e]
  refine ⟨rfl, ?_⟩
  cases double.read y <;> rfl
end Go.Ev
namespace Go.Ev
open Go.RowKit (Below)
inductive Cap where
  | k (n : Nat)
  | v (i : Nat)
inductive SV where
  | val (v : Value)
  | sym (n : Nat)
  | ptr (id off : Nat)
  | slice (id off len : Nat) (cap : Cap)
  | map (id : Nat)
  | func (fn : Fn) (first captured : List SV)
  | iface (t : TypeId) (v : SV)
  | agg (cells : List SV)
  | tuple (vs : List SV)
structure Env where
  ρ : Nat → Option Nat
  σ : Nat → Option Value
  κ : Nat → Option Nat
def Cap.den (E : Env) : Cap → Option Nat
  | .k n => some n
  | .v i => E.κ i
mutual
def SV.den (E : Env) : SV → Option Value
  | .val v => some v
  | .sym n => E.σ n
  | .ptr id off => match E.ρ id with
    | some b => some (.pointer (some ⟨b, off, none⟩))
    | none => none
  | .slice id off len c => match E.ρ id, c.den E with
    | some b, some n => some (.slice (some ⟨b, off, none⟩) len n)
    | _, _ => none
  | .map id => match E.ρ id with
    | some b => some (.map (some b))
    | none => none
  | .func fn first captured => match SV.denL E first, SV.denL E captured with
    | some f, some c => some (.func fn f.toArray c.toArray)
    | _, _ => none
  | .iface t v => match v.den E with
    | some x => some (.iface t x)
    | none => none
  | .agg cs => match SV.denL E cs with
    | some l => some (.agg l.toArray)
    | none => none
  | .tuple cs => match SV.denL E cs with
    | some l => some (.tuple l.toArray)
    | none => none
def SV.denL (E : Env) : List SV → Option (List Value)
  | [] => some []
  | x :: r => match x.den E, SV.denL E r with
    | some v, some l => some (v :: l)
    | _, _ => none
end
structure Env.le (E F : Env) : Prop where
  ρ : ∀ i b, E.ρ i = some b → F.ρ i = some b
  σ : ∀ i b, E.σ i = some b → F.σ i = some b
  κ : ∀ i b, E.κ i = some b → F.κ i = some b
theorem Env.le_refl (E : Env) : E.le E := ⟨fun _ _ h => h, fun _ _ h => h, fun _ _ h => h⟩
theorem Env.le_trans {E F G : Env} (h : E.le F) (k : F.le G) : E.le G :=
  ⟨fun i b x => k.ρ i b (h.ρ i b x), fun i b x => k.σ i b (h.σ i b x), fun i b x => k.κ i b (h.κ i b x)⟩
theorem Cap.den_mono {E F : Env} (h : E.le F) {c : Cap} {n : Nat} (hc : c.den E = some n) : c.den F = some n := by
  cases c with
  | k m => exact hc
  | v i => exact h.κ i n hc
mutual
theorem SV.den_mono {E F : Env} (h : E.le F) : ∀ (x : SV) (v : Value), x.den E = some v → x.den F = some v
  | .val v, w, e => by simpa only [SV.den] using e
  | .sym n, w, e => by simp only [SV.den] at e ⊢; exact h.σ _ _ e
  | .ptr id off, w, e => by
    simp only [SV.den] at e ⊢
    split at e
    · rename_i b hb; rw [h.ρ _ _ hb]; exact e
    · cases e
  | .slice id off len c, w, e => by
    simp only [SV.den] at e ⊢
    split at e
    · rename_i b n hb hn; rw [h.ρ _ _ hb, Cap.den_mono h hn]; exact e
    · cases e
  | .map id, w, e => by
    simp only [SV.den] at e ⊢
    split at e
    · rename_i b hb; rw [h.ρ _ _ hb]; exact e
    · cases e
  | .func fn f c, w, e => by
    simp only [SV.den] at e ⊢
    split at e
    · rename_i x y hx hy; rw [SV.denL_mono h _ _ hx, SV.denL_mono h _ _ hy]; exact e
    · cases e
  | .iface t v, w, e => by
    simp only [SV.den] at e ⊢
    split at e
    · rename_i x hx; rw [SV.den_mono h _ _ hx]; exact e
    · cases e
  | .agg cs, w, e => by
    simp only [SV.den] at e ⊢
    split at e
    · rename_i x hx; rw [SV.denL_mono h _ _ hx]; exact e
    · cases e
  | .tuple cs, w, e => by
    simp only [SV.den] at e ⊢
    split at e
    · rename_i x hx; rw [SV.denL_mono h _ _ hx]; exact e
    · cases e
theorem SV.denL_mono {E F : Env} (h : E.le F) : ∀ (x : List SV) (v : List Value), SV.denL E x = some v → SV.denL F x = some v
  | [], w, e => by simpa only [SV.denL] using e
  | x :: r, w, e => by
    simp only [SV.denL] at e ⊢
    split at e
    · rename_i a b ha hb; rw [SV.den_mono h _ _ ha, SV.denL_mono h _ _ hb]; exact e
    · cases e
end
theorem denL_cons {E : Env} {x : SV} {r : List SV} {l : List Value} (h : SV.denL E (x :: r) = some l) :
    ∃ v l', x.den E = some v ∧ SV.denL E r = some l' ∧ l = v :: l' := by
  simp only [SV.denL] at h
  split at h
  · rename_i a b ha hb; cases h; exact ⟨a, b, ha, hb, rfl⟩
  · cases h
theorem denL_mk {E : Env} {x : SV} {r : List SV} {v : Value} {l : List Value} (h : x.den E = some v) (k : SV.denL E r = some l) :
    SV.denL E (x :: r) = some (v :: l) := by simp only [SV.denL, h, k]
theorem denL_length {E : Env} : ∀ {xs : List SV} {l : List Value}, SV.denL E xs = some l → l.length = xs.length
  | [], l, h => by simp only [SV.denL, Option.some.injEq] at h; subst h; rfl
  | x :: r, l, h => by obtain ⟨v, l', _, h2, rfl⟩ := denL_cons h; simp [denL_length h2]
theorem denL_get {E : Env} : ∀ {xs : List SV} {l : List Value}, SV.denL E xs = some l → ∀ {i : Nat} {x : SV}, xs[i]? = some x → ∃ v, l[i]? = some v ∧ x.den E = some v
  | [], l, _, i, x, hi => by simp at hi
  | y :: r, l, h, i, x, hi => by
    obtain ⟨v, l', h1, h2, rfl⟩ := denL_cons h
    cases i with
    | zero => simp at hi; subst hi; exact ⟨v, by simp, h1⟩
    | succ i => simp at hi; obtain ⟨u, hu, hd⟩ := denL_get h2 hi; exact ⟨u, by simpa using hu, hd⟩
theorem denL_get' {E : Env} {xs : List SV} {l : List Value} (h : SV.denL E xs = some l) {i : Nat} {v : Value} (hv : l[i]? = some v) : ∃ x, xs[i]? = some x ∧ x.den E = some v := by
  have hi : i < l.length := by
    rcases Nat.lt_or_ge i l.length with h' | h'
    · exact h'
    · simp [List.getElem?_eq_none h'] at hv
  have hx : i < xs.length := by rw [← denL_length h]; exact hi
  obtain ⟨u, hu, hd⟩ := denL_get h (List.getElem?_eq_getElem hx)
  exact ⟨_, List.getElem?_eq_getElem hx, by rw [hd, ← hu, hv]⟩
theorem denL_set {E : Env} : ∀ {xs : List SV} {l : List Value}, SV.denL E xs = some l → ∀ {x : SV} {v : Value}, x.den E = some v → ∀ i, SV.denL E (xs.set i x) = some (l.set i v)
  | [], l, h, x, v, _, i => by simp only [SV.denL, Option.some.injEq] at h; subst h; simp [SV.denL]
  | y :: r, l, h, x, v, hx, i => by
    obtain ⟨u, l', h1, h2, rfl⟩ := denL_cons h
    cases i with
    | zero => simpa using denL_mk hx h2
    | succ i => simpa using denL_mk h1 (denL_set h2 hx i)
theorem denL_append {E : Env} : ∀ {xs ys : List SV} {l m : List Value}, SV.denL E xs = some l → SV.denL E ys = some m → SV.denL E (xs ++ ys) = some (l ++ m)
  | [], ys, l, m, h, k => by simp only [SV.denL, Option.some.injEq] at h; subst h; simpa using k
  | x :: r, ys, l, m, h, k => by
    obtain ⟨u, l', h1, h2, rfl⟩ := denL_cons h
    simpa using denL_mk h1 (denL_append h2 k)
theorem denL_take {E : Env} : ∀ {xs : List SV} {l : List Value} (n : Nat), SV.denL E xs = some l → SV.denL E (xs.take n) = some (l.take n)
  | [], l, n, h => by simp only [SV.denL, Option.some.injEq] at h; subst h; simp [SV.denL]
  | x :: r, l, n, h => by
    obtain ⟨u, l', h1, h2, rfl⟩ := denL_cons h
    cases n with
    | zero => simp [SV.denL]
    | succ n => simpa using denL_mk h1 (denL_take n h2)
theorem denL_drop {E : Env} : ∀ {xs : List SV} {l : List Value} (n : Nat), SV.denL E xs = some l → SV.denL E (xs.drop n) = some (l.drop n)
  | [], l, n, h => by simp only [SV.denL, Option.some.injEq] at h; subst h; simp [SV.denL]
  | x :: r, l, n, h => by
    obtain ⟨u, l', h1, h2, rfl⟩ := denL_cons h
    cases n with
    | zero => simpa using denL_mk h1 h2
    | succ n => simpa using denL_drop n h2
theorem denL_vals {E : Env} : ∀ (l : List Value), SV.denL E (l.map .val) = some l
  | [] => rfl
  | v :: r => by simpa using denL_mk (x := .val v) (by simp only [SV.den]) (denL_vals r)
inductive SObj where
  | row (cells : List SV) (elem : TypeId) (wr : Bool) (ext : Option (Nat × Nat))
  | map (entries : List (SV × SV × Nat)) (clock : Nat)
  | siter (s : ByteArray) (pos : Nat)
  | miter (m : Option Nat) (since : Nat) (seen : List Nat) (stepped : Nat)
  | bag (entries : List (SV × SV × Nat))
inductive Sort_ where
  | bool | int (k : IntKind) | float (k : FloatKind) | str | any
  | is (v : Value)
  | strNot (l : List ByteArray)
  | intIn (k : IntKind) (lo hi : Option Int)
  | nan64
  | cell
def Sort_.fits : Sort_ → Value → Prop
  | .bool, v => ∃ b, v = .bool b
  | .int k, v => ∃ n, v = .int k n
  | .float k, v => ∃ n, v = .float k n
  | .str, v => ∃ s, v = .string s
  | .any, _ => True
  | .is u, v => v = u
  | .strNot l, v => ∃ s, v = .string s ∧ ∀ x ∈ l, s.toList ≠ x.toList
  | .intIn k lo hi, v => ∃ n, v = .int k n ∧ (∀ a, lo = some a → a ≤ n) ∧ ∀ b, hi = some b → n ≤ b
  | .nan64, v => ∃ b, v = .float .f64 b ∧ Nan64 b
  | .cell, v => v.oneCell' = true
def pureRun {α : Type} (P : Program) : Sem α → Option α
  | .pure a => some a
  | .program k => pureRun P (k P)
  | .mark _ k => pureRun P k
  | _ => none
theorem pureRun_run {α : Type} {P : Program} : ∀ {s : Sem α} {a : α}, pureRun P s = some a → ∀ w, s.run P w = .ok a w
  | .pure a, b, h, w => by simp only [pureRun, Option.some.injEq] at h; subst h; rfl
  | .program k, b, h, w => by simp only [pureRun] at h; exact pureRun_run (s := k P) h w
  | .mark _ k, b, h, w => by simp only [pureRun] at h; exact pureRun_run (s := k) h w
  | .load .., b, h, w | .store .., b, h, w | .new .., b, h, w | .shape .., b, h, w | .freeze .., b, h, w | .frozen .., b, h, w | .getObj .., b, h, w | .setObj .., b, h, w
  | .choose .., b, h, w | .sys .., b, h, w | .halt .., b, h, w => by simp [pureRun] at h
inductive ExtOp where
  | fbits | ffrom | floor | ceil | trunc | sqrt
  deriving DecidableEq
inductive SOp where
  | bin (op : BinOp) (t : TypeId)
  | conv (src dst : TypeId)
  | call (f : Nat)
  | int (op : BinOp) (k : IntKind)
  | fcmp (op : BinOp)
  | far (op : BinOp)
  | str (op : BinOp)
  | un (op : UnOp)
  | i2i (k : IntKind)
  | i2f (k : FloatKind)
  | f2i (k : IntKind)
  | boo (op : BinOp)
  | ext (x : ExtOp)
  | strBig
  | slen
  | sidx
  | ssub
  | i2s
  | len (sz : Nat)
  | get (sz off : Nat)
  | addr (sz off : Nat)
  | inb (sz : Nat)
  | catc
  | cat
  | set (sz off : Nat)
  | rep (zs : List Value)
  | intx (op : BinOp) (k : IntKind)
  | i2ix (k : IntKind)
  | whole
  | pred (id : String) (p : List Value → Prop)
  | npred (id : String) (p : List Value → Prop)
  | nback (id : String) (p : List Value → Prop) (m : List Value → Nat) (n : Nat) (srts : List Sort_)
  | nat0 (id : String) (p : List Value → Prop) (srts : List Sort_)
def sopSem : SOp → List Value → Sem Value
  | .bin op t, [x, y] => binOp op t x y
  | .conv src dst, [x] => convert src dst x
  | .call f, vs => do
    match ← callFunc f vs.toArray with
    | .value v => pure v
    | _ => stuck "a value expected"
  | _, _ => stuck "an operation's operands"
def ibin (op : BinOp) (k : IntKind) (a b : Int) : Option Value :=
  match op with
  | .add => some (.int k (k.wrap (a + b)))
  | .sub => some (.int k (k.wrap (a - b)))
  | .mul => some (.int k (k.wrap (a * b)))
  | .quo => if b = 0 then none else some (.int k (k.wrap (a.tdiv b)))
  | .rem => if b = 0 then none else some (.int k (a.tmod b))
  | .and => some (.int k (k.wrap (BitVec.ofInt k.bits a &&& BitVec.ofInt k.bits b).toNat))
  | .or => some (.int k (k.wrap (BitVec.ofInt k.bits a ||| BitVec.ofInt k.bits b).toNat))
  | .xor => some (.int k (k.wrap (BitVec.ofInt k.bits a ^^^ BitVec.ofInt k.bits b).toNat))
  | .andNot => some (.int k (k.wrap (BitVec.ofInt k.bits a &&& ~~~BitVec.ofInt k.bits b).toNat))
  | .eql => some (.bool (a == b))
  | .neq => some (.bool (a != b))
  | .lss => some (.bool (a < b))
  | .leq => some (.bool (a ≤ b))
  | .gtr => some (.bool (a > b))
  | .geq => some (.bool (a ≥ b))
  | _ => none
def ishift (op : BinOp) (k : IntKind) (a b : Int) : Option Value :=
  if b < 0 then none else match op with
  | .shl => some (.int k (k.wrap (a * 2 ^ min b.toNat k.bits)))
  | .shr => some (.int k (a.fdiv (2 ^ min b.toNat k.bits)))
  | _ => none
def intV (op : BinOp) (k : IntKind) (a : Int) (k' : IntKind) (b : Int) : Option Value :=
  match op with
  | .shl | .shr => ishift op k a b
  | _ => if k = k' then ibin op k a b else none
def fcmpV (op : BinOp) (k : FloatKind) (x y : Nat) : Option Value :=
  match op with
  | .eql => some (.bool (k.format.order x y == some .eq))
  | .neq => some (.bool (k.format.order x y != some .eq))
  | .lss => some (.bool (k.format.order x y == some .lt))
  | .leq => some (.bool (k.format.order x y == some .lt || k.format.order x y == some .eq))
  | .gtr => some (.bool (k.format.order x y == some .gt))
  | .geq => some (.bool (k.format.order x y == some .gt || k.format.order x y == some .eq))
  | _ => none
def farV (op : BinOp) (k : FloatKind) (x y : Nat) : Option (Option Nat) :=
  match op with
  | .add => some (k.format.add x y)
  | .sub => some (k.format.sub x y)
  | .mul => some (k.format.mul x y)
  | .quo => some (k.format.div x y)
  | _ => none
def strV (op : BinOp) (x y : ByteArray) : Option Value :=
  match op with
  | .add => if ((x.size + y.size : Nat) : Int) > IntKind.i64.max then none else some (.string (x ++ y))
  | .eql => some (.bool (x.toList == y.toList))
  | .neq => some (.bool (!(x.toList == y.toList)))
  | .lss => some (.bool (Op.bytesLess x.toList y.toList))
  | .leq => some (.bool (Op.bytesLess x.toList y.toList || x.toList == y.toList))
  | .gtr => some (.bool (!(Op.bytesLess x.toList y.toList || x.toList == y.toList)))
  | .geq => some (.bool (!(Op.bytesLess x.toList y.toList)))
  | _ => none
def unV (op : UnOp) (x : Value) : Option Value :=
  match op, x with
  | .neg, .int k n => some (.int k (k.wrap (0 - n)))
  | .neg, .float k b => some (.float k (Op.negFloat k b))
  | .not, .bool b => some (.bool !b)
  | _, _ => none
def intxV (op : BinOp) (a b : Int) : Option Int :=
  match op with
  | .add => some (a + b)
  | .sub => some (a - b)
  | .mul => some (a * b)
  | .quo => if b = 0 then none else some (a.tdiv b)
  | .rem => if b = 0 then none else some (a.tmod b)
  | .shl => if b < 0 then none else some (a * 2 ^ b.toNat)
  | .shr => if b < 0 then none else some (a.fdiv (2 ^ b.toNat))
  | _ => none
def WholeF (n : Int) (f : Nat) : Prop := -(2 ^ 53) ≤ n ∧ n ≤ 2 ^ 53 ∧ (f = FloatKind.f64.nearest n ∨ (n = 0 ∧ f = 2 ^ 63))
def wholeRel : List Value → Value → Prop
  | [.int .i64 n], v => ∃ f, v = .float .f64 f ∧ WholeF n f
  | _, _ => False
def spliceV (cells : Array Value) (k : Nat) (news : List Value) : Array Value := (cells.toList.take k ++ news ++ cells.toList.drop (k + news.length)).toArray
def repV (zs : List Value) (n : Nat) : Array Value := (Array.range (n * zs.length)).map fun i => zs.toArray[i % zs.toArray.size]!
def sopFun : SOp → List Value → Option Value
  | .int op k0, [.int k a, .int k' b] => if k = k0 then intV op k a k' b else none
  | .fcmp op, [.float .f64 x, .float .f64 y] => fcmpV op .f64 x y
  | .str op, [.string x, .string y] => strV op x y
  | .un op, [x] => unV op x
  | .i2i k, [.int _ n] => some (.int k (k.wrap n))
  | .i2f k, [.int _ n] => some (.float k (k.nearest n))
  | .slen, [.string s] => some (.int .i64 s.size)
  | .boo .eql, [.bool a, .bool b] => some (.bool (a == b))
  | .boo .neq, [.bool a, .bool b] => some (.bool (!(a == b)))
  | .strBig, [.string x, .string y] => if ((x.size + y.size : Nat) : Int) > IntKind.i64.max then some (.bool true) else none
  | .sidx, [.string s, .int _ i] => if 0 ≤ i then s[i.toNat]?.map fun b => .int .u8 b.toNat else none
  | .ssub, [.string s, .int _ a, .int _ b] => if 0 ≤ a ∧ a ≤ b ∧ b ≤ s.size then some (.string (s.extract a.toNat b.toNat)) else none
  | .i2s, [.int _ n] => some (.string (Utf8.encode n))
  | .len sz, [.agg cells] => some (.int .i64 ((cells.size / sz : Nat) : Int))
  | .get sz off, [.agg cells, .int _ i] => cells[i.toNat * sz + off]?
  | .addr sz off, [.slice (some a) _ _, .int _ i] => some (.pointer (some (a.add (i.toNat * sz + off))))
  | .inb sz, [.agg cells, .int _ i] => if 0 ≤ i ∧ i.toNat < cells.size / sz then some (.bool true) else none
  | .catc, .agg cells :: news => some (.agg (cells ++ news.toArray))
  | .cat, [.agg a, .agg b] => some (.agg (a ++ b))
  | .set sz off, .agg cells :: .int _ i :: news => some (.agg (spliceV cells (i.toNat * sz + off) news))
  | .rep zs, [.int _ n] => some (.agg (repV zs n.toNat))
  | .intx op k0, [.int k a, .int _ b] => if k = k0 then (intxV op a b).map (.int k) else none
  | .i2ix k, [.int _ n] => some (.int k n)
  | _, _ => none
structure Fact_ where
  op : SOp
  args : List SV
  res : SV
def isInN (i : Nat) : List Nat → Bool
  | [] => false
  | j :: r => bif Nat.beq i j then true else isInN i r
structure LEnt where
  s : Nat
  x : Nat
  e : TypeId
  lay : List Sort_
  own : Bool
inductive Lay where
  | sc (t : Sort_)
  | list (l : List Lay)
structure DEnt where
  s : Nat
  x : Nat
  lay : List Lay
structure St where
  heap : List (Nat × SObj)
  next : Nat
  ncap : Nat
  lows : List (Nat × Nat)
  nsym : Nat
  sorts : List (Nat × Sort_)
  pc : List (Nat × Bool)
  gs : List Nat
  ro : List (Nat × List Value)
  ra : List (Nat × Value)
  facts : List Fact_
  lists : List LEnt := []
  fn : Nat := 0
  bad : Bool := false
  pan : Option SV := none
  ds : List (Nat × List SV) := []
  deeps : List DEnt := []
  exd : List Nat := []
  mrg : List Nat := []
def find {α : Type} (i : Nat) : List (Nat × α) → Option α
  | [] => none
  | (j, x) :: r => bif Nat.beq i j then some x else find i r
def kill {α : Type} (i : Nat) : List (Nat × α) → List (Nat × α)
  | [] => []
  | (j, x) :: r => bif Nat.beq i j then kill i r else (j, x) :: kill i r
def upd {α : Type} (i : Nat) (y : α) : List (Nat × α) → List (Nat × α)
  | [] => []
  | (j, x) :: r => bif Nat.beq i j then (j, y) :: r else (j, x) :: upd i y r
theorem find_cons_self {α : Type} (i : Nat) (x : α) (r : List (Nat × α)) : find i ((i, x) :: r) = some x := by simp [find]
theorem find_cons_ne {α : Type} {i j : Nat} (h : i ≠ j) (x : α) (r : List (Nat × α)) : find i ((j, x) :: r) = find i r := by
  have : Nat.beq i j = false := by rw [← Bool.not_eq_true]; exact fun e => h (Nat.eq_of_beq_eq_true e)
  simp [find, this]
theorem find_kill_self {α : Type} (i : Nat) : ∀ (r : List (Nat × α)), find i (kill i r) = none
  | [] => rfl
  | (j, x) :: r => by
    cases h : Nat.beq i j with
    | true => simp [kill, h, find_kill_self i r]
    | false => simp [kill, h, find, find_kill_self i r]
theorem find_kill_ne {α : Type} {i j : Nat} (hij : i ≠ j) : ∀ (r : List (Nat × α)), find i (kill j r) = find i r
  | [] => rfl
  | (k, x) :: r => by
    cases h : Nat.beq j k with
    | true =>
      have : j = k := Nat.eq_of_beq_eq_true h
      subst this
      simp [kill, find_cons_ne hij, find_kill_ne hij r]
    | false => simp [kill, h, find, find_kill_ne hij r]
theorem find_kill {α : Type} {i j : Nat} {r : List (Nat × α)} {x : α} (h : find i (kill j r) = some x) : i ≠ j ∧ find i r = some x := by
  by_cases e : i = j
  · subst e; rw [find_kill_self] at h; cases h
  · exact ⟨e, by rwa [find_kill_ne e] at h⟩
theorem find_upd_ne {α : Type} {i j : Nat} (hij : i ≠ j) (y : α) : ∀ (r : List (Nat × α)), find i (upd j y r) = find i r
  | [] => rfl
  | (k, x) :: r => by
    cases h : Nat.beq j k with
    | true =>
      have : j = k := Nat.eq_of_beq_eq_true h
      subst this
      simp [upd, find_cons_ne hij]
    | false => simp [upd, h, find, find_upd_ne hij y r]
theorem find_upd_self {α : Type} {i : Nat} (y : α) : ∀ {r : List (Nat × α)} {x : α}, find i r = some x → find i (upd i y r) = some y
  | [], x, h => by simp [find] at h
  | (k, z) :: r, x, h => by
    cases e : Nat.beq i k with
    | true => simp [upd, e, find]
    | false => simp only [find, e, cond_false] at h; simp [upd, e, find, find_upd_self y h]
def Thawed (n : Nat) (fz : Nat × Nat) : Prop := ∀ i, i < n → (decide (fz.1 ≤ i) && decide (i < fz.2)) = false
theorem Thawed.zero (n : Nat) : Thawed n (0, 0) := fun i _ => by simp
theorem Thawed.of {n : Nat} {fz : Nat × Nat} (h : fz = (0, 0)) : Thawed n fz := by subst h; exact .zero n
def MRel (E : Env) : List (SV × SV × Nat) → List MapEntry → Prop
  | [], [] => True
  | x :: xs, m :: ms => x.1.den E = some m.key ∧ x.2.1.den E = some m.val ∧ m.born = x.2.2 ∧ MRel E xs ms
  | _, _ => False
theorem MRel.mono {E F : Env} (h : E.le F) : ∀ {xs : List (SV × SV × Nat)} {ms : List MapEntry}, MRel E xs ms → MRel F xs ms
  | [], [], _ => trivial
  | _ :: _, _ :: _, ⟨a, b, c, d⟩ => ⟨SV.den_mono h _ _ a, SV.den_mono h _ _ b, c, MRel.mono h d⟩
  | [], _ :: _, k => k.elim
  | _ :: _, [], k => k.elim
def BRel (E : Env) (es : List (SV × SV × Nat)) (l : List MapEntry) (clock : Nat) : Prop :=
  (l.map (·.key)).Nodup ∧ (l.map (·.born)).Nodup ∧ (∀ m ∈ l, m.born < clock) ∧
  (∀ m ∈ l, ∃ e ∈ es, e.1.den E = some m.key ∧ e.2.1.den E = some m.val) ∧ ∀ e ∈ es, ∃ m ∈ l, e.1.den E = some m.key ∧ e.2.1.den E = some m.val
theorem BRel.mono {E F : Env} (h : E.le F) {es : List (SV × SV × Nat)} {l : List MapEntry} {c : Nat} (k : BRel E es l c) : BRel F es l c :=
  ⟨k.1, k.2.1, k.2.2.1, fun m hm => by obtain ⟨e, h1, h2, h3⟩ := k.2.2.2.1 m hm; exact ⟨e, h1, SV.den_mono h _ _ h2, SV.den_mono h _ _ h3⟩,
   fun e he => by obtain ⟨m, h1, h2, h3⟩ := k.2.2.2.2 e he; exact ⟨m, h1, SV.den_mono h _ _ h2, SV.den_mono h _ _ h3⟩⟩
def ORel (E : Env) : SObj → Obj → Prop
  | .row cs e wr none, o => ∃ l fz, SV.denL E cs = some l ∧ o = .cells l.toArray e fz ∧ (wr = true → fz = (0, 0))
  | .row cs e wr (some (i, u)), o => ∃ l r n fz, SV.denL E cs = some l ∧ E.κ i = some n ∧ (l ++ r).length = n * u ∧ o = .cells (l ++ r).toArray e fz ∧ (wr = true → Thawed (l ++ r).length fz)
  | .map es clock, o => ∃ l : List MapEntry, o = .map l.toArray clock ∧ MRel E es l
  | .siter s pos, o => o = .stringIter s pos
  | .miter none since seen stepped, o => o = .mapIter none since seen.toArray stepped
  | .miter (some id) since seen stepped, o => ∃ b, E.ρ id = some b ∧ o = .mapIter (some b) since seen.toArray stepped
  | .bag es, o => ∃ (l : List MapEntry) (clock : Nat), o = .map l.toArray clock ∧ BRel E es l clock
theorem ORel.mono {E F : Env} (h : E.le F) {s : SObj} {o : Obj} (k : ORel E s o) : ORel F s o := by
  cases s with
  | row cs e fz ext =>
    cases ext with
    | none => obtain ⟨l, fz, h1, h2⟩ := k; exact ⟨l, fz, SV.denL_mono h _ _ h1, h2⟩
    | some p => obtain ⟨i, u⟩ := p; obtain ⟨l, r, n, fz, h1, h2, h3, h4⟩ := k; exact ⟨l, r, n, fz, SV.denL_mono h _ _ h1, h.κ _ _ h2, h3, h4⟩
  | map es c =>
    obtain ⟨l, h1, h2⟩ := k
    exact ⟨l, h1, h2.mono h⟩
  | siter s p => exact k
  | bag es =>
    obtain ⟨l, c, h1, h2⟩ := k
    exact ⟨l, c, h1, h2.mono h⟩
  | miter m a b c =>
    cases m with
    | none => exact k
    | some id => obtain ⟨x, h1, h2⟩ := k; exact ⟨x, h.ρ _ _ h1, h2⟩
structure ERel (E : Env) (S : St) : Prop where
  lows : ∀ i n, find i S.lows = some n → ∃ m, E.κ i = some m ∧ n ≤ m
  sorts : ∀ i s, find i S.sorts = some s → ∃ v, E.σ i = some v ∧ s.fits v
  pc : ∀ i b, (i, b) ∈ S.pc → E.σ i = some (.bool b)
  glob : ∀ i, isInN i S.gs = true → E.ρ i = some i
structure Start where
  w : World
  pins : List (Nat × Value)
  P : Program
def fitsL : List Sort_ → List Value → Prop
  | [], [] => True
  | s :: ss, v :: vs => s.fits v ∧ fitsL ss vs
  | _, _ => False
def farRel (op : BinOp) : List Value → Value → Prop
  | [.float .f64 x, .float .f64 y], v => ∃ r, farV op .f64 x y = some r ∧ ((∃ b, r = some b ∧ v = .float .f64 b) ∨ (r = none ∧ ∃ b, v = .float .f64 b ∧ Nan64 b))
  | _, _ => False
def f2iRel (k : IntKind) : List Value → Value → Prop
  | [.float .f64 b], v => (∃ n, (FloatKind.f64.decode b).toInt .zero = some n ∧ k.min ≤ n ∧ n ≤ k.max ∧ v = .int k n) ∨
      ((∀ n, (FloatKind.f64.decode b).toInt .zero = some n → ¬ (k.min ≤ n ∧ n ≤ k.max)) ∧ ∃ m, v = .int k (k.wrap m))
  | _, _ => False
def intgRel (way : Ieee.Toward) (x : Nat) (v : Value) : Prop :=
  ∃ b, v = .float .f64 b ∧ ((∀ s t, FloatKind.f64.decode x ≠ .nan s t) → b = FloatKind.f64.encode ((FloatKind.f64.decode x).integral way))
def extRel : ExtOp → List Value → Value → Prop
  | .fbits, [.float .f64 b], v => v = .int .u64 b
  | .ffrom, [.int .u64 n], v => v = .float .f64 n.toNat
  | .floor, [.float .f64 x], v => intgRel .down x v
  | .ceil, [.float .f64 x], v => intgRel .up x v
  | .trunc, [.float .f64 x], v => intgRel .zero x v
  | .sqrt, [.float .f64 x], v => ∃ b, v = .float .f64 b ∧ ∀ r, FloatKind.f64.format.sqrt x = some r → b = r
  | _, _, _ => False
def SOp.rel (w0 : Start) (op : SOp) (vs : List Value) (v : Value) : Prop :=
  match op with
  | .bin .. | .conv .. | .call _ => pureRun w0.P (sopSem op vs) = some v
  | .far op => farRel op vs v
  | .f2i k => f2iRel k vs v
  | .ext x => extRel x vs v
  | .whole => wholeRel vs v
  | .pred _ p => p vs
  | .npred _ p => ¬ p vs
  | .nback _ p m n srts => fitsL srts (vs.drop n) → p (vs.drop n) → ¬ m (vs.drop n) < m (vs.take n)
  | .nat0 _ p srts => fitsL srts vs → ¬ p vs
  | op => sopFun op vs = some v
structure LRel (B : Nat) (w0 : Start) (E : Env) (w : World) (l : LEnt) (v : Value) (cells : Array Value) : Prop where
  s : E.σ l.s = some v
  x : E.σ l.x = some (.agg cells)
  some_ : 0 < l.lay.length
  few : cells.size / l.lay.length ≤ 140737488355328
  whole : cells.size = cells.size / l.lay.length * l.lay.length
  lay : ∀ (j : Nat) (c : Value), cells[j]? = some c → ∃ t, l.lay[j % l.lay.length]? = some t ∧ t.fits c
  own : l.own = true → w.ownsRow B l.e l.lay.length v (cells.size / l.lay.length) cells.toList
  old : l.own = false → (v = .slice none 0 0 ∧ cells = #[]) ∨ ∃ a cap, v = .slice (some a) (cells.size / l.lay.length) cap ∧ a.block < B ∧ ∀ (j : Nat) (c : Value), cells[j]? = some c → w0.w.cell? (a.add j) = some c
inductive Deep (B : Nat) (w : World) : Lay → Value → Value → Prop
  | sc {t : Sort_} {v : Value} : t.fits v → Deep B w (.sc t) v v
  | nil {lay : List Lay} : 0 < lay.length → Deep B w (.list lay) (.slice none 0 0) (.agg #[])
  | list {lay : List Lay} {a : Addr} {cap : Nat} {raw cells : Array Value} : 0 < lay.length → cells.size / lay.length ≤ 140737488355328 → cells.size = cells.size / lay.length * lay.length → raw.size = cells.size → a.block < B →
      (∀ (j : Nat) (c : Value), raw[j]? = some c → w.cell? (a.add j) = some c) →
      (∀ (j : Nat) (t : Lay) (c x : Value), lay[j % lay.length]? = some t → raw[j]? = some c → cells[j]? = some x → Deep B w t c x) →
      Deep B w (.list lay) (.slice (some a) (cells.size / lay.length) cap) (.agg cells)
structure Rel (B G : Nat) (w0 : Start) (E : Env) (S : St) (w : World) : Prop where
  heap : ∀ id o, find id S.heap = some o → ∃ b x, E.ρ id = some b ∧ w.heap[b]? = some x ∧ ORel E o x
  inj : ∀ i j a b c, find i S.heap = some a → find j S.heap = some b → E.ρ i = some c → E.ρ j = some c → G ≤ i → G ≤ j → i = j
  low : ∀ i o b, find i S.heap = some o → i < G → E.ρ i = some b → b < B
  next : G ≤ S.next
  newρ : ∀ i, S.next ≤ i → E.ρ i = none
  newσ : ∀ i, S.nsym ≤ i → E.σ i = none
  newκ : ∀ i, S.ncap ≤ i → E.κ i = none
  dom : ∀ i b, E.ρ i = some b → b < w.heap.size
  own : ∀ i o b, find i S.heap = some o → G ≤ i → E.ρ i = some b → B ≤ b
  base : B ≤ w.heap.size
  below : Below B w0.w w
  lows : ∀ i n, find i S.lows = some n → ∃ m, E.κ i = some m ∧ n ≤ m
  sorts : ∀ i s, find i S.sorts = some s → ∃ v, E.σ i = some v ∧ s.fits v
  pc : ∀ i b, (i, b) ∈ S.pc → E.σ i = some (.bool b)
  glob : ∀ i, isInN i S.gs = true → E.ρ i = some i
  pins : ∀ p ∈ w0.pins, E.σ p.1 = some p.2
  ro : ∀ i xs, find i S.ro = some xs → ∃ a cap, E.σ i = some (.slice (some a) xs.length cap) ∧ ∀ (j : Nat) v, xs[j]? = some v → w0.w.cell? (a.add j) = some v ∧ a.block < B
  ra : ∀ i v, find i S.ra = some v → ∃ a, E.σ i = some (.pointer (some a)) ∧ w0.w.cell? a = some v ∧ a.block < B
  deeps : ∀ d ∈ S.deeps, ∃ v x, E.σ d.s = some v ∧ E.σ d.x = some x ∧ Deep B w0.w (.list d.lay) v x
  facts : ∀ q ∈ S.facts, ∃ vs v, SV.denL E q.args = some vs ∧ q.res.den E = some v ∧ q.op.rel w0 vs v
  lists : ∀ l ∈ S.lists, ∃ v cells, LRel B w0 E w l v cells
  apart : ∀ l ∈ S.lists, l.own = true → ∀ v, E.σ l.s = some v → ∀ b, v.ownBlock = some b → (∀ id o, find id S.heap = some o → E.ρ id ≠ some b) ∧
    ∀ m ∈ S.lists, m.own = true → ∀ u, E.σ m.s = some u → u.ownBlock = some b → m.s = l.s
section
variable {B G : Nat} {w0 : Start} {E : Env} {S : St} {w : World}
theorem LRel.mono {F : Env} (hE : E.le F) {l : LEnt} {v : Value} {cells : Array Value} (h : LRel B w0 E w l v cells) : LRel B w0 F w l v cells :=
  { h with s := hE.σ _ _ h.s, x := hE.σ _ _ h.x }
theorem ownsRow_keep {w w' : World} {base e size n : Nat} {v : Value} {xs : List Value} (h : w.ownsRow base e size v n xs) (hb : ∀ b, v.ownBlock = some b → w'.heap[b]? = w.heap[b]?) : w'.ownsRow base e size v n xs := by
  refine ⟨h.1, ?_⟩
  rcases h.2 with hn | ⟨g, cap, cur, rfl, h1, h2, rest⟩
  · exact .inl hn
  · exact .inr ⟨g, cap, cur, rfl, h1, by rw [hb g rfl]; exact h2, rest⟩
theorem LRel.keep {w' : World} {l : LEnt} {v : Value} {cells : Array Value} (h : LRel B w0 E w l v cells) (hb : l.own = true → ∀ b, v.ownBlock = some b → w'.heap[b]? = w.heap[b]?) : LRel B w0 E w' l v cells :=
  { h with own := fun ho => ownsRow_keep (h.own ho) (hb ho) }
theorem LRel.lt {l : LEnt} {v : Value} {cells : Array Value} (h : LRel B w0 E w l v cells) (ho : l.own = true) {b : Nat} (hb : v.ownBlock = some b) : B ≤ b ∧ b < w.heap.size := (h.own ho).lt b hb
theorem Rel.listsKeep (h : Rel B G w0 E S w) {w' : World} {F : Env} (hE : E.le F) (hk : ∀ l ∈ S.lists, l.own = true → ∀ v, E.σ l.s = some v → ∀ b, v.ownBlock = some b → b < w.heap.size → w'.heap[b]? = w.heap[b]?) :
    ∀ l ∈ S.lists, ∃ v cells, LRel B w0 F w' l v cells := fun l hl => by
  obtain ⟨v, cells, hr⟩ := h.lists l hl
  exact ⟨v, cells, (hr.keep fun ho b hb => hk l hl ho v hr.s b hb (hr.lt ho hb).2).mono hE⟩
theorem Rel.listAt (h : Rel B G w0 E S w) {l : LEnt} (hl : l ∈ S.lists) {v : Value} {F : Env} (hE : E.le F) (hv : F.σ l.s = some v) : E.σ l.s = some v := by
  obtain ⟨u, cells, hr⟩ := h.lists l hl
  have := hE.σ _ _ hr.s
  rw [hv] at this
  cases this
  exact hr.s
theorem Rel.env (h : Rel B G w0 E S w) : ERel E S := ⟨h.lows, h.sorts, h.pc, h.glob⟩
theorem Rel.same (h : Rel B G w0 E S w) {w' : World} (hh : w'.heap = w.heap) (ht : w'.tape = w.tape) (ho : w'.os = w.os) (hp : w'.output = w.output) : Rel B G w0 E S w' :=
  { h with
    heap := by rw [hh]; exact h.heap
    dom := by rw [hh]; exact h.dom
    base := by rw [hh]; exact h.base
    below := ⟨ho.trans h.below.os, ht.trans h.below.tape, hp.trans h.below.output, by rw [hh]; exact h.below.size, by rw [hh]; exact h.below.block⟩
    lists := h.listsKeep E.le_refl fun _ _ _ _ _ _ _ _ => by rw [hh] }
theorem Rel.after (h : Rel B G w0 E S w) {w' : World} (k : Below w.heap.size w w') : Rel B G w0 E S w' :=
  { h with
    heap := fun id o hi => by
      obtain ⟨b, x, h1, h2, h3⟩ := h.heap id o hi
      exact ⟨b, x, h1, by rw [k.block b (h.dom id b h1)]; exact h2, h3⟩
    dom := fun i b hb => by have := h.dom i b hb; have := k.size; omega
    base := by have := h.base; have := k.size; omega
    below := h.below.trans ⟨k.os, k.tape, k.output, k.size, fun i hi => k.block i (by have := h.base; omega)⟩
    lists := h.listsKeep E.le_refl fun _ _ _ _ _ _ _ hb => k.block _ hb }
theorem Rel.other (h : Rel B G w0 E S w) {i id b c : Nat} {x o : SObj} (hi : find i S.heap = some x) (h1 : E.ρ i = some c) (hf : find id S.heap = some o) (hb : E.ρ id = some b) (hG : G ≤ id) (ec : c = b) (e : i ≠ id) : False := by
  subst ec
  rcases Nat.lt_or_ge i G with hg | hg
  · have := h.low i x c hi hg h1
    have := h.own id o c hf hG hb
    omega
  · exact e (h.inj i id x o c hi hf h1 hb hg hG)
theorem Rel.wrote (h : Rel B G w0 E S w) {id b : Nat} {o o' : SObj} {x' : Obj} (hf : find id S.heap = some o) (hb : E.ρ id = some b) (hG : G ≤ id) {w' : World}
    (hs : w'.heap.size = w.heap.size) (hk : ∀ k, k ≠ b → w'.heap[k]? = w.heap[k]?) (hx : w'.heap[b]? = some x') (ho' : ORel E o' x')
    (ht : w'.tape = w.tape) (ho : w'.os = w.os) (hp : w'.output = w.output) : Rel B G w0 E { S with heap := upd id o' S.heap } w' := by
  have hB := h.own _ _ _ hf hG hb
  have live : ∀ i x, find i (upd id o' S.heap) = some x → ∃ y, find i S.heap = some y := fun i x hx => by
    by_cases e : i = id
    · subst e; exact ⟨o, hf⟩
    · exact ⟨x, by rwa [find_upd_ne e] at hx⟩
  exact
  { h with
    heap := fun i x hi => by
      by_cases e : i = id
      · subst e
        rw [find_upd_self o' hf] at hi
        cases hi
        exact ⟨b, x', hb, hx, ho'⟩
      · rw [find_upd_ne e] at hi
        obtain ⟨c, y, h1, h2, h3⟩ := h.heap i x hi
        have : c ≠ b := fun ec => h.other hi h1 hf hb hG (ec ▸ rfl) e
        exact ⟨c, y, h1, by rw [hk c this]; exact h2, h3⟩
    inj := fun i j a c d hi hj hi' hj' => by
      obtain ⟨y, hy⟩ := live i a hi
      obtain ⟨z, hz⟩ := live j c hj
      exact h.inj i j y z d hy hz hi' hj'
    low := fun i x c hi hg hc => by
      obtain ⟨y, hy⟩ := live i x hi
      exact h.low i y c hy hg hc
    dom := by rw [hs]; exact h.dom
    base := by rw [hs]; exact h.base
    own := fun i x c hi hg hc => by
      obtain ⟨y, hy⟩ := live i x hi
      exact h.own i y c hy hg hc
    below := h.below.trans ⟨ho, ht, hp, by omega, fun k hk' => hk k (by omega)⟩
    lists := h.listsKeep E.le_refl fun l hl ho v hv c hc _ => hk c fun e => by
      subst e
      exact (h.apart l hl ho v hv _ hc).1 id o hf hb
    apart := fun l hl ho v hv c hc => ⟨fun i x hi => by
      obtain ⟨y, hy⟩ := live i x hi
      exact (h.apart l hl ho v hv c hc).1 i y hy, (h.apart l hl ho v hv c hc).2⟩ }
def Env.place (E : Env) (id b : Nat) : Env := { E with ρ := fun i => bif Nat.beq i id then some b else E.ρ i }
theorem Env.place_self (E : Env) (id b : Nat) : (E.place id b).ρ id = some b := by simp [Env.place]
theorem Env.place_ne (E : Env) {i id : Nat} (b : Nat) (h : i ≠ id) : (E.place id b).ρ i = E.ρ i := by
  have : Nat.beq i id = false := by rw [← Bool.not_eq_true]; exact fun e => h (Nat.eq_of_beq_eq_true e)
  simp [Env.place, this]
theorem Env.place_le (E : Env) {id : Nat} (b : Nat) (h : E.ρ id = none) : E.le (E.place id b) :=
  ⟨fun i c hi => by
    by_cases e : i = id
    · subst e; rw [h] at hi; cases hi
    · rw [Env.place_ne E b e]; exact hi, fun _ _ h => h, fun _ _ h => h⟩
theorem Rel.pushed (h : Rel B G w0 E S w) {o : SObj} {x : Obj} {w' : World} (hw : w'.heap = w.heap.push x) (ht : w'.tape = w.tape) (hos : w'.os = w.os) (hp : w'.output = w.output)
    (ho : ORel (E.place S.next w.heap.size) o x) :
    E.le (E.place S.next w.heap.size) ∧ Rel B G w0 (E.place S.next w.heap.size) { S with heap := (S.next, o) :: S.heap, next := S.next + 1 } w' := by
  have hn := h.newρ S.next (Nat.le_refl _)
  have hle := E.place_le w.heap.size hn
  have old : ∀ i y, find i S.heap = some y → i ≠ S.next := fun i y hi e => by
    obtain ⟨b, _, hb, _⟩ := h.heap i y hi
    rw [e, hn] at hb; cases hb
  have hget : ∀ k, k < w.heap.size → w'.heap[k]? = w.heap[k]? := fun k hk => by rw [hw, Array.getElem?_push, if_neg (by omega)]
  refine ⟨hle, ?_⟩
  exact
  { heap := fun i y hi => by
      by_cases e : i = S.next
      · subst e
        rw [find_cons_self] at hi; cases hi
        exact ⟨w.heap.size, x, E.place_self _ _, by rw [hw]; simp, ho⟩
      · rw [find_cons_ne e] at hi
        obtain ⟨c, z, h1, h2, h3⟩ := h.heap i y hi
        exact ⟨c, z, hle.ρ _ _ h1, by rw [hget c (h.dom i c h1)]; exact h2, h3.mono hle⟩
    low := fun i y b hi hg hb => by
      by_cases e : i = S.next
      · subst e; have := h.next; omega
      · rw [find_cons_ne e] at hi; rw [E.place_ne _ e] at hb; exact h.low i y b hi hg hb
    next := Nat.le_succ_of_le h.next
    inj := fun i j a c d hi hj hi' hj' gi gj => by
      have fr : ∀ k y, find k ((S.next, o) :: S.heap) = some y → (E.place S.next w.heap.size).ρ k = some d → (k = S.next ∧ d = w.heap.size) ∨ (k ≠ S.next ∧ d < w.heap.size ∧ E.ρ k = some d ∧ find k S.heap = some y) := fun k y hk hk' => by
        by_cases e : k = S.next
        · subst e; rw [E.place_self] at hk'; cases hk'; exact .inl ⟨rfl, rfl⟩
        · rw [find_cons_ne e] at hk; rw [E.place_ne _ e] at hk'; exact .inr ⟨e, h.dom _ _ hk', hk', hk⟩
      rcases fr i a hi hi' with ⟨e1, e2⟩ | ⟨e1, e2, e3, e4⟩ <;> rcases fr j c hj hj' with ⟨f1, f2⟩ | ⟨f1, f2, f3, f4⟩
      · rw [e1, f1]
      · omega
      · omega
      · exact h.inj i j a c d e4 f4 e3 f3 gi gj
    newρ := fun i hi => by
      have hi : S.next + 1 ≤ i := hi
      rw [E.place_ne _ (by omega)]; exact h.newρ i (by omega)
    newσ := h.newσ
    newκ := h.newκ
    dom := fun i b hb => by
      rw [hw]; simp only [Array.size_push]
      by_cases e : i = S.next
      · subst e; rw [E.place_self] at hb; cases hb; omega
      · rw [E.place_ne _ e] at hb; have := h.dom i b hb; omega
    own := fun i y b hi hg hb => by
      by_cases e : i = S.next
      · subst e; rw [E.place_self] at hb; cases hb; exact h.base
      · rw [find_cons_ne e] at hi; rw [E.place_ne _ e] at hb; exact h.own i y b hi hg hb
    base := by rw [hw]; simp only [Array.size_push]; have := h.base; omega
    below := h.below.trans ⟨hos, ht, hp, by rw [hw]; simp, fun k hk => hget k (by have := h.base; omega)⟩
    lows := h.lows
    sorts := h.sorts
    pc := h.pc
    glob := fun i hi => hle.ρ _ _ (h.glob i hi)
    pins := h.pins
    ro := h.ro
    ra := h.ra
    deeps := h.deeps
    facts := fun q hq => by obtain ⟨vs, v, h1, h2, h3⟩ := h.facts q hq; exact ⟨vs, v, SV.denL_mono hle _ _ h1, SV.den_mono hle _ _ h2, h3⟩
    lists := h.listsKeep hle fun _ _ _ _ _ _ _ hb => hget _ hb
    apart := fun l hl ho v hv c hc => by
      have hv := h.listAt hl hle hv
      obtain ⟨h1, h2⟩ := h.apart l hl ho v hv c hc
      refine ⟨fun i y hi => ?_, fun m hm hmo u hu => h2 m hm hmo u (h.listAt hm hle hu)⟩
      obtain ⟨u, cells, hr⟩ := h.lists l hl
      have hs := hr.s
      rw [hv] at hs; cases hs
      have hlt := (hr.lt ho hc).2
      by_cases e : i = S.next
      · subst e; rw [Env.place_self]; intro e; cases e; omega
      · rw [find_cons_ne e] at hi; rw [Env.place_ne _ _ e]; exact h1 i y hi }
theorem Rel.killed (h : Rel B G w0 E S w) (id : Nat) : Rel B G w0 E { S with heap := kill id S.heap } w :=
  { h with
    heap := fun i o hi => h.heap i o (find_kill hi).2
    inj := fun i j a b c hi hj hi' hj' => h.inj i j a b c (find_kill hi).2 (find_kill hj).2 hi' hj'
    low := fun i o b hi hg hb => h.low i o b (find_kill hi).2 hg hb
    own := fun i o b hi hg hb => h.own i o b (find_kill hi).2 hg hb
    apart := fun l hl ho v hv c hc => ⟨fun i x hi => (h.apart l hl ho v hv c hc).1 i x (find_kill hi).2, (h.apart l hl ho v hv c hc).2⟩ }
end
end Go.Ev
namespace Go.Ev
open Go.RowKit (Below)
def defOf (n : Nat) : List Fact_ → Option Fact_
  | [] => none
  | q :: r => match q.res with
    | .sym m => bif Nat.beq n m then some q else defOf n r
    | _ => defOf n r
theorem defOf_mem {n : Nat} : ∀ {fs : List Fact_} {q : Fact_}, defOf n fs = some q → q ∈ fs ∧ q.res = .sym n
  | [], q, h => by cases h
  | x :: r, q, h => by
    simp only [defOf] at h
    split at h
    · rename_i m hm
      cases e : Nat.beq n m with
      | true =>
        rw [e] at h
        simp only [cond_true, Option.some.injEq] at h; subst h
        exact ⟨List.mem_cons_self, by rw [hm, Nat.eq_of_beq_eq_true e]⟩
      | false =>
        rw [e] at h
        obtain ⟨h1, h2⟩ := defOf_mem h
        exact ⟨List.mem_cons_of_mem _ h1, h2⟩
    · obtain ⟨h1, h2⟩ := defOf_mem h
      exact ⟨List.mem_cons_of_mem _ h1, h2⟩
section
variable {B G : Nat} {w0 : Start} {E : Env} {S : St} {w : World} {P : Program}
def intOf (S : St) : SV → Option (IntKind × Option Int × Option Int)
  | .val (.int k b) => some (k, some b, some b)
  | .sym n => match find n S.sorts with
    | some (.is (.int k b)) => some (k, some b, some b)
    | some (.int k) => some (k, none, none)
    | some (.intIn k lo hi) => some (k, lo, hi)
    | _ => none
  | _ => none
def IntV (v : Value) (p : IntKind × Option Int × Option Int) : Prop := ∃ n, v = .int p.1 n ∧ (∀ a, p.2.1 = some a → a ≤ n) ∧ ∀ b, p.2.2 = some b → n ≤ b
theorem intOf_ok (hr : ERel E S) {x : SV} {p : IntKind × Option Int × Option Int} {v : Value} (h : intOf S x = some p) (hx : x.den E = some v) : IntV v p := by
  unfold intOf at h
  split at h
  · simp only [Option.some.injEq] at h; subst h
    simp only [SV.den, Option.some.injEq] at hx; subst hx
    exact ⟨_, rfl, fun a e => by cases e; exact Int.le_refl _, fun a e => by cases e; exact Int.le_refl _⟩
  · rename_i n
    simp only [SV.den] at hx
    split at h
    · rename_i k b hb
      simp only [Option.some.injEq] at h; subst h
      obtain ⟨u, hu, hf⟩ := hr.sorts _ _ hb
      rw [hu] at hx; cases hx
      exact ⟨b, hf, fun a e => by cases e; exact Int.le_refl _, fun a e => by cases e; exact Int.le_refl _⟩
    · rename_i k hb
      simp only [Option.some.injEq] at h; subst h
      obtain ⟨u, hu, m, rfl⟩ := hr.sorts _ _ hb
      rw [hu] at hx; cases hx
      exact ⟨m, rfl, (fun a e => by cases e), (fun a e => by cases e)⟩
    · rename_i k lo hi hb
      simp only [Option.some.injEq] at h; subst h
      obtain ⟨u, hu, m, rfl, h1, h2⟩ := hr.sorts _ _ hb
      rw [hu] at hx; cases hx
      exact ⟨m, rfl, h1, h2⟩
    · cases h
  · cases h
def setSort (S : St) (n : Nat) (s : Sort_) : St := { S with sorts := upd n s S.sorts }
theorem Rel.setSort (h : Rel B G w0 E S w) {n : Nat} {s0 s : Sort_} {v : Value} (hf : find n S.sorts = some s0) (hv : E.σ n = some v) (hs : s.fits v) : Rel B G w0 E (setSort S n s) w :=
  { h with
    sorts := fun i x hi => by
      by_cases e : i = n
      · subst e
        simp only [Go.Ev.setSort] at hi
        rw [find_upd_self s hf] at hi
        cases hi
        exact ⟨v, hv, hs⟩
      · simp only [Go.Ev.setSort] at hi
        rw [find_upd_ne e] at hi
        exact h.sorts i x hi }
inductive Cmp where
  | lt | le | gt | ge | eq | ne
def cmpOf (op : BinOp) (b : Bool) : Option Cmp :=
  match op, b with
  | .lss, true => some .lt
  | .lss, false => some .ge
  | .leq, true => some .le
  | .leq, false => some .gt
  | .gtr, true => some .gt
  | .gtr, false => some .le
  | .geq, true => some .ge
  | .geq, false => some .lt
  | .eql, true => some .eq
  | .eql, false => some .ne
  | .neq, true => some .ne
  | .neq, false => some .eq
  | _, _ => none
def Cmp.says : Cmp → Int → Int → Prop
  | .lt, a, b => a < b
  | .le, a, b => a ≤ b
  | .gt, a, b => b < a
  | .ge, a, b => b ≤ a
  | .eq, a, b => a = b
  | .ne, a, b => a ≠ b
def Cmp.flip : Cmp → Cmp
  | .lt => .gt
  | .le => .ge
  | .gt => .lt
  | .ge => .le
  | c => c
theorem Cmp.flip_says {c : Cmp} {a b : Int} (h : c.says a b) : c.flip.says b a := by
  cases c <;> simp only [Cmp.says, Cmp.flip] at h ⊢ <;> omega
theorem cmpOf_ok {op : BinOp} {b : Bool} {c : Cmp} (h : cmpOf op b = some c) {k : IntKind} {x y : Int} (hv : intV op k x k y = some (.bool b)) : c.says x y := by
  cases op <;> simp only [intV, ibin, if_true, reduceCtorEq, Option.some.injEq, Value.bool.injEq, ishift] at hv <;> first | (subst hv) | skip
  all_goals first | (split at hv <;> simp at hv; done) | skip
  all_goals simp only [cmpOf] at h
  all_goals (split at h <;> first | (cases h; done) | skip)
  all_goals (simp only [Option.some.injEq] at h; subst h; simp only [Cmp.says])
  all_goals simp_all
  all_goals omega
def minO (a b : Option Int) : Option Int := match a, b with
  | some x, some y => some (bif decide (x ≤ y) then x else y)
  | some x, none => some x
  | none, b => b
def maxO (a b : Option Int) : Option Int := match a, b with
  | some x, some y => some (bif decide (x ≤ y) then y else x)
  | some x, none => some x
  | none, b => b
theorem minO_ok {a b : Option Int} {n : Int} (ha : ∀ x, a = some x → n ≤ x) (hb : ∀ x, b = some x → n ≤ x) : ∀ x, minO a b = some x → n ≤ x := by
  intro x h
  unfold minO at h
  split at h
  · rename_i u v
    have := ha _ rfl; have := hb _ rfl
    cases e : decide (u ≤ v) <;> rw [e] at h <;> simp at h <;> omega
  · cases h; exact ha _ rfl
  · exact hb _ h
theorem maxO_ok {a b : Option Int} {n : Int} (ha : ∀ x, a = some x → x ≤ n) (hb : ∀ x, b = some x → x ≤ n) : ∀ x, maxO a b = some x → x ≤ n := by
  intro x h
  unfold maxO at h
  split at h
  · rename_i u v
    have := ha _ rfl; have := hb _ rfl
    cases e : decide (u ≤ v) <;> rw [e] at h <;> simp at h <;> omega
  · cases h; exact ha _ rfl
  · exact hb _ h
def addO (a : Option Int) (d : Int) : Option Int := match a with
  | some x => some (x + d)
  | none => none
theorem addO_some {a : Option Int} {d x : Int} (h : addO a d = some x) : ∃ y, a = some y ∧ x = y + d := by
  unfold addO at h; split at h
  · cases h; exact ⟨_, rfl, rfl⟩
  · cases h
def isO (a : Option Int) (x : Int) : Bool := match a with
  | some y => decide (x = y)
  | none => false
theorem isO_ok {a : Option Int} {x : Int} (h : isO a x = true) : a = some x := by
  unfold isO at h; split at h
  · simp only [decide_eq_true_eq] at h; rw [h]
  · cases h
def Cmp.cut (c : Cmp) (lx hx ly hy : Option Int) : Option Int × Option Int :=
  match c with
  | .lt => (lx, minO hx (addO hy (-1)))
  | .le => (lx, minO hx hy)
  | .gt => (maxO lx (addO ly 1), hx)
  | .ge => (maxO lx ly, hx)
  | .eq => (maxO lx ly, minO hx hy)
  | .ne => match ly with
    | some d => bif isO hy d then (bif isO lx d then some (d + 1) else lx, bif isO hx d then some (d - 1) else hx) else (lx, hx)
    | none => (lx, hx)
theorem Cmp.cut_ok {c : Cmp} {lx hx ly hy : Option Int} {n m : Int} (h : c.says n m) (h1 : ∀ a, lx = some a → a ≤ n) (h2 : ∀ a, hx = some a → n ≤ a) (h3 : ∀ a, ly = some a → a ≤ m) (h4 : ∀ a, hy = some a → m ≤ a) :
    (∀ a, (c.cut lx hx ly hy).1 = some a → a ≤ n) ∧ ∀ a, (c.cut lx hx ly hy).2 = some a → n ≤ a := by
  cases c <;> simp only [Cmp.says] at h <;> simp only [Cmp.cut]
  case lt => exact ⟨h1, minO_ok h2 fun x e => by obtain ⟨y, e1, rfl⟩ := addO_some e; have := h4 _ e1; omega⟩
  case le => exact ⟨h1, minO_ok h2 fun x e => by have := h4 _ e; omega⟩
  case gt => exact ⟨maxO_ok h1 fun x e => by obtain ⟨y, e1, rfl⟩ := addO_some e; have := h3 _ e1; omega, h2⟩
  case ge => exact ⟨maxO_ok h1 fun x e => by have := h3 _ e; omega, h2⟩
  case eq => exact ⟨maxO_ok h1 fun x e => by have := h3 _ e; omega, minO_ok h2 fun x e => by have := h4 _ e; omega⟩
  case ne =>
    split
    · rename_i d
      cases e : isO hy d with
      | false => simp only [cond_false]; exact ⟨h1, h2⟩
      | true =>
        have hm : m = d := by have := h3 d rfl; have := h4 d (isO_ok e); omega
        simp only [cond_true]
        refine ⟨fun a ha => ?_, fun a ha => ?_⟩
        · cases e1 : isO lx d with
          | false => rw [e1] at ha; exact h1 a ha
          | true =>
            rw [e1] at ha
            simp only [cond_true, Option.some.injEq] at ha
            have := h1 d (isO_ok e1); omega
        · cases e1 : isO hx d with
          | false => rw [e1] at ha; exact h2 a ha
          | true =>
            rw [e1] at ha
            simp only [cond_true, Option.some.injEq] at ha
            have := h2 d (isO_ok e1); omega
    · exact ⟨h1, h2⟩
def emptyO (lo hi : Option Int) : Bool := match lo, hi with
  | some a, some b => decide (b < a)
  | _, _ => false
def setIv (S : St) (x : SV) (k : IntKind) (p : Option Int × Option Int) : Option St :=
  bif emptyO p.1 p.2 then none else match x with
  | .sym n => match find n S.sorts with
    | some (.int _) | some (.intIn _ _ _) => some (setSort S n (.intIn k p.1 p.2))
    | _ => some S
  | _ => some S
theorem setIv_ok (hr : Rel B G w0 E S w) {x : SV} {k : IntKind} {p : Option Int × Option Int} {n : Int} (hx : x.den E = some (.int k n)) (h1 : ∀ a, p.1 = some a → a ≤ n) (h2 : ∀ a, p.2 = some a → n ≤ a) :
    ∃ S', setIv S x k p = some S' ∧ Rel B G w0 E S' w := by
  unfold setIv
  have he : emptyO p.1 p.2 = false := by
    unfold emptyO
    split
    · rename_i a b ha hb
      have := h1 a ha; have := h2 b hb
      simp; omega
    · rfl
  rw [he]
  simp only [cond_false]
  split
  · rename_i i
    simp only [SV.den] at hx
    split
    · rename_i k' hs
      exact ⟨_, rfl, hr.setSort hs hx ⟨n, rfl, h1, h2⟩⟩
    · rename_i k' lo hi hs
      exact ⟨_, rfl, hr.setSort hs hx ⟨n, rfl, h1, h2⟩⟩
    · exact ⟨S, rfl, hr⟩
  · exact ⟨S, rfl, hr⟩
def narrowInt (S : St) (op : BinOp) (b : Bool) (x y : SV) : Option St :=
  match cmpOf op b, intOf S x, intOf S y with
  | some c, some (k, lx, hx), some (k', ly, hy) => bif decide (k = k') then
      (match setIv S x k (c.cut lx hx ly hy) with
      | none => none
      | some S1 => setIv S1 y k (c.flip.cut ly hy lx hx)) else some S
  | _, _, _ => some S
theorem narrowInt_ok (hr : Rel B G w0 E S w) {op : BinOp} {b : Bool} {x y : SV} {k : IntKind} {n m : Int} (hx : x.den E = some (.int k n)) (hy : y.den E = some (.int k m)) (hv : intV op k n k m = some (.bool b)) :
    ∃ S', narrowInt S op b x y = some S' ∧ Rel B G w0 E S' w := by
  unfold narrowInt
  split
  · rename_i c k1 lx ux k2 ly uy hc h1 h2
    obtain ⟨n', e1, hn1, hn2⟩ := intOf_ok hr.env h1 hx
    obtain ⟨m', e2, hm1, hm2⟩ := intOf_ok hr.env h2 hy
    cases e1; cases e2
    simp only at hn1 hn2 hm1 hm2
    have hs := cmpOf_ok hc hv
    simp only [decide_true, cond_true]
    obtain ⟨a1, a2⟩ := Cmp.cut_ok hs hn1 hn2 hm1 hm2
    obtain ⟨b1, b2⟩ := Cmp.cut_ok (Cmp.flip_says hs) hm1 hm2 hn1 hn2
    obtain ⟨S1, e1, hr1⟩ := setIv_ok hr hx a1 a2
    rw [e1]
    exact setIv_ok hr1 hy b1 b2
  · exact ⟨S, rfl, hr⟩
def narrow : Nat → Nat → Bool → St → Option St
  | 0, _, _, S => some S
  | d + 1, n, b, S => match defOf n S.facts with
    | some q => match q.op, q.args with
      | .int op _, [x, y] => narrowInt S op b x y
      | .un .not, [.sym m] => match find m S.pc with
        | some c => bif c == b then none else some S
        | none => narrow d m (!b) { S with pc := (m, !b) :: S.pc }
      | _, _ => some S
    | none => some S
theorem Rel.withPc {E : Env} {S : St} {w : World} (h : Rel B G w0 E S w) {n : Nat} {b : Bool} (hb : E.σ n = some (.bool b)) :
    Rel B G w0 E { S with pc := (n, b) :: S.pc } w :=
  { h with
    pc := fun i c hi => by
      simp only [List.mem_cons, Prod.mk.injEq] at hi
      rcases hi with ⟨rfl, rfl⟩ | hi
      · exact hb
      · exact h.pc i c hi }
theorem find_mem {α : Type} {i : Nat} : ∀ {l : List (Nat × α)} {x : α}, find i l = some x → (i, x) ∈ l
  | [], x, h => by cases h
  | (j, y) :: r, x, h => by
    simp only [find] at h
    cases e : Nat.beq i j with
    | true =>
      have : i = j := Nat.eq_of_beq_eq_true e
      subst this
      rw [e] at h; simp at h; subst h; exact List.mem_cons_self
    | false => rw [e] at h; exact List.mem_cons_of_mem _ (find_mem h)
theorem setIv_ds {x : SV} {k : IntKind} {p : Option Int × Option Int} {S S' : St} (h : setIv S x k p = some S') : S'.ds = S.ds := by
  unfold setIv at h
  cases e : emptyO p.1 p.2 with
  | true => rw [e] at h; cases h
  | false =>
    rw [e] at h
    simp only [cond_false] at h
    split at h
    · split at h <;> (simp only [Option.some.injEq] at h; subst h; rfl)
    · simp only [Option.some.injEq] at h; subst h; rfl
theorem narrow_ds : ∀ (d n : Nat) (b : Bool) {S S' : St}, narrow d n b S = some S' → S'.ds = S.ds
  | 0, n, b, S, S', h => by simp only [narrow, Option.some.injEq] at h; subst h; rfl
  | d + 1, n, b, S, S', h => by
    simp only [narrow] at h
    have one : some S = some S' → S'.ds = S.ds := fun h => by cases h; rfl
    split at h
    · split at h
      · unfold narrowInt at h
        split at h
        · rename_i c k lx hx k' ly hy _ _ _
          cases e : decide (k = k') with
          | false => rw [e] at h; exact one h
          | true =>
            rw [e] at h
            simp only [cond_true] at h
            split at h
            · cases h
            · rename_i S1 h1
              exact (setIv_ds h).trans (setIv_ds h1)
        · exact one h
      · split at h
        · rename_i c _
          cases e : c == b with
          | true => rw [e] at h; cases h
          | false => rw [e] at h; exact one h
        · exact (narrow_ds d _ _ h :)
      · exact one h
    · exact one h
def branch (S : St) (n : Nat) (b : Bool) : List (Bool × St) := match narrow 3 n b { S with pc := (n, b) :: S.pc } with
  | some S' => [(b, S')]
  | none => []
theorem narrow_ok : ∀ (d n : Nat) (b : Bool) {S : St}, Rel B G w0 E S w → E.σ n = some (.bool b) → ∃ S', narrow d n b S = some S' ∧ Rel B G w0 E S' w
  | 0, n, b, S, hr, hn => ⟨S, rfl, hr⟩
  | d + 1, n, b, S, hr, hn => by
    simp only [narrow]
    split
    · rename_i q hq
      obtain ⟨hm, hres⟩ := defOf_mem hq
      obtain ⟨vs, v, h1, h2, h3⟩ := hr.facts q hm
      rw [hres] at h2
      simp only [SV.den] at h2
      rw [hn] at h2; cases h2
      split
      · rename_i op k x y hop hargs
        rw [hop] at h3
        rw [hargs] at h1
        obtain ⟨v1, l1, e1, e2, rfl⟩ := denL_cons h1
        obtain ⟨v2, l2, e3, e4, rfl⟩ := denL_cons e2
        simp only [SV.denL, Option.some.injEq] at e4; subst e4
        have h3 : sopFun (.int op k) [v1, v2] = some (.bool b) := h3
        match v1, v2, h3, e1, e3 with
        | .int k1 a, .int k2 c, h3, e1, e3 =>
          simp only [sopFun] at h3
          split at h3
          · subst_vars
            by_cases hk : k1 = k2
            · subst hk
              exact narrowInt_ok hr e1 e3 h3
            · have : ∃ S', narrowInt S op b x y = some S' ∧ Rel B G w0 E S' w := by
                unfold narrowInt
                split
                · rename_i c' ka lx ux kb ly uy hc g1 g2
                  obtain ⟨n', f1, _⟩ := intOf_ok hr.env g1 e1
                  obtain ⟨m', f2, _⟩ := intOf_ok hr.env g2 e3
                  cases f1; cases f2
                  simp only [decide_eq_false hk, cond_false]
                  exact ⟨S, rfl, hr⟩
                · exact ⟨S, rfl, hr⟩
              exact this
          · cases h3
      · rename_i m hop hargs
        rw [hop] at h3
        rw [hargs] at h1
        obtain ⟨v1, l1, e1, e2, rfl⟩ := denL_cons h1
        simp only [SV.denL, Option.some.injEq] at e2; subst e2
        have h3 : unV .not v1 = some (.bool b) := h3
        simp only [SV.den] at e1
        match v1, h3, e1 with
        | .bool c, h3, e1 =>
          simp only [unV, Option.some.injEq, Value.bool.injEq] at h3
          have hc : c = !b := by cases c <;> cases b <;> simp at h3 ⊢
          subst hc
          split
          · rename_i c' hc'
            have := hr.pc m c' (find_mem hc')
            rw [e1] at this; cases this
            have : ((!b) == b) = false := by cases b <;> rfl
            rw [this]
            exact ⟨S, rfl, hr⟩
          · exact narrow_ok d m (!b) (hr.withPc e1) e1
      · exact ⟨S, rfl, hr⟩
    · exact ⟨S, rfl, hr⟩
theorem branch_ok (hr : Rel B G w0 E S w) {n : Nat} {b : Bool} (hn : E.σ n = some (.bool b)) : ∃ p ∈ branch S n b, p.1 = b ∧ Rel B G w0 E p.2 w := by
  obtain ⟨S', h1, h2⟩ := narrow_ok 3 n b (hr.withPc hn) hn
  unfold branch
  rw [h1]
  exact ⟨_, List.mem_cons_self, rfl, h2⟩
theorem branch_ds {n : Nat} {b : Bool} : ∀ p ∈ branch S n b, p.2.ds = S.ds := by
  intro p hp
  unfold branch at hp
  split at hp
  · rename_i S' h
    simp only [List.mem_singleton] at hp; subst hp
    exact (narrow_ds 3 n b h :)
  · cases hp
end
end Go.Ev
namespace Go.Ev
open Go.RowKit (Below)
mutual
def SV.under (n : Nat) : SV → Bool
  | .val _ => true
  | .sym _ => true
  | .ptr id _ => Nat.blt id n
  | .slice id _ _ _ => Nat.blt id n
  | .map id => Nat.blt id n
  | .func _ a b => SV.underL n a && SV.underL n b
  | .iface _ v => v.under n
  | .agg cs => SV.underL n cs
  | .tuple cs => SV.underL n cs
def SV.underL (n : Nat) : List SV → Bool
  | [] => true
  | x :: r => x.under n && SV.underL n r
end
mutual
def SV.tops (n : Nat) : SV → List Nat → List Nat
  | .val _, l => l
  | .sym _, l => l
  | .ptr id _, l => bif Nat.blt id n then l else id :: l
  | .slice id _ _ _, l => bif Nat.blt id n then l else id :: l
  | .map id, l => bif Nat.blt id n then l else id :: l
  | .func _ a b, l => SV.topsL n a (SV.topsL n b l)
  | .iface _ v, l => v.tops n l
  | .agg cs, l => SV.topsL n cs l
  | .tuple cs, l => SV.topsL n cs l
def SV.topsL (n : Nat) : List SV → List Nat → List Nat
  | [], l => l
  | x :: r, l => x.tops n (SV.topsL n r l)
end
def Env.cut (E : Env) (n : Nat) : Env := { E with ρ := fun i => bif Nat.blt i n then E.ρ i else none }
theorem blt_of {i n : Nat} (h : Nat.blt i n = true) : i < n := Nat.le_of_ble_eq_true h
theorem blt_mk {i n : Nat} (h : i < n) : Nat.blt i n = true := Nat.ble_eq_true_of_le h
theorem Env.cut_at {E : Env} {n i : Nat} (h : Nat.blt i n = true) : (E.cut n).ρ i = E.ρ i := by simp only [Env.cut, h, cond_true]
theorem Env.cut_some {E : Env} {n i b : Nat} (h : (E.cut n).ρ i = some b) : Nat.blt i n = true ∧ E.ρ i = some b := by
  simp only [Env.cut] at h
  cases e : Nat.blt i n with
  | true => rw [e] at h; exact ⟨rfl, h⟩
  | false => rw [e] at h; cases h
theorem Cap.den_cut {E : Env} {n : Nat} : ∀ (c : Cap), c.den (E.cut n) = c.den E
  | .k _ => rfl
  | .v _ => rfl
mutual
theorem SV.den_cut {E : Env} {n : Nat} : ∀ (x : SV), x.under n = true → x.den (E.cut n) = x.den E
  | .val _, _ => rfl
  | .sym _, _ => rfl
  | .ptr id off, h => by
    simp only [SV.under] at h
    simp only [SV.den, Env.cut_at h]
  | .slice id off len c, h => by
    simp only [SV.under] at h
    simp only [SV.den, Env.cut_at h, Cap.den_cut]
  | .map id, h => by
    simp only [SV.under] at h
    simp only [SV.den, Env.cut_at h]
  | .func fn a b, h => by
    simp only [SV.under, Bool.and_eq_true] at h
    simp only [SV.den, SV.denL_cut a h.1, SV.denL_cut b h.2]
  | .iface t v, h => by
    simp only [SV.under] at h
    simp only [SV.den, SV.den_cut v h]
  | .agg cs, h => by
    simp only [SV.under] at h
    simp only [SV.den, SV.denL_cut cs h]
  | .tuple cs, h => by
    simp only [SV.under] at h
    simp only [SV.den, SV.denL_cut cs h]
theorem SV.denL_cut {E : Env} {n : Nat} : ∀ (l : List SV), SV.underL n l = true → SV.denL (E.cut n) l = SV.denL E l
  | [], _ => rfl
  | x :: r, h => by
    simp only [SV.underL, Bool.and_eq_true] at h
    simp only [SV.denL, SV.den_cut x h.1, SV.denL_cut r h.2]
end
def underE (n : Nat) : List (SV × SV × Nat) → Bool
  | [] => true
  | e :: r => e.1.under n && (e.2.1.under n && underE n r)
def SObj.under (n : Nat) : SObj → Bool
  | .row cs _ _ _ => SV.underL n cs
  | .map es _ => underE n es
  | .siter _ _ => true
  | .miter none _ _ _ => true
  | .miter (some id) _ _ _ => Nat.blt id n
  | .bag es => underE n es
def topsE (n : Nat) : List (SV × SV × Nat) → List Nat → List Nat
  | [], l => l
  | e :: r, l => e.1.tops n (e.2.1.tops n (topsE n r l))
def SObj.tops (n : Nat) : SObj → List Nat → List Nat
  | .row cs _ _ _, l => SV.topsL n cs l
  | .map es _, l => topsE n es l
  | .siter _ _, l => l
  | .miter none _ _ _, l => l
  | .miter (some id) _ _ _, l => bif Nat.blt id n then l else id :: l
  | .bag es, l => topsE n es l
theorem MRel.cut {E : Env} {n : Nat} : ∀ {xs : List (SV × SV × Nat)} {ms : List MapEntry}, underE n xs = true → MRel E xs ms → MRel (E.cut n) xs ms
  | [], [], _, _ => trivial
  | x :: xs, m :: ms, h, ⟨a, b, c, d⟩ => by
    simp only [underE, Bool.and_eq_true] at h
    exact ⟨by rw [SV.den_cut _ h.1]; exact a, by rw [SV.den_cut _ h.2.1]; exact b, c, MRel.cut h.2.2 d⟩
  | [], _ :: _, _, k => k.elim
  | _ :: _, [], _, k => k.elim
theorem underE_mem {n : Nat} : ∀ {xs : List (SV × SV × Nat)}, underE n xs = true → ∀ e ∈ xs, e.1.under n = true ∧ e.2.1.under n = true
  | [], _, e, he => by cases he
  | x :: xs, h, e, he => by
    simp only [underE, Bool.and_eq_true] at h
    cases he with
    | head => exact ⟨h.1, h.2.1⟩
    | tail _ he => exact underE_mem h.2.2 e he
theorem BRel.cut {E : Env} {n : Nat} {es : List (SV × SV × Nat)} {l : List MapEntry} {c : Nat} (h : underE n es = true) (k : BRel E es l c) : BRel (E.cut n) es l c :=
  ⟨k.1, k.2.1, k.2.2.1, fun m hm => by
    obtain ⟨e, h1, h2, h3⟩ := k.2.2.2.1 m hm
    obtain ⟨u1, u2⟩ := underE_mem h e h1
    exact ⟨e, h1, by rw [SV.den_cut _ u1]; exact h2, by rw [SV.den_cut _ u2]; exact h3⟩,
   fun e he => by
    obtain ⟨m, h1, h2, h3⟩ := k.2.2.2.2 e he
    obtain ⟨u1, u2⟩ := underE_mem h e he
    exact ⟨m, h1, by rw [SV.den_cut _ u1]; exact h2, by rw [SV.den_cut _ u2]; exact h3⟩⟩
theorem ORel.cut {E : Env} {n : Nat} {s : SObj} {o : Obj} (h : s.under n = true) (k : ORel E s o) : ORel (E.cut n) s o := by
  cases s with
  | row cs e fz ext =>
    simp only [SObj.under] at h
    cases ext with
    | none => obtain ⟨l, fz, h1, h2⟩ := k; exact ⟨l, fz, by rw [SV.denL_cut _ h]; exact h1, h2⟩
    | some p => obtain ⟨i, u⟩ := p; obtain ⟨l, r, m, fz, h1, h2, h3, h4⟩ := k; exact ⟨l, r, m, fz, by rw [SV.denL_cut _ h]; exact h1, h2, h3, h4⟩
  | map es c =>
    obtain ⟨l, h1, h2⟩ := k
    exact ⟨l, h1, h2.cut h⟩
  | siter s p => exact k
  | bag es =>
    obtain ⟨l, c, h1, h2⟩ := k
    exact ⟨l, c, h1, h2.cut h⟩
  | miter m a b c =>
    cases m with
    | none => exact k
    | some id =>
      simp only [SObj.under] at h
      obtain ⟨x, h1, h2⟩ := k
      exact ⟨x, by rw [Env.cut_at h]; exact h1, h2⟩
def keepH (p : Nat → Bool) : List (Nat × SObj) → List (Nat × SObj)
  | [] => []
  | x :: r => bif p x.1 then x :: keepH p r else keepH p r
theorem find_keep {p : Nat → Bool} {i : Nat} {o : SObj} : ∀ {l : List (Nat × SObj)}, find i (keepH p l) = some o → p i = true ∧ find i l = some o
  | [], h => by cases h
  | (j, y) :: r, h => by
    simp only [keepH] at h
    cases e : Nat.beq i j with
    | true =>
      have := Nat.eq_of_beq_eq_true e
      subst this
      cases hp : p i with
      | true =>
        rw [hp] at h
        simp only [cond_true, find, e] at h ⊢
        exact ⟨trivial, h⟩
      | false =>
        rw [hp] at h
        simp only [cond_false] at h
        have := (find_keep h).1
        rw [hp] at this; cases this
    | false =>
      have : find i (keepH p r) = some o := by
        cases hp : p j with
        | true => rw [hp] at h; simp only [cond_true, find, e, cond_false] at h; exact h
        | false => rw [hp] at h; exact h
      obtain ⟨h1, h2⟩ := find_keep this
      exact ⟨h1, by simp only [find, e, cond_false]; exact h2⟩
def cleanH (n : Nat) : List (Nat × SObj) → Bool
  | [] => true
  | x :: r => bif Nat.blt x.1 n then x.2.under n && cleanH n r else cleanH n r
theorem cleanH_ok {n : Nat} : ∀ {l : List (Nat × SObj)}, cleanH n l = true → ∀ {i : Nat} {o : SObj}, Nat.blt i n = true → find i l = some o → o.under n = true
  | [], _, _, _, _, h => by cases h
  | (j, y) :: r, hc, i, o, hi, h => by
    simp only [cleanH] at hc
    simp only [find] at h
    cases e : Nat.beq i j with
    | true =>
      have := Nat.eq_of_beq_eq_true e
      subst this
      rw [e] at h
      simp only [cond_true, Option.some.injEq] at h; subst h
      rw [hi] at hc
      simp only [cond_true, Bool.and_eq_true] at hc
      exact hc.1
    | false =>
      rw [e] at h
      simp only [cond_false] at h
      refine cleanH_ok (l := r) ?_ hi h
      cases k : Nat.blt j n with
      | true => rw [k] at hc; simp only [cond_true, Bool.and_eq_true] at hc; exact hc.2
      | false => rw [k] at hc; exact hc
def allUnder (n : Nat) : List Nat → Bool
  | [] => true
  | i :: r => Nat.blt i n && allUnder n r
theorem allUnder_ok {n i : Nat} : ∀ {l : List Nat}, allUnder n l = true → isInN i l = true → Nat.blt i n = true
  | [], _, h => by cases h
  | j :: r, hc, h => by
    simp only [allUnder, Bool.and_eq_true] at hc
    simp only [isInN] at h
    cases e : Nat.beq i j with
    | true => rw [Nat.eq_of_beq_eq_true e]; exact hc.1
    | false => rw [e] at h; exact allUnder_ok hc.2 h
def factsUnder (n : Nat) : List Fact_ → Bool
  | [] => true
  | q :: r => SV.underL n q.args && (q.res.under n && factsUnder n r)
theorem factsUnder_mem {n : Nat} : ∀ {l : List Fact_}, factsUnder n l = true → ∀ q ∈ l, SV.underL n q.args = true ∧ q.res.under n = true
  | [], _, q, hq => by cases hq
  | x :: r, h, q, hq => by
    simp only [factsUnder, Bool.and_eq_true] at h
    cases hq with
    | head => exact ⟨h.1, h.2.1⟩
    | tail _ hq => exact factsUnder_mem h.2.2 q hq
def clean (n : Nat) (v : SV) (S : St) : Bool := v.under n && (cleanH n S.heap && (allUnder n S.gs && factsUnder n S.facts))
def closeM (n : Nat) (h : List (Nat × SObj)) : Nat → List Nat → List Nat → Option (List Nat)
  | 0, _, _ => none
  | _ + 1, [], seen => some seen
  | k + 1, i :: r, seen => bif isInN i seen then closeM n h k r seen else match find i h with
    | some o => closeM n h k (o.tops n r) (i :: seen)
    | none => closeM n h k r (i :: seen)
def topsH (n : Nat) : List (Nat × SObj) → List Nat → List Nat
  | [], l => l
  | x :: r, l => bif Nat.blt x.1 n then x.2.tops n (topsH n r l) else topsH n r l
def gcSt (n : Nat) (v : SV) (S : St) : St :=
  bif Nat.ble S.next n then S else
  bif clean n v S then { S with heap := keepH (fun i => Nat.blt i n) S.heap, next := n } else
  match closeM n S.heap 1000 (v.tops n (topsH n S.heap [])) [] with
  | some seen => { S with heap := keepH (fun i => Nat.blt i n || isInN i seen) S.heap }
  | none => S
section
variable {B G : Nat} {w0 : Start} {E : Env} {S : St} {w : World}
theorem Rel.kept (h : Rel B G w0 E S w) (p : Nat → Bool) : Rel B G w0 E { S with heap := keepH p S.heap } w :=
  { h with
    heap := fun i o hi => h.heap i o (find_keep hi).2
    inj := fun i j a b c hi hj => h.inj i j a b c (find_keep hi).2 (find_keep hj).2
    low := fun i o b hi => h.low i o b (find_keep hi).2
    own := fun i o b hi => h.own i o b (find_keep hi).2
    apart := fun l hl ho v hv b hb => by
      obtain ⟨h1, h2⟩ := h.apart l hl ho v hv b hb
      exact ⟨fun i o hi => h1 i o (find_keep hi).2, h2⟩ }
theorem Rel.cut (h : Rel B G w0 E S w) {n : Nat} {v : SV} (hn : G ≤ n) (hc : clean n v S = true) : Rel B G w0 (E.cut n) { S with heap := keepH (fun i => Nat.blt i n) S.heap, next := n } w := by
  simp only [clean, Bool.and_eq_true] at hc
  obtain ⟨_, c1, c2, c3⟩ := hc
  exact
  { heap := fun i o hi => by
      obtain ⟨h1, h2⟩ := find_keep hi
      obtain ⟨b, x, k1, k2, k3⟩ := h.heap i o h2
      exact ⟨b, x, by rw [Env.cut_at h1]; exact k1, k2, k3.cut (cleanH_ok c1 h1 h2)⟩
    inj := fun i j a b c hi hj hi' hj' => h.inj i j a b c (find_keep hi).2 (find_keep hj).2 (Env.cut_some hi').2 (Env.cut_some hj').2
    low := fun i o b hi hg hb => h.low i o b (find_keep hi).2 hg (Env.cut_some hb).2
    next := hn
    newρ := fun i hi => by
      have hi : n ≤ i := hi
      cases e : (E.cut n).ρ i with
      | none => rfl
      | some b => have := blt_of (Env.cut_some e).1; omega
    newσ := h.newσ
    newκ := h.newκ
    dom := fun i b hb => h.dom i b (Env.cut_some hb).2
    own := fun i o b hi hg hb => h.own i o b (find_keep hi).2 hg (Env.cut_some hb).2
    base := h.base
    below := h.below
    lows := h.lows
    sorts := h.sorts
    pc := h.pc
    glob := fun i hi => by rw [Env.cut_at (allUnder_ok c2 hi)]; exact h.glob i hi
    pins := h.pins
    ro := h.ro
    ra := h.ra
    deeps := h.deeps
    facts := fun q hq => by
      obtain ⟨vs, v, h1, h2, h3⟩ := h.facts q hq
      obtain ⟨u1, u2⟩ := factsUnder_mem c3 q hq
      exact ⟨vs, v, by rw [SV.denL_cut _ u1]; exact h1, by rw [SV.den_cut _ u2]; exact h2, h3⟩
    lists := fun l hl => by
      obtain ⟨v, cells, hr⟩ := h.lists l hl
      exact ⟨v, cells, { hr with s := hr.s, x := hr.x }⟩
    apart := fun l hl ho v hv b hb => by
      obtain ⟨h1, h2⟩ := h.apart l hl ho v hv b hb
      refine ⟨fun i o hi e => ?_, h2⟩
      exact h1 i o (find_keep hi).2 (Env.cut_some e).2 }
theorem Env.le_cut {E F : Env} {n : Nat} (h : E.le F) (hn : ∀ i, n ≤ i → E.ρ i = none) : E.le (F.cut n) :=
  ⟨(fun i b hb => by
    rcases Nat.lt_or_ge i n with c | c
    · rw [Env.cut_at (blt_mk c)]; exact h.ρ i b hb
    · rw [hn i c] at hb; cases hb), h.σ, h.κ⟩
theorem gc_ok {F : Env} {n : Nat} {v : SV} {u : Value} (hG : G ≤ n) (hE : E.le F) (hn : ∀ i, n ≤ i → E.ρ i = none) (h : Rel B G w0 F S w) (hv : v.den F = some u) :
    ∃ F', E.le F' ∧ Rel B G w0 F' (gcSt n v S) w ∧ v.den F' = some u := by
  unfold gcSt
  cases Nat.ble S.next n with
  | true => exact ⟨F, hE, h, hv⟩
  | false =>
    simp only [cond_false]
    cases hc : clean n v S with
    | true =>
      refine ⟨F.cut n, Env.le_cut hE hn, h.cut hG hc, ?_⟩
      simp only [clean, Bool.and_eq_true] at hc
      rw [SV.den_cut _ hc.1]; exact hv
    | false =>
      simp only [cond_false]
      split
      · exact ⟨F, hE, h.kept _, hv⟩
      · exact ⟨F, hE, h, hv⟩
theorem gcSt_bad (n : Nat) (v : SV) (S : St) : (gcSt n v S).bad = S.bad := by
  unfold gcSt
  cases Nat.ble S.next n with
  | true => rfl
  | false =>
    simp only [cond_false]
    cases clean n v S with
    | true => rfl
    | false =>
      simp only [cond_false]
      split <;> rfl
end
end Go.Ev
