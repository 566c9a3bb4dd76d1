/- An evaluator of Go code over symbolic memory, and its soundness: what it answers of a call, the call does in every world. -/
import Derived.WalkKit
import Derived.Test.YtlpbimookmhjbaaGreatDoorEvFloat
namespace Go.Ev
open Go.RowKit (Below)

/-- A capacity: known, or the unknown number i. -/
inductive Cap where
  | k (n : Nat)
  | v (i : Nat)

/-- A value told by places: 'val': a value as it stands; 'sym n': the unknown n; the others lead into blocks that are known by their place in the table. -/
inductive SV where
  | val (v : Value)
  | sym (n : Nat)
  | ptr (id off : Nat)
  | slice (id off len : Nat) (cap : Cap)
  | map (id : Nat)
  | func (fn : Fn) (first captured : List SV)
  | iface (t : TypeId) (v : SV)
  | agg (cells : List SV)
  | tuple (vs : List SV)

/-- What the places stand for. -/
structure Env where
  ρ : Nat → Option Nat
  σ : Nat → Option Value
  κ : Nat → Option Nat

def Cap.den (E : Env) : Cap → Option Nat
  | .k n => some n
  | .v i => E.κ i

mutual
def SV.den (E : Env) : SV → Option Value
  | .val v => some v
  | .sym n => E.σ n
  | .ptr id off => match E.ρ id with
    | some b => some (.pointer (some ⟨b, off, none⟩))
    | none => none
  | .slice id off len c => match E.ρ id, c.den E with
    | some b, some n => some (.slice (some ⟨b, off, none⟩) len n)
    | _, _ => none
  | .map id => match E.ρ id with
    | some b => some (.map (some b))
    | none => none
  | .func fn first captured => match SV.denL E first, SV.denL E captured with
    | some f, some c => some (.func fn f.toArray c.toArray)
    | _, _ => none
  | .iface t v => match v.den E with
    | some x => some (.iface t x)
    | none => none
  | .agg cs => match SV.denL E cs with
    | some l => some (.agg l.toArray)
    | none => none
  | .tuple cs => match SV.denL E cs with
    | some l => some (.tuple l.toArray)
    | none => none
def SV.denL (E : Env) : List SV → Option (List Value)
  | [] => some []
  | x :: r => match x.den E, SV.denL E r with
    | some v, some l => some (v :: l)
    | _, _ => none
end

/-- More is known. -/
structure Env.le (E F : Env) : Prop where
  ρ : ∀ i b, E.ρ i = some b → F.ρ i = some b
  σ : ∀ i b, E.σ i = some b → F.σ i = some b
  κ : ∀ i b, E.κ i = some b → F.κ i = some b

theorem Env.le_refl (E : Env) : E.le E := ⟨fun _ _ h => h, fun _ _ h => h, fun _ _ h => h⟩
theorem Env.le_trans {E F G : Env} (h : E.le F) (k : F.le G) : E.le G :=
  ⟨fun i b x => k.ρ i b (h.ρ i b x), fun i b x => k.σ i b (h.σ i b x), fun i b x => k.κ i b (h.κ i b x)⟩

theorem Cap.den_mono {E F : Env} (h : E.le F) {c : Cap} {n : Nat} (hc : c.den E = some n) : c.den F = some n := by
  cases c with
  | k m => exact hc
  | v i => exact h.κ i n hc

mutual
theorem SV.den_mono {E F : Env} (h : E.le F) : ∀ (x : SV) (v : Value), x.den E = some v → x.den F = some v
  | .val v, w, e => by simpa only [SV.den] using e
  | .sym n, w, e => by simp only [SV.den] at e ⊢; exact h.σ _ _ e
  | .ptr id off, w, e => by
    simp only [SV.den] at e ⊢
    split at e
    · rename_i b hb; rw [h.ρ _ _ hb]; exact e
    · cases e
  | .slice id off len c, w, e => by
    simp only [SV.den] at e ⊢
    split at e
    · rename_i b n hb hn; rw [h.ρ _ _ hb, Cap.den_mono h hn]; exact e
    · cases e
  | .map id, w, e => by
    simp only [SV.den] at e ⊢
    split at e
    · rename_i b hb; rw [h.ρ _ _ hb]; exact e
    · cases e
  | .func fn f c, w, e => by
    simp only [SV.den] at e ⊢
    split at e
    · rename_i x y hx hy; rw [SV.denL_mono h _ _ hx, SV.denL_mono h _ _ hy]; exact e
    · cases e
  | .iface t v, w, e => by
    simp only [SV.den] at e ⊢
    split at e
    · rename_i x hx; rw [SV.den_mono h _ _ hx]; exact e
    · cases e
  | .agg cs, w, e => by
    simp only [SV.den] at e ⊢
    split at e
    · rename_i x hx; rw [SV.denL_mono h _ _ hx]; exact e
    · cases e
  | .tuple cs, w, e => by
    simp only [SV.den] at e ⊢
    split at e
    · rename_i x hx; rw [SV.denL_mono h _ _ hx]; exact e
    · cases e
theorem SV.denL_mono {E F : Env} (h : E.le F) : ∀ (x : List SV) (v : List Value), SV.denL E x = some v → SV.denL F x = some v
  | [], w, e => by simpa only [SV.denL] using e
  | x :: r, w, e => by
    simp only [SV.denL] at e ⊢
    split at e
    · rename_i a b ha hb; rw [SV.den_mono h _ _ ha, SV.denL_mono h _ _ hb]; exact e
    · cases e
end

theorem denL_cons {E : Env} {x : SV} {r : List SV} {l : List Value} (h : SV.denL E (x :: r) = some l) :
    ∃ v l', x.den E = some v ∧ SV.denL E r = some l' ∧ l = v :: l' := by
  simp only [SV.denL] at h
  split at h
  · rename_i a b ha hb; cases h; exact ⟨a, b, ha, hb, rfl⟩
  · cases h

theorem denL_mk {E : Env} {x : SV} {r : List SV} {v : Value} {l : List Value} (h : x.den E = some v) (k : SV.denL E r = some l) :
    SV.denL E (x :: r) = some (v :: l) := by simp only [SV.denL, h, k]

theorem denL_length {E : Env} : ∀ {xs : List SV} {l : List Value}, SV.denL E xs = some l → l.length = xs.length
  | [], l, h => by simp only [SV.denL, Option.some.injEq] at h; subst h; rfl
  | x :: r, l, h => by obtain ⟨v, l', _, h2, rfl⟩ := denL_cons h; simp [denL_length h2]

theorem denL_get {E : Env} : ∀ {xs : List SV} {l : List Value}, SV.denL E xs = some l → ∀ {i : Nat} {x : SV}, xs[i]? = some x → ∃ v, l[i]? = some v ∧ x.den E = some v
  | [], l, _, i, x, hi => by simp at hi
  | y :: r, l, h, i, x, hi => by
    obtain ⟨v, l', h1, h2, rfl⟩ := denL_cons h
    cases i with
    | zero => simp at hi; subst hi; exact ⟨v, by simp, h1⟩
    | succ i => simp at hi; obtain ⟨u, hu, hd⟩ := denL_get h2 hi; exact ⟨u, by simpa using hu, hd⟩

theorem denL_get' {E : Env} {xs : List SV} {l : List Value} (h : SV.denL E xs = some l) {i : Nat} {v : Value} (hv : l[i]? = some v) : ∃ x, xs[i]? = some x ∧ x.den E = some v := by
  have hi : i < l.length := by
    rcases Nat.lt_or_ge i l.length with h' | h'
    · exact h'
    · simp [List.getElem?_eq_none h'] at hv
  have hx : i < xs.length := by rw [← denL_length h]; exact hi
  obtain ⟨u, hu, hd⟩ := denL_get h (List.getElem?_eq_getElem hx)
  exact ⟨_, List.getElem?_eq_getElem hx, by rw [hd, ← hu, hv]⟩

theorem denL_set {E : Env} : ∀ {xs : List SV} {l : List Value}, SV.denL E xs = some l → ∀ {x : SV} {v : Value}, x.den E = some v → ∀ i, SV.denL E (xs.set i x) = some (l.set i v)
  | [], l, h, x, v, _, i => by simp only [SV.denL, Option.some.injEq] at h; subst h; simp [SV.denL]
  | y :: r, l, h, x, v, hx, i => by
    obtain ⟨u, l', h1, h2, rfl⟩ := denL_cons h
    cases i with
    | zero => simpa using denL_mk hx h2
    | succ i => simpa using denL_mk h1 (denL_set h2 hx i)

theorem denL_append {E : Env} : ∀ {xs ys : List SV} {l m : List Value}, SV.denL E xs = some l → SV.denL E ys = some m → SV.denL E (xs ++ ys) = some (l ++ m)
  | [], ys, l, m, h, k => by simp only [SV.denL, Option.some.injEq] at h; subst h; simpa using k
  | x :: r, ys, l, m, h, k => by
    obtain ⟨u, l', h1, h2, rfl⟩ := denL_cons h
    simpa using denL_mk h1 (denL_append h2 k)

theorem denL_take {E : Env} : ∀ {xs : List SV} {l : List Value} (n : Nat), SV.denL E xs = some l → SV.denL E (xs.take n) = some (l.take n)
  | [], l, n, h => by simp only [SV.denL, Option.some.injEq] at h; subst h; simp [SV.denL]
  | x :: r, l, n, h => by
    obtain ⟨u, l', h1, h2, rfl⟩ := denL_cons h
    cases n with
    | zero => simp [SV.denL]
    | succ n => simpa using denL_mk h1 (denL_take n h2)

theorem denL_drop {E : Env} : ∀ {xs : List SV} {l : List Value} (n : Nat), SV.denL E xs = some l → SV.denL E (xs.drop n) = some (l.drop n)
  | [], l, n, h => by simp only [SV.denL, Option.some.injEq] at h; subst h; simp [SV.denL]
  | x :: r, l, n, h => by
    obtain ⟨u, l', h1, h2, rfl⟩ := denL_cons h
    cases n with
    | zero => simpa using denL_mk h1 h2
    | succ n => simpa using denL_drop n h2

theorem denL_vals {E : Env} : ∀ (l : List Value), SV.denL E (l.map .val) = some l
  | [] => rfl
  | v :: r => by simpa using denL_mk (x := .val v) (by simp only [SV.den]) (denL_vals r)

/-- What a block holds. -/
inductive SObj where
  /-- cells, the first of which are told; 'wr': none of them is frozen; 'ext': none: these are all; some (i, u): there are κ i times u in all -/
  | row (cells : List SV) (elem : TypeId) (wr : Bool) (ext : Option (Nat × Nat))
  | map (entries : List (SV × SV × Nat)) (clock : Nat)
  | siter (s : ByteArray) (pos : Nat)
  | miter (m : Option Nat) (since : Nat) (seen : List Nat) (stepped : Nat)
  /-- a map whose entries lie in an order that nobody knows (the third number of an entry says nothing) -/
  | bag (entries : List (SV × SV × Nat))

/-- The kinds of unknowns. -/
inductive Sort_ where
  | bool | int (k : IntKind) | float (k : FloatKind) | str | any
  /-- this very value, which need not be looked at -/
  | is (v : Value)
  /-- a text that is none of these -/
  | strNot (l : List ByteArray)
  /-- a number from 'lo' to 'hi' -/
  | intIn (k : IntKind) (lo hi : Option Int)
  /-- a float64 that is no number -/
  | nan64
  /-- anything that stands in one cell -/
  | cell

def Sort_.fits : Sort_ → Value → Prop
  | .bool, v => ∃ b, v = .bool b
  | .int k, v => ∃ n, v = .int k n
  | .float k, v => ∃ n, v = .float k n
  | .str, v => ∃ s, v = .string s
  | .any, _ => True
  | .is u, v => v = u
  | .strNot l, v => ∃ s, v = .string s ∧ ∀ x ∈ l, s.toList ≠ x.toList
  | .intIn k lo hi, v => ∃ n, v = .int k n ∧ (∀ a, lo = some a → a ≤ n) ∧ ∀ b, hi = some b → n ≤ b
  | .nan64, v => ∃ b, v = .float .f64 b ∧ Nan64 b
  | .cell, v => v.oneCell' = true

def pureRun {α : Type} (P : Program) : Sem α → Option α
  | .pure a => some a
  | .program k => pureRun P (k P)
  | .mark _ k => pureRun P k
  | _ => none

theorem pureRun_run {α : Type} {P : Program} : ∀ {s : Sem α} {a : α}, pureRun P s = some a → ∀ w, s.run P w = .ok a w
  | .pure a, b, h, w => by simp only [pureRun, Option.some.injEq] at h; subst h; rfl
  | .program k, b, h, w => by simp only [pureRun] at h; exact pureRun_run (s := k P) h w
  | .mark _ k, b, h, w => by simp only [pureRun] at h; exact pureRun_run (s := k) h w
  | .load .., b, h, w | .store .., b, h, w | .new .., b, h, w | .shape .., b, h, w | .freeze .., b, h, w | .frozen .., b, h, w | .getObj .., b, h, w | .setObj .., b, h, w
  | .choose .., b, h, w | .sys .., b, h, w | .halt .., b, h, w => by simp [pureRun] at h

inductive ExtOp where
  | fbits | ffrom | floor | ceil | trunc | sqrt
  deriving DecidableEq

/-- What a fact speaks of. -/
inductive SOp where
  | bin (op : BinOp) (t : TypeId)
  | conv (src dst : TypeId)
  | call (f : Nat)
  /-- two whole numbers -/
  | int (op : BinOp) (k : IntKind)
  /-- two floats, compared -/
  | fcmp (op : BinOp)
  /-- two floats, reckoned with: where the outcome is no number, which one is drawn -/
  | far (op : BinOp)
  /-- two texts -/
  | str (op : BinOp)
  | un (op : UnOp)
  | i2i (k : IntKind)
  | i2f (k : FloatKind)
  | f2i (k : IntKind)
  /-- two truths -/
  | boo (op : BinOp)
  /-- a function of the library's that the model has by itself -/
  | ext (x : ExtOp)
  /-- two texts' lengths are more than a length may be -/
  | strBig
  | slen
  | sidx
  /-- a text from the second to the third -/
  | ssub
  /-- of a list's cells, how many elements of so many cells -/
  | len (sz : Nat)
  /-- of a list's cells: the cell 'off' of an element -/
  | get (sz off : Nat)
  /-- a slice's element's cell's place -/
  | addr (sz off : Nat)
  /-- a list has such an element -/
  | inb (sz : Nat)
  /-- cells, and more cells behind -/
  | catc
  | cat
  /-- a list with an element's cells, from one on, others -/
  | set (sz off : Nat)
  /-- two whole numbers, the outcome in range -/
  | intx (op : BinOp) (k : IntKind)
  | i2ix (k : IntKind)
  /-- a float that is a whole number: -0 is 0 -/
  | whole
  /-- a predicate of the user's, by name -/
  | pred (id : String) (p : List Value → Prop)
  | npred (id : String) (p : List Value → Prop)
  /-- a loop's way back does not keep what it must: the first 'n' are the head's, the others the new ones -/
  | nback (id : String) (p : List Value → Prop) (m : List Value → Nat) (n : Nat) (srts : List Sort_)
  /-- a loop is come to, and what must hold there does not -/
  | nat0 (id : String) (p : List Value → Prop) (srts : List Sort_)

def sopSem : SOp → List Value → Sem Value
  | .bin op t, [x, y] => binOp op t x y
  | .conv src dst, [x] => convert src dst x
  | .call f, vs => do
    match ← callFunc f vs.toArray with
    | .value v => pure v
    | _ => stuck "a value expected"
  | _, _ => stuck "an operation's operands"

/-- Two whole numbers of one kind. -/
def ibin (op : BinOp) (k : IntKind) (a b : Int) : Option Value :=
  match op with
  | .add => some (.int k (k.wrap (a + b)))
  | .sub => some (.int k (k.wrap (a - b)))
  | .mul => some (.int k (k.wrap (a * b)))
  | .quo => if b = 0 then none else some (.int k (k.wrap (a.tdiv b)))
  | .rem => if b = 0 then none else some (.int k (a.tmod b))
  | .and => some (.int k (k.wrap (BitVec.ofInt k.bits a &&& BitVec.ofInt k.bits b).toNat))
  | .or => some (.int k (k.wrap (BitVec.ofInt k.bits a ||| BitVec.ofInt k.bits b).toNat))
  | .xor => some (.int k (k.wrap (BitVec.ofInt k.bits a ^^^ BitVec.ofInt k.bits b).toNat))
  | .andNot => some (.int k (k.wrap (BitVec.ofInt k.bits a &&& ~~~BitVec.ofInt k.bits b).toNat))
  | .eql => some (.bool (a == b))
  | .neq => some (.bool (a != b))
  | .lss => some (.bool (a < b))
  | .leq => some (.bool (a ≤ b))
  | .gtr => some (.bool (a > b))
  | .geq => some (.bool (a ≥ b))
  | _ => none

def ishift (op : BinOp) (k : IntKind) (a b : Int) : Option Value :=
  if b < 0 then none else match op with
  | .shl => some (.int k (k.wrap (a * 2 ^ min b.toNat k.bits)))
  | .shr => some (.int k (a.fdiv (2 ^ min b.toNat k.bits)))
  | _ => none

def intV (op : BinOp) (k : IntKind) (a : Int) (k' : IntKind) (b : Int) : Option Value :=
  match op with
  | .shl | .shr => ishift op k a b
  | _ => if k = k' then ibin op k a b else none

def fcmpV (op : BinOp) (k : FloatKind) (x y : Nat) : Option Value :=
  match op with
  | .eql => some (.bool (k.format.order x y == some .eq))
  | .neq => some (.bool (k.format.order x y != some .eq))
  | .lss => some (.bool (k.format.order x y == some .lt))
  | .leq => some (.bool (k.format.order x y == some .lt || k.format.order x y == some .eq))
  | .gtr => some (.bool (k.format.order x y == some .gt))
  | .geq => some (.bool (k.format.order x y == some .gt || k.format.order x y == some .eq))
  | _ => none

def farV (op : BinOp) (k : FloatKind) (x y : Nat) : Option (Option Nat) :=
  match op with
  | .add => some (k.format.add x y)
  | .sub => some (k.format.sub x y)
  | .mul => some (k.format.mul x y)
  | .quo => some (k.format.div x y)
  | _ => none

def strV (op : BinOp) (x y : ByteArray) : Option Value :=
  match op with
  | .add => if ((x.size + y.size : Nat) : Int) > IntKind.i64.max then none else some (.string (x ++ y))
  | .eql => some (.bool (x.toList == y.toList))
  | .neq => some (.bool (!(x.toList == y.toList)))
  | .lss => some (.bool (Op.bytesLess x.toList y.toList))
  | .leq => some (.bool (Op.bytesLess x.toList y.toList || x.toList == y.toList))
  | .gtr => some (.bool (!(Op.bytesLess x.toList y.toList || x.toList == y.toList)))
  | .geq => some (.bool (!(Op.bytesLess x.toList y.toList)))
  | _ => none

def unV (op : UnOp) (x : Value) : Option Value :=
  match op, x with
  | .neg, .int k n => some (.int k (k.wrap (0 - n)))
  | .neg, .float k b => some (.float k (Op.negFloat k b))
  | .not, .bool b => some (.bool !b)
  | _, _ => none

/-- Two whole numbers, not wrapped. -/
def intxV (op : BinOp) (a b : Int) : Option Int :=
  match op with
  | .add => some (a + b)
  | .sub => some (a - b)
  | .mul => some (a * b)
  | .quo => if b = 0 then none else some (a.tdiv b)
  | .rem => if b = 0 then none else some (a.tmod b)
  | .shl => if b < 0 then none else some (a * 2 ^ b.toNat)
  | .shr => if b < 0 then none else some (a.fdiv (2 ^ b.toNat))
  | _ => none

/-- The float is that whole number; -0 is 0. -/
def WholeF (n : Int) (f : Nat) : Prop := -(2 ^ 53) ≤ n ∧ n ≤ 2 ^ 53 ∧ (f = FloatKind.f64.nearest n ∨ (n = 0 ∧ f = 2 ^ 63))

def wholeRel : List Value → Value → Prop
  | [.int .i64 n], v => ∃ f, v = .float .f64 f ∧ WholeF n f
  | _, _ => False

/-- What an operation makes of values, where it is bound to. -/
def sopFun : SOp → List Value → Option Value
  | .int op k0, [.int k a, .int k' b] => if k = k0 then intV op k a k' b else none
  | .fcmp op, [.float .f64 x, .float .f64 y] => fcmpV op .f64 x y
  | .str op, [.string x, .string y] => strV op x y
  | .un op, [x] => unV op x
  | .i2i k, [.int _ n] => some (.int k (k.wrap n))
  | .i2f k, [.int _ n] => some (.float k (k.nearest n))
  | .slen, [.string s] => some (.int .i64 s.size)
  | .boo .eql, [.bool a, .bool b] => some (.bool (a == b))
  | .boo .neq, [.bool a, .bool b] => some (.bool (!(a == b)))
  | .strBig, [.string x, .string y] => if ((x.size + y.size : Nat) : Int) > IntKind.i64.max then some (.bool true) else none
  | .sidx, [.string s, .int _ i] => if 0 ≤ i then s[i.toNat]?.map fun b => .int .u8 b.toNat else none
  | .len sz, [.agg cells] => some (.int .i64 ((cells.size / sz : Nat) : Int))
  | .get sz off, [.agg cells, .int _ i] => cells[i.toNat * sz + off]?
  | .addr sz off, [.slice (some a) _ _, .int _ i] => some (.pointer (some (a.add (i.toNat * sz + off))))
  | .inb sz, [.agg cells, .int _ i] => if 0 ≤ i ∧ i.toNat < cells.size / sz then some (.bool true) else none
  | .catc, .agg cells :: news => some (.agg (cells ++ news.toArray))
  | .cat, [.agg a, .agg b] => some (.agg (a ++ b))
  | .intx op k0, [.int k a, .int _ b] => if k = k0 then (intxV op a b).map (.int k) else none
  | .i2ix k, [.int _ n] => some (.int k n)
  | _, _ => none

/-- Of these the operation makes that. -/
structure Fact_ where
  op : SOp
  args : List SV
  res : SV

def isInN (i : Nat) : List Nat → Bool
  | [] => false
  | j :: r => bif Nat.beq i j then true else isInN i r

/-- A list of unknown length: the unknown slice, the unknown aggregate of its cells, the elements' type, their cells' sorts; the call's own, or laid before the call. -/
structure LEnt where
  s : Nat
  x : Nat
  e : TypeId
  lay : List Sort_
  own : Bool

/-- The layout of a list's cells: each a value of a sort, or a list in its turn. -/
inductive Lay where
  | sc (t : Sort_)
  | list (l : List Lay)

/-- A list with lists in it: the unknown slice, the unknown that is all that is in it. -/
structure DEnt where
  s : Nat
  x : Nat
  lay : List Lay

structure St where
  heap : List (Nat × SObj)
  next : Nat
  ncap : Nat
  lows : List (Nat × Nat)
  nsym : Nat
  sorts : List (Nat × Sort_)
  pc : List (Nat × Bool)
  /-- the package-level variables that are known by their own number -/
  gs : List Nat
  /-- unknowns that are slices of one-celled elements, laid before the call: what they hold -/
  ro : List (Nat × List Value)
  /-- unknowns that are places laid before the call: what lies there -/
  ra : List (Nat × Value)
  facts : List Fact_
  /-- lists of unknown length -/
  lists : List LEnt := []
  /-- the function that is gone through -/
  fn : Nat := 0
  /-- an outcome that cannot be: it is the user's to show -/
  bad : Bool := false
  /-- a panic is under way, with that value -/
  pan : Option SV := none
  /-- what the frame has deferred, the last first -/
  ds : List (Nat × List SV) := []
  /-- lists with lists in them, laid before the call -/
  deeps : List DEnt := []
  /-- functions in which a quotient of whole floats is claimed to leave nothing over -/
  exd : List Nat := []

def find {α : Type} (i : Nat) : List (Nat × α) → Option α
  | [] => none
  | (j, x) :: r => bif Nat.beq i j then some x else find i r

def kill {α : Type} (i : Nat) : List (Nat × α) → List (Nat × α)
  | [] => []
  | (j, x) :: r => bif Nat.beq i j then kill i r else (j, x) :: kill i r

/-- The first entry of that key, replaced. -/
def upd {α : Type} (i : Nat) (y : α) : List (Nat × α) → List (Nat × α)
  | [] => []
  | (j, x) :: r => bif Nat.beq i j then (j, y) :: r else (j, x) :: upd i y r

theorem find_cons_self {α : Type} (i : Nat) (x : α) (r : List (Nat × α)) : find i ((i, x) :: r) = some x := by simp [find]
theorem find_cons_ne {α : Type} {i j : Nat} (h : i ≠ j) (x : α) (r : List (Nat × α)) : find i ((j, x) :: r) = find i r := by
  have : Nat.beq i j = false := by rw [← Bool.not_eq_true]; exact fun e => h (Nat.eq_of_beq_eq_true e)
  simp [find, this]
theorem find_kill_self {α : Type} (i : Nat) : ∀ (r : List (Nat × α)), find i (kill i r) = none
  | [] => rfl
  | (j, x) :: r => by
    cases h : Nat.beq i j with
    | true => simp [kill, h, find_kill_self i r]
    | false => simp [kill, h, find, find_kill_self i r]
theorem find_kill_ne {α : Type} {i j : Nat} (hij : i ≠ j) : ∀ (r : List (Nat × α)), find i (kill j r) = find i r
  | [] => rfl
  | (k, x) :: r => by
    cases h : Nat.beq j k with
    | true =>
      have : j = k := Nat.eq_of_beq_eq_true h
      subst this
      simp [kill, find_cons_ne hij, find_kill_ne hij r]
    | false => simp [kill, h, find, find_kill_ne hij r]
theorem find_kill {α : Type} {i j : Nat} {r : List (Nat × α)} {x : α} (h : find i (kill j r) = some x) : i ≠ j ∧ find i r = some x := by
  by_cases e : i = j
  · subst e; rw [find_kill_self] at h; cases h
  · exact ⟨e, by rwa [find_kill_ne e] at h⟩
theorem find_upd_ne {α : Type} {i j : Nat} (hij : i ≠ j) (y : α) : ∀ (r : List (Nat × α)), find i (upd j y r) = find i r
  | [] => rfl
  | (k, x) :: r => by
    cases h : Nat.beq j k with
    | true =>
      have : j = k := Nat.eq_of_beq_eq_true h
      subst this
      simp [upd, find_cons_ne hij]
    | false => simp [upd, h, find, find_upd_ne hij y r]
theorem find_upd_self {α : Type} {i : Nat} (y : α) : ∀ {r : List (Nat × α)} {x : α}, find i r = some x → find i (upd i y r) = some y
  | [], x, h => by simp [find] at h
  | (k, z) :: r, x, h => by
    cases e : Nat.beq i k with
    | true => simp [upd, e, find]
    | false => simp only [find, e, cond_false] at h; simp [upd, e, find, find_upd_self y h]

/-- No cell of the first n is frozen. -/
def Thawed (n : Nat) (fz : Nat × Nat) : Prop := ∀ i, i < n → (decide (fz.1 ≤ i) && decide (i < fz.2)) = false

/-- A map's entries and what is told of them. -/
def MRel (E : Env) : List (SV × SV × Nat) → List MapEntry → Prop
  | [], [] => True
  | x :: xs, m :: ms => x.1.den E = some m.key ∧ x.2.1.den E = some m.val ∧ m.born = x.2.2 ∧ MRel E xs ms
  | _, _ => False

theorem MRel.mono {E F : Env} (h : E.le F) : ∀ {xs : List (SV × SV × Nat)} {ms : List MapEntry}, MRel E xs ms → MRel F xs ms
  | [], [], _ => trivial
  | _ :: _, _ :: _, ⟨a, b, c, d⟩ => ⟨SV.den_mono h _ _ a, SV.den_mono h _ _ b, c, MRel.mono h d⟩
  | [], _ :: _, k => k.elim
  | _ :: _, [], k => k.elim

/-- A map's entries, in whatever order. -/
def BRel (E : Env) (es : List (SV × SV × Nat)) (l : List MapEntry) (clock : Nat) : Prop :=
  (l.map (·.key)).Nodup ∧ (l.map (·.born)).Nodup ∧ (∀ m ∈ l, m.born < clock) ∧
  (∀ m ∈ l, ∃ e ∈ es, e.1.den E = some m.key ∧ e.2.1.den E = some m.val) ∧ ∀ e ∈ es, ∃ m ∈ l, e.1.den E = some m.key ∧ e.2.1.den E = some m.val

theorem BRel.mono {E F : Env} (h : E.le F) {es : List (SV × SV × Nat)} {l : List MapEntry} {c : Nat} (k : BRel E es l c) : BRel F es l c :=
  ⟨k.1, k.2.1, k.2.2.1, fun m hm => by obtain ⟨e, h1, h2, h3⟩ := k.2.2.2.1 m hm; exact ⟨e, h1, SV.den_mono h _ _ h2, SV.den_mono h _ _ h3⟩,
   fun e he => by obtain ⟨m, h1, h2, h3⟩ := k.2.2.2.2 e he; exact ⟨m, h1, SV.den_mono h _ _ h2, SV.den_mono h _ _ h3⟩⟩

/-- A block and what is told of it. -/
def ORel (E : Env) : SObj → Obj → Prop
  | .row cs e wr none, o => ∃ l fz, SV.denL E cs = some l ∧ o = .cells l.toArray e fz ∧ (wr = true → Thawed l.length fz)
  | .row cs e wr (some (i, u)), o => ∃ l r n fz, SV.denL E cs = some l ∧ E.κ i = some n ∧ (l ++ r).length = n * u ∧ o = .cells (l ++ r).toArray e fz ∧ (wr = true → Thawed (l ++ r).length fz)
  | .map es clock, o => ∃ l : List MapEntry, o = .map l.toArray clock ∧ MRel E es l
  | .siter s pos, o => o = .stringIter s pos
  | .miter none since seen stepped, o => o = .mapIter none since seen.toArray stepped
  | .miter (some id) since seen stepped, o => ∃ b, E.ρ id = some b ∧ o = .mapIter (some b) since seen.toArray stepped
  | .bag es, o => ∃ (l : List MapEntry) (clock : Nat), o = .map l.toArray clock ∧ BRel E es l clock

theorem ORel.mono {E F : Env} (h : E.le F) {s : SObj} {o : Obj} (k : ORel E s o) : ORel F s o := by
  cases s with
  | row cs e fz ext =>
    cases ext with
    | none => obtain ⟨l, fz, h1, h2⟩ := k; exact ⟨l, fz, SV.denL_mono h _ _ h1, h2⟩
    | some p => obtain ⟨i, u⟩ := p; obtain ⟨l, r, n, fz, h1, h2, h3, h4⟩ := k; exact ⟨l, r, n, fz, SV.denL_mono h _ _ h1, h.κ _ _ h2, h3, h4⟩
  | map es c =>
    obtain ⟨l, h1, h2⟩ := k
    exact ⟨l, h1, h2.mono h⟩
  | siter s p => exact k
  | bag es =>
    obtain ⟨l, c, h1, h2⟩ := k
    exact ⟨l, c, h1, h2.mono h⟩
  | miter m a b c =>
    cases m with
    | none => exact k
    | some id => obtain ⟨x, h1, h2⟩ := k; exact ⟨x, h.ρ _ _ h1, h2⟩

/-- What is told of the unknowns holds. -/
structure ERel (E : Env) (S : St) : Prop where
  lows : ∀ i n, find i S.lows = some n → ∃ m, E.κ i = some m ∧ n ≤ m
  sorts : ∀ i s, find i S.sorts = some s → ∃ v, E.σ i = some v ∧ s.fits v
  pc : ∀ i b, (i, b) ∈ S.pc → E.σ i = some (.bool b)
  glob : ∀ i, isInN i S.gs = true → E.ρ i = some i

/-- The world ahead, and what some unknowns stand for. -/
structure Start where
  w : World
  pins : List (Nat × Value)
  P : Program

/-- The sorts fit, each its value. -/
def fitsL : List Sort_ → List Value → Prop
  | [], [] => True
  | s :: ss, v :: vs => s.fits v ∧ fitsL ss vs
  | _, _ => False

/-- What a float operation may make. -/
def farRel (op : BinOp) : List Value → Value → Prop
  | [.float .f64 x, .float .f64 y], v => ∃ r, farV op .f64 x y = some r ∧ ((∃ b, r = some b ∧ v = .float .f64 b) ∨ (r = none ∧ ∃ b, v = .float .f64 b ∧ Nan64 b))
  | _, _ => False

/-- What a float's whole number may be. -/
def f2iRel (k : IntKind) : List Value → Value → Prop
  | [.float .f64 b], v => (∃ n, (FloatKind.f64.decode b).toInt .zero = some n ∧ k.min ≤ n ∧ n ≤ k.max ∧ v = .int k n) ∨
      ((∀ n, (FloatKind.f64.decode b).toInt .zero = some n → ¬ (k.min ≤ n ∧ n ≤ k.max)) ∧ ∃ m, v = .int k (k.wrap m))
  | _, _ => False

def intgRel (way : Ieee.Toward) (x : Nat) (v : Value) : Prop :=
  ∃ b, v = .float .f64 b ∧ ((∀ s t, FloatKind.f64.decode x ≠ .nan s t) → b = FloatKind.f64.encode ((FloatKind.f64.decode x).integral way))

/-- What a function of the model's own makes. -/
def extRel : ExtOp → List Value → Value → Prop
  | .fbits, [.float .f64 b], v => v = .int .u64 b
  | .ffrom, [.int .u64 n], v => v = .float .f64 n.toNat
  | .floor, [.float .f64 x], v => intgRel .down x v
  | .ceil, [.float .f64 x], v => intgRel .up x v
  | .trunc, [.float .f64 x], v => intgRel .zero x v
  | .sqrt, [.float .f64 x], v => ∃ b, v = .float .f64 b ∧ ∀ r, FloatKind.f64.format.sqrt x = some r → b = r
  | _, _, _ => False

/-- What a fact says. -/
def SOp.rel (w0 : Start) (op : SOp) (vs : List Value) (v : Value) : Prop :=
  match op with
  | .bin .. | .conv .. | .call _ => pureRun w0.P (sopSem op vs) = some v
  | .far op => farRel op vs v
  | .f2i k => f2iRel k vs v
  | .ext x => extRel x vs v
  | .whole => wholeRel vs v
  | .pred _ p => p vs
  | .npred _ p => ¬ p vs
  | .nback _ p m n srts => fitsL srts (vs.drop n) → p (vs.drop n) → ¬ m (vs.drop n) < m (vs.take n)
  | .nat0 _ p srts => fitsL srts vs → ¬ p vs
  | op => sopFun op vs = some v

/-- A list of unknown length, and what is told of it. -/
structure LRel (B : Nat) (w0 : Start) (E : Env) (w : World) (l : LEnt) (v : Value) (cells : Array Value) : Prop where
  s : E.σ l.s = some v
  x : E.σ l.x = some (.agg cells)
  some_ : 0 < l.lay.length
  few : cells.size / l.lay.length ≤ 140737488355328
  whole : cells.size = cells.size / l.lay.length * l.lay.length
  lay : ∀ (j : Nat) (c : Value), cells[j]? = some c → ∃ t, l.lay[j % l.lay.length]? = some t ∧ t.fits c
  own : l.own = true → w.ownsRow B l.e l.lay.length v (cells.size / l.lay.length) cells.toList
  old : l.own = false → (v = .slice none 0 0 ∧ cells = #[]) ∨ ∃ a cap, v = .slice (some a) (cells.size / l.lay.length) cap ∧ a.block < B ∧ ∀ (j : Nat) (c : Value), cells[j]? = some c → w0.w.cell? (a.add j) = some c

/-- A value in memory, and all that is in it: a list is told by the aggregate of what its cells hold. -/
inductive Deep (B : Nat) (w : World) : Lay → Value → Value → Prop
  | sc {t : Sort_} {v : Value} : t.fits v → Deep B w (.sc t) v v
  | nil {lay : List Lay} : 0 < lay.length → Deep B w (.list lay) (.slice none 0 0) (.agg #[])
  | list {lay : List Lay} {a : Addr} {cap : Nat} {raw cells : Array Value} : 0 < lay.length → cells.size / lay.length ≤ 140737488355328 → cells.size = cells.size / lay.length * lay.length → raw.size = cells.size → a.block < B →
      (∀ (j : Nat) (c : Value), raw[j]? = some c → w.cell? (a.add j) = some c) →
      (∀ (j : Nat) (t : Lay) (c x : Value), lay[j % lay.length]? = some t → raw[j]? = some c → cells[j]? = some x → Deep B w t c x) →
      Deep B w (.list lay) (.slice (some a) (cells.size / lay.length) cap) (.agg cells)

/-- A world, and what is told of it. 'B': blocks from B on are the call's own; 'G': places below G are not written; 'w0': the world ahead. -/
structure Rel (B G : Nat) (w0 : Start) (E : Env) (S : St) (w : World) : Prop where
  heap : ∀ id o, find id S.heap = some o → ∃ b x, E.ρ id = some b ∧ w.heap[b]? = some x ∧ ORel E o x
  inj : ∀ i j a b c, find i S.heap = some a → find j S.heap = some b → E.ρ i = some c → E.ρ j = some c → i = j
  newρ : ∀ i, S.next ≤ i → E.ρ i = none
  newσ : ∀ i, S.nsym ≤ i → E.σ i = none
  newκ : ∀ i, S.ncap ≤ i → E.κ i = none
  dom : ∀ i b, E.ρ i = some b → b < w.heap.size
  own : ∀ i o b, find i S.heap = some o → G ≤ i → E.ρ i = some b → B ≤ b
  base : B ≤ w.heap.size
  below : Below B w0.w w
  lows : ∀ i n, find i S.lows = some n → ∃ m, E.κ i = some m ∧ n ≤ m
  sorts : ∀ i s, find i S.sorts = some s → ∃ v, E.σ i = some v ∧ s.fits v
  pc : ∀ i b, (i, b) ∈ S.pc → E.σ i = some (.bool b)
  glob : ∀ i, isInN i S.gs = true → E.ρ i = some i
  pins : ∀ p ∈ w0.pins, E.σ p.1 = some p.2
  ro : ∀ i xs, find i S.ro = some xs → ∃ a cap, E.σ i = some (.slice (some a) xs.length cap) ∧ ∀ (j : Nat) v, xs[j]? = some v → w0.w.cell? (a.add j) = some v ∧ a.block < B
  ra : ∀ i v, find i S.ra = some v → ∃ a, E.σ i = some (.pointer (some a)) ∧ w0.w.cell? a = some v ∧ a.block < B
  deeps : ∀ d ∈ S.deeps, ∃ v x, E.σ d.s = some v ∧ E.σ d.x = some x ∧ Deep B w0.w (.list d.lay) v x
  facts : ∀ q ∈ S.facts, ∃ vs v, SV.denL E q.args = some vs ∧ q.res.den E = some v ∧ q.op.rel w0 vs v
  lists : ∀ l ∈ S.lists, ∃ v cells, LRel B w0 E w l v cells
  apart : ∀ l ∈ S.lists, l.own = true → ∀ v, E.σ l.s = some v → ∀ b, v.ownBlock = some b → (∀ id o, find id S.heap = some o → E.ρ id ≠ some b) ∧
    ∀ m ∈ S.lists, m.own = true → ∀ u, E.σ m.s = some u → u.ownBlock = some b → m.s = l.s


/-! ### What keeps the relation -/
section
variable {B G : Nat} {w0 : Start} {E : Env} {S : St} {w : World}

theorem LRel.mono {F : Env} (hE : E.le F) {l : LEnt} {v : Value} {cells : Array Value} (h : LRel B w0 E w l v cells) : LRel B w0 F w l v cells :=
  { h with s := hE.σ _ _ h.s, x := hE.σ _ _ h.x }

theorem ownsRow_keep {w w' : World} {base e size n : Nat} {v : Value} {xs : List Value} (h : w.ownsRow base e size v n xs) (hb : ∀ b, v.ownBlock = some b → w'.heap[b]? = w.heap[b]?) : w'.ownsRow base e size v n xs := by
  refine ⟨h.1, ?_⟩
  rcases h.2 with hn | ⟨g, cap, cur, rfl, h1, h2, rest⟩
  · exact .inl hn
  · exact .inr ⟨g, cap, cur, rfl, h1, by rw [hb g rfl]; exact h2, rest⟩

theorem LRel.keep {w' : World} {l : LEnt} {v : Value} {cells : Array Value} (h : LRel B w0 E w l v cells) (hb : l.own = true → ∀ b, v.ownBlock = some b → w'.heap[b]? = w.heap[b]?) : LRel B w0 E w' l v cells :=
  { h with own := fun ho => ownsRow_keep (h.own ho) (hb ho) }

theorem LRel.lt {l : LEnt} {v : Value} {cells : Array Value} (h : LRel B w0 E w l v cells) (ho : l.own = true) {b : Nat} (hb : v.ownBlock = some b) : B ≤ b ∧ b < w.heap.size := (h.own ho).lt b hb

/-- Lists in a world whose old blocks are as they were, but for one that is none of theirs. -/
theorem Rel.listsKeep (h : Rel B G w0 E S w) {w' : World} {F : Env} (hE : E.le F) (hk : ∀ l ∈ S.lists, l.own = true → ∀ v, E.σ l.s = some v → ∀ b, v.ownBlock = some b → b < w.heap.size → w'.heap[b]? = w.heap[b]?) :
    ∀ l ∈ S.lists, ∃ v cells, LRel B w0 F w' l v cells := fun l hl => by
  obtain ⟨v, cells, hr⟩ := h.lists l hl
  exact ⟨v, cells, (hr.keep fun ho b hb => hk l hl ho v hr.s b hb (hr.lt ho hb).2).mono hE⟩

theorem Rel.listAt (h : Rel B G w0 E S w) {l : LEnt} (hl : l ∈ S.lists) {v : Value} {F : Env} (hE : E.le F) (hv : F.σ l.s = some v) : E.σ l.s = some v := by
  obtain ⟨u, cells, hr⟩ := h.lists l hl
  have := hE.σ _ _ hr.s
  rw [hv] at this
  cases this
  exact hr.s

theorem Rel.env (h : Rel B G w0 E S w) : ERel E S := ⟨h.lows, h.sorts, h.pc, h.glob⟩

/-- A world that differs by draws alone. -/
theorem Rel.same (h : Rel B G w0 E S w) {w' : World} (hh : w'.heap = w.heap) (ht : w'.tape = w.tape) (ho : w'.os = w.os) (hp : w'.output = w.output) : Rel B G w0 E S w' :=
  { h with
    heap := by rw [hh]; exact h.heap
    dom := by rw [hh]; exact h.dom
    base := by rw [hh]; exact h.base
    below := ⟨ho.trans h.below.os, ht.trans h.below.tape, hp.trans h.below.output, by rw [hh]; exact h.below.size, by rw [hh]; exact h.below.block⟩
    lists := h.listsKeep E.le_refl fun _ _ _ _ _ _ _ _ => by rw [hh] }

/-- A world in which no old block is another. -/
theorem Rel.after (h : Rel B G w0 E S w) {w' : World} (k : Below w.heap.size w w') : Rel B G w0 E S w' :=
  { h with
    heap := fun id o hi => by
      obtain ⟨b, x, h1, h2, h3⟩ := h.heap id o hi
      exact ⟨b, x, h1, by rw [k.block b (h.dom id b h1)]; exact h2, h3⟩
    dom := fun i b hb => by have := h.dom i b hb; have := k.size; omega
    base := by have := h.base; have := k.size; omega
    below := h.below.trans ⟨k.os, k.tape, k.output, k.size, fun i hi => k.block i (by have := h.base; omega)⟩
    lists := h.listsKeep E.le_refl fun _ _ _ _ _ _ _ hb => k.block _ hb }

/-- A block of the call's own, written. -/
theorem Rel.wrote (h : Rel B G w0 E S w) {id b : Nat} {o o' : SObj} {x' : Obj} (hf : find id S.heap = some o) (hb : E.ρ id = some b) (hG : G ≤ id) {w' : World}
    (hs : w'.heap.size = w.heap.size) (hk : ∀ k, k ≠ b → w'.heap[k]? = w.heap[k]?) (hx : w'.heap[b]? = some x') (ho' : ORel E o' x')
    (ht : w'.tape = w.tape) (ho : w'.os = w.os) (hp : w'.output = w.output) : Rel B G w0 E { S with heap := upd id o' S.heap } w' := by
  have hB := h.own _ _ _ hf hG hb
  have live : ∀ i x, find i (upd id o' S.heap) = some x → ∃ y, find i S.heap = some y := fun i x hx => by
    by_cases e : i = id
    · subst e; exact ⟨o, hf⟩
    · exact ⟨x, by rwa [find_upd_ne e] at hx⟩
  exact
  { h with
    heap := fun i x hi => by
      by_cases e : i = id
      · subst e
        rw [find_upd_self o' hf] at hi
        cases hi
        exact ⟨b, x', hb, hx, ho'⟩
      · rw [find_upd_ne e] at hi
        obtain ⟨c, y, h1, h2, h3⟩ := h.heap i x hi
        have : c ≠ b := fun ec => e (h.inj i id x o b hi hf (ec ▸ h1) hb)
        exact ⟨c, y, h1, by rw [hk c this]; exact h2, h3⟩
    inj := fun i j a c d hi hj hi' hj' => by
      obtain ⟨y, hy⟩ := live i a hi
      obtain ⟨z, hz⟩ := live j c hj
      exact h.inj i j y z d hy hz hi' hj'
    dom := by rw [hs]; exact h.dom
    base := by rw [hs]; exact h.base
    own := fun i x c hi hg hc => by
      obtain ⟨y, hy⟩ := live i x hi
      exact h.own i y c hy hg hc
    below := h.below.trans ⟨ho, ht, hp, by omega, fun k hk' => hk k (by omega)⟩
    lists := h.listsKeep E.le_refl fun l hl ho v hv c hc _ => hk c fun e => by
      subst e
      exact (h.apart l hl ho v hv _ hc).1 id o hf hb
    apart := fun l hl ho v hv c hc => ⟨fun i x hi => by
      obtain ⟨y, hy⟩ := live i x hi
      exact (h.apart l hl ho v hv c hc).1 i y hy, (h.apart l hl ho v hv c hc).2⟩ }

/-- The environment with one place more. -/
def Env.place (E : Env) (id b : Nat) : Env := { E with ρ := fun i => bif Nat.beq i id then some b else E.ρ i }
theorem Env.place_self (E : Env) (id b : Nat) : (E.place id b).ρ id = some b := by simp [Env.place]
theorem Env.place_ne (E : Env) {i id : Nat} (b : Nat) (h : i ≠ id) : (E.place id b).ρ i = E.ρ i := by
  have : Nat.beq i id = false := by rw [← Bool.not_eq_true]; exact fun e => h (Nat.eq_of_beq_eq_true e)
  simp [Env.place, this]
theorem Env.place_le (E : Env) {id : Nat} (b : Nat) (h : E.ρ id = none) : E.le (E.place id b) :=
  ⟨fun i c hi => by
    by_cases e : i = id
    · subst e; rw [h] at hi; cases hi
    · rw [Env.place_ne E b e]; exact hi, fun _ _ h => h, fun _ _ h => h⟩

/-- A new block. -/
theorem Rel.pushed (h : Rel B G w0 E S w) {o : SObj} {x : Obj} {w' : World} (hw : w'.heap = w.heap.push x) (ht : w'.tape = w.tape) (hos : w'.os = w.os) (hp : w'.output = w.output)
    (ho : ORel (E.place S.next w.heap.size) o x) :
    E.le (E.place S.next w.heap.size) ∧ Rel B G w0 (E.place S.next w.heap.size) { S with heap := (S.next, o) :: S.heap, next := S.next + 1 } w' := by
  have hn := h.newρ S.next (Nat.le_refl _)
  have hle := E.place_le w.heap.size hn
  have old : ∀ i y, find i S.heap = some y → i ≠ S.next := fun i y hi e => by
    obtain ⟨b, _, hb, _⟩ := h.heap i y hi
    rw [e, hn] at hb; cases hb
  have hget : ∀ k, k < w.heap.size → w'.heap[k]? = w.heap[k]? := fun k hk => by rw [hw, Array.getElem?_push, if_neg (by omega)]
  refine ⟨hle, ?_⟩
  exact
  { heap := fun i y hi => by
      by_cases e : i = S.next
      · subst e
        rw [find_cons_self] at hi; cases hi
        exact ⟨w.heap.size, x, E.place_self _ _, by rw [hw]; simp, ho⟩
      · rw [find_cons_ne e] at hi
        obtain ⟨c, z, h1, h2, h3⟩ := h.heap i y hi
        exact ⟨c, z, hle.ρ _ _ h1, by rw [hget c (h.dom i c h1)]; exact h2, h3.mono hle⟩
    inj := fun i j a c d hi hj hi' hj' => by
      have fr : ∀ k y, find k ((S.next, o) :: S.heap) = some y → (E.place S.next w.heap.size).ρ k = some d → (k = S.next ∧ d = w.heap.size) ∨ (k ≠ S.next ∧ d < w.heap.size ∧ E.ρ k = some d ∧ find k S.heap = some y) := fun k y hk hk' => by
        by_cases e : k = S.next
        · subst e; rw [E.place_self] at hk'; cases hk'; exact .inl ⟨rfl, rfl⟩
        · rw [find_cons_ne e] at hk; rw [E.place_ne _ e] at hk'; exact .inr ⟨e, h.dom _ _ hk', hk', hk⟩
      rcases fr i a hi hi' with ⟨e1, e2⟩ | ⟨e1, e2, e3, e4⟩ <;> rcases fr j c hj hj' with ⟨f1, f2⟩ | ⟨f1, f2, f3, f4⟩
      · rw [e1, f1]
      · omega
      · omega
      · exact h.inj i j a c d e4 f4 e3 f3
    newρ := fun i hi => by
      have hi : S.next + 1 ≤ i := hi
      rw [E.place_ne _ (by omega)]; exact h.newρ i (by omega)
    newσ := h.newσ
    newκ := h.newκ
    dom := fun i b hb => by
      rw [hw]; simp only [Array.size_push]
      by_cases e : i = S.next
      · subst e; rw [E.place_self] at hb; cases hb; omega
      · rw [E.place_ne _ e] at hb; have := h.dom i b hb; omega
    own := fun i y b hi hg hb => by
      by_cases e : i = S.next
      · subst e; rw [E.place_self] at hb; cases hb; exact h.base
      · rw [find_cons_ne e] at hi; rw [E.place_ne _ e] at hb; exact h.own i y b hi hg hb
    base := by rw [hw]; simp only [Array.size_push]; have := h.base; omega
    below := h.below.trans ⟨hos, ht, hp, by rw [hw]; simp, fun k hk => hget k (by have := h.base; omega)⟩
    lows := h.lows
    sorts := h.sorts
    pc := h.pc
    glob := fun i hi => hle.ρ _ _ (h.glob i hi)
    pins := h.pins
    ro := h.ro
    ra := h.ra
    deeps := h.deeps
    facts := fun q hq => by obtain ⟨vs, v, h1, h2, h3⟩ := h.facts q hq; exact ⟨vs, v, SV.denL_mono hle _ _ h1, SV.den_mono hle _ _ h2, h3⟩
    lists := h.listsKeep hle fun _ _ _ _ _ _ _ hb => hget _ hb
    apart := fun l hl ho v hv c hc => by
      have hv := h.listAt hl hle hv
      obtain ⟨h1, h2⟩ := h.apart l hl ho v hv c hc
      refine ⟨fun i y hi => ?_, fun m hm hmo u hu => h2 m hm hmo u (h.listAt hm hle hu)⟩
      obtain ⟨u, cells, hr⟩ := h.lists l hl
      have hs := hr.s
      rw [hv] at hs; cases hs
      have hlt := (hr.lt ho hc).2
      by_cases e : i = S.next
      · subst e; rw [Env.place_self]; intro e; cases e; omega
      · rw [find_cons_ne e] at hi; rw [Env.place_ne _ _ e]; exact h1 i y hi }

/-- Something is known no more. -/
theorem Rel.killed (h : Rel B G w0 E S w) (id : Nat) : Rel B G w0 E { S with heap := kill id S.heap } w :=
  { h with
    heap := fun i o hi => h.heap i o (find_kill hi).2
    inj := fun i j a b c hi hj hi' hj' => h.inj i j a b c (find_kill hi).2 (find_kill hj).2 hi' hj'
    own := fun i o b hi hg hb => h.own i o b (find_kill hi).2 hg hb
    apart := fun l hl ho v hv c hc => ⟨fun i x hi => (h.apart l hl ho v hv c hc).1 i x (find_kill hi).2, (h.apart l hl ho v hv c hc).2⟩ }
end
end Go.Ev
