/- What an outcome's facts say, in plain words. -/
import Derived.Test.YtdihaemeipdfgaaGreatDoorEvLoop4
namespace Go.Ev
open Go.RowKit (Below)

def iv : Value → Int
  | .int _ n => n
  | _ => 0
def bv : Value → Bool
  | .bool b => b
  | _ => false
def fv : Value → Nat
  | .float _ b => b
  | _ => 0
def tv : Value → ByteArray
  | .string s => s
  | _ => ByteArray.empty
def cv : Value → Array Value
  | .agg c => c
  | _ => #[]

mutual
def SV.pur : SV → Bool
  | .val _ => true
  | .sym _ => true
  | .agg xs => purL xs
  | .tuple xs => purL xs
  | _ => false
def purL : List SV → Bool
  | [] => true
  | x :: r => x.pur && purL r
end

mutual
def SV.at (σ : Nat → Value) : SV → Value
  | .val v => v
  | .sym n => σ n
  | .agg xs => .agg (atL σ xs).toArray
  | .tuple xs => .tuple (atL σ xs).toArray
  | _ => undef
def atL (σ : Nat → Value) : List SV → List Value
  | [] => []
  | x :: r => x.at σ :: atL σ r
end

def SV.i (σ : Nat → Value) : SV → Int
  | .val v => iv v
  | .sym n => iv (σ n)
  | _ => 0
def SV.b (σ : Nat → Value) : SV → Bool
  | .val v => bv v
  | .sym n => bv (σ n)
  | _ => false
def SV.f (σ : Nat → Value) : SV → Nat
  | .val v => fv v
  | .sym n => fv (σ n)
  | _ => 0
def SV.t (σ : Nat → Value) : SV → ByteArray
  | .val v => tv v
  | .sym n => tv (σ n)
  | _ => ByteArray.empty
def SV.c (σ : Nat → Value) : SV → Array Value
  | .val v => cv v
  | .sym n => cv (σ n)
  | .agg xs => (atL σ xs).toArray
  | _ => #[]

def sortProps (σ : Nat → Value) (n : Nat) : Sort_ → List Prop
  | .bool => [σ n = .bool (bv (σ n))]
  | .int k => [σ n = .int k (iv (σ n))]
  | .float k => [σ n = .float k (fv (σ n))]
  | .str => [σ n = .string (tv (σ n))]
  | .any => []
  | .is v => [σ n = v]
  | .strNot l => [σ n = .string (tv (σ n)), ∀ x ∈ l, (tv (σ n)).toList ≠ x.toList]
  | .intIn k lo hi => (σ n = .int k (iv (σ n))) :: ((match lo with
    | some a => [a ≤ iv (σ n)]
    | none => []) ++ (match hi with
    | some a => [iv (σ n) ≤ a]
    | none => []))
  | .nan64 => [σ n = .float .f64 (fv (σ n)), Nan64 (fv (σ n))]
  | .cell => []

/-- A truth that is known: of it nothing more is said. -/
def isSaid (S : St) (n : Nat) : Bool := match find n S.pc with
  | some _ => true
  | none => false

def sortsSay (σ : Nat → Value) (S : St) : Nat → List Prop
  | 0 => []
  | n + 1 => sortsSay σ S n ++ (bif isSaid S n then [] else match find n S.sorts with
    | some t => sortProps σ n t
    | none => [])

def defOf (n : Nat) : List Fact_ → Option Fact_
  | [] => none
  | q :: r => match q.res with
    | .sym m => bif Nat.beq n m then some q else defOf n r
    | _ => defOf n r

def ford (x y : Nat) : Option Ordering := Ieee.double.order x y

/-- What a truth says that an operation made. -/
def condProp (σ : Nat → Value) (q : Fact_) (b : Bool) : Prop :=
  match q.op, q.args with
  | .int op _, [x, y] => match op, b with
    | .lss, true => x.i σ < y.i σ
    | .lss, false => y.i σ ≤ x.i σ
    | .leq, true => x.i σ ≤ y.i σ
    | .leq, false => y.i σ < x.i σ
    | .gtr, true => y.i σ < x.i σ
    | .gtr, false => x.i σ ≤ y.i σ
    | .geq, true => y.i σ ≤ x.i σ
    | .geq, false => x.i σ < y.i σ
    | .eql, true => x.i σ = y.i σ
    | .eql, false => x.i σ ≠ y.i σ
    | .neq, true => x.i σ ≠ y.i σ
    | .neq, false => x.i σ = y.i σ
    | _, _ => True
  | .fcmp op, [x, y] => match op, b with
    | .lss, true => ford (x.f σ) (y.f σ) = some .lt
    | .lss, false => ford (x.f σ) (y.f σ) ≠ some .lt
    | .gtr, true => ford (x.f σ) (y.f σ) = some .gt
    | .gtr, false => ford (x.f σ) (y.f σ) ≠ some .gt
    | .eql, true => ford (x.f σ) (y.f σ) = some .eq
    | .eql, false => ford (x.f σ) (y.f σ) ≠ some .eq
    | .neq, true => ford (x.f σ) (y.f σ) ≠ some .eq
    | .neq, false => ford (x.f σ) (y.f σ) = some .eq
    | .leq, true => ford (x.f σ) (y.f σ) = some .lt ∨ ford (x.f σ) (y.f σ) = some .eq
    | .leq, false => ford (x.f σ) (y.f σ) ≠ some .lt ∧ ford (x.f σ) (y.f σ) ≠ some .eq
    | .geq, true => ford (x.f σ) (y.f σ) = some .gt ∨ ford (x.f σ) (y.f σ) = some .eq
    | .geq, false => ford (x.f σ) (y.f σ) ≠ some .gt ∧ ford (x.f σ) (y.f σ) ≠ some .eq
    | _, _ => True
  | .boo .eql, [x, y] => (x.b σ == y.b σ) = b
  | .boo .neq, [x, y] => (x.b σ == y.b σ) = !b
  | .str .eql, [x, y] => ((x.t σ).toList == (y.t σ).toList) = b
  | .str .neq, [x, y] => ((x.t σ).toList == (y.t σ).toList) = !b
  | .str .lss, [x, y] => Op.bytesLess (x.t σ).toList (y.t σ).toList = b
  | .un .not, [x] => x.b σ = !b
  | _, _ => True

/-- Does it say by itself what the truth means? -/
def tells (q : Fact_) : Bool :=
  match q.op, q.args with
  | .int op _, [_, _] => match op with
    | .lss | .leq | .gtr | .geq | .eql | .neq => true
    | _ => false
  | .fcmp op, [_, _] => match op with
    | .lss | .leq | .gtr | .geq | .eql | .neq => true
    | _ => false
  | .boo .eql, [_, _] => true
  | .boo .neq, [_, _] => true
  | .str .eql, [_, _] => true
  | .str .neq, [_, _] => true
  | .str .lss, [_, _] => true
  | .un .not, [_] => true
  | _, _ => false

def pcProps (σ : Nat → Value) (S : St) : List (Nat × Bool) → List Prop
  | [] => []
  | (n, b) :: r => (match defOf n S.facts with
    | some q => bif tells q then [condProp σ q b] else [bv (σ n) = b]
    | none => [bv (σ n) = b]) ++ pcProps σ S r

/-- What a fact says. -/
def factProps (σ : Nat → Value) (q : Fact_) : List Prop :=
  match q.op, q.args with
  | .int op k, [x, y] => match op with
    | .add => [q.res.i σ = k.wrap (x.i σ + y.i σ)]
    | .sub => [q.res.i σ = k.wrap (x.i σ - y.i σ)]
    | .mul => [q.res.i σ = k.wrap (x.i σ * y.i σ)]
    | .quo => [q.res.i σ = k.wrap ((x.i σ).tdiv (y.i σ))]
    | .rem => [q.res.i σ = (x.i σ).tmod (y.i σ)]
    | .lss => [q.res.b σ = decide (x.i σ < y.i σ)]
    | .leq => [q.res.b σ = decide (x.i σ ≤ y.i σ)]
    | .gtr => [q.res.b σ = decide (y.i σ < x.i σ)]
    | .geq => [q.res.b σ = decide (y.i σ ≤ x.i σ)]
    | .eql => [q.res.b σ = decide (x.i σ = y.i σ)]
    | .neq => [q.res.b σ = !decide (x.i σ = y.i σ)]
    | .shl => [q.res.i σ = k.wrap (x.i σ * 2 ^ min (y.i σ).toNat k.bits)]
    | .shr => [q.res.i σ = (x.i σ).fdiv (2 ^ min (y.i σ).toNat k.bits)]
    | op => [ibin op k (x.i σ) (y.i σ) = some (.int k (q.res.i σ))]
  | .i2i k, [x] => [q.res.i σ = k.wrap (x.i σ)]
  | .i2f k, [x] => [q.res.f σ = k.nearest (x.i σ)]
  | .f2i k, [x] => [(∃ n, (FloatKind.f64.decode (x.f σ)).toInt .zero = some n ∧ k.min ≤ n ∧ n ≤ k.max ∧ q.res.i σ = n) ∨
      (∀ n, (FloatKind.f64.decode (x.f σ)).toInt .zero = some n → ¬ (k.min ≤ n ∧ n ≤ k.max))]
  | .fcmp op, [x, y] => [fcmpV op .f64 (x.f σ) (y.f σ) = some (.bool (q.res.b σ))]
  | .far op, [x, y] => [farV op .f64 (x.f σ) (y.f σ) = some (some (q.res.f σ)) ∨ (farV op .f64 (x.f σ) (y.f σ) = some none ∧ Nan64 (q.res.f σ))]
  | .str op, [x, y] => match op with
    | .add => [q.res.t σ = x.t σ ++ y.t σ]
    | op => [strV op (x.t σ) (y.t σ) = some (.bool (q.res.b σ))]
  | .un .neg, [x] => bif x.pur && q.res.pur then [unV .neg (x.at σ) = some (q.res.at σ)] else []
  | .un .not, [x] => [q.res.b σ = !(x.b σ)]
  | .boo .eql, [x, y] => [q.res.b σ = (x.b σ == y.b σ)]
  | .boo .neq, [x, y] => [q.res.b σ = !(x.b σ == y.b σ)]
  | .ext x, args => bif purL args && q.res.pur then [extRel x (atL σ args) (q.res.at σ)] else []
  | .strBig, [x, y] => [IntKind.i64.max < (((x.t σ).size + (y.t σ).size : Nat) : Int)]
  | .slen, [x] => [q.res.i σ = (x.t σ).size]
  | .len sz, [x] => bif x.pur then [q.res.i σ = (((x.c σ).size / sz : Nat) : Int)] else []
  | .get sz off, [x, y] => bif x.pur && q.res.pur then [(x.c σ)[(y.i σ).toNat * sz + off]? = some (q.res.at σ)] else []
  | .inb sz, [x, y] => bif x.pur then [0 ≤ y.i σ, (y.i σ).toNat < (x.c σ).size / sz] else []
  | .catc, x :: news => bif x.pur && (purL news && q.res.pur) then [q.res.c σ = x.c σ ++ (atL σ news).toArray] else []
  | .cat, [x, y] => bif x.pur && (y.pur && q.res.pur) then [q.res.c σ = x.c σ ++ y.c σ] else []
  | .pred _ p, args => bif purL args then [p (atL σ args)] else []
  | .npred _ p, args => bif purL args then [¬ p (atL σ args)] else []
  | .nback _ p m n srts, args => bif purL args then [fitsL srts ((atL σ args).drop n) → p ((atL σ args).drop n) → ¬ m ((atL σ args).drop n) < m ((atL σ args).take n)] else []
  | .nat0 _ p srts, args => bif purL args then [fitsL srts (atL σ args) → ¬ p (atL σ args)] else []
  | _, _ => []

/-- Is it said among the truths? -/
def saidOf (S : St) (q : Fact_) : Bool := tells q && (match q.res with
  | .sym n => isSaid S n
  | _ => false)

def factsSay (σ : Nat → Value) (S : St) : List Fact_ → List Prop
  | [] => []
  | q :: r => factsSay σ S r ++ (bif saidOf S q then [] else factProps σ q)

def St.says (σ : Nat → Value) (S : St) : List Prop := sortsSay σ S S.nsym ++ (factsSay σ S S.facts ++ pcProps σ S S.pc)

/-- All of these, then that. -/
def imps : List Prop → Prop → Prop
  | [], q => q
  | p :: r, q => p → imps r q

theorem imps_mp : ∀ {l : List Prop} {q : Prop}, imps l q → (∀ p ∈ l, p) → q
  | [], _, h, _ => h
  | p :: _, _, h, hl => imps_mp (h (hl p List.mem_cons_self)) fun x hx => hl x (List.mem_cons_of_mem _ hx)

section
variable {E : Env}

/-- The values that the unknowns stand for. -/
def Env.val (E : Env) (n : Nat) : Value := (E.σ n).getD undef

theorem val_of {n : Nat} {v : Value} (h : E.σ n = some v) : E.val n = v := by simp [Env.val, h]

mutual
theorem at_den : ∀ (x : SV) (v : Value), x.pur = true → x.den E = some v → x.at E.val = v
  | .val u, v, _, h => by simp only [SV.den, Option.some.injEq] at h; simp only [SV.at]; exact h
  | .sym n, v, _, h => by simp only [SV.den] at h; simp only [SV.at]; exact val_of h
  | .agg xs, v, hp, h => by
    obtain ⟨l, hl, rfl⟩ := agg_den h
    simp only [SV.pur] at hp
    simp only [SV.at, atL_den xs l hp hl]
  | .tuple xs, v, hp, h => by
    simp only [SV.den] at h
    split at h
    · rename_i l hl
      simp only [Option.some.injEq] at h; subst h
      simp only [SV.pur] at hp
      simp only [SV.at, atL_den xs l hp hl]
    · cases h
  | .ptr _ _, _, hp, _ | .slice _ _ _ _, _, hp, _ | .map _, _, hp, _ | .func _ _ _, _, hp, _ | .iface _ _, _, hp, _ => by simp [SV.pur] at hp
theorem atL_den : ∀ (xs : List SV) (l : List Value), purL xs = true → SV.denL E xs = some l → atL E.val xs = l
  | [], l, _, h => by simp only [SV.denL, Option.some.injEq] at h; subst h; rfl
  | x :: r, l, hp, h => by
    obtain ⟨v, l', h1, h2, rfl⟩ := denL_cons h
    simp only [purL, Bool.and_eq_true] at hp
    simp only [atL, at_den x v hp.1 h1, atL_den r l' hp.2 h2]
end

theorem i_den {x : SV} {k : IntKind} {a : Int} (h : x.den E = some (.int k a)) : x.i E.val = a := by
  cases x <;> simp only [SV.den] at h
  · cases h; rfl
  · simp only [SV.i, val_of h, iv]
  all_goals (split at h <;> simp at h)
theorem b_den {x : SV} {a : Bool} (h : x.den E = some (.bool a)) : x.b E.val = a := by
  cases x <;> simp only [SV.den] at h
  · cases h; rfl
  · simp only [SV.b, val_of h, bv]
  all_goals (split at h <;> simp at h)
theorem f_den {x : SV} {k : FloatKind} {a : Nat} (h : x.den E = some (.float k a)) : x.f E.val = a := by
  cases x <;> simp only [SV.den] at h
  · cases h; rfl
  · simp only [SV.f, val_of h, fv]
  all_goals (split at h <;> simp at h)
theorem t_den {x : SV} {a : ByteArray} (h : x.den E = some (.string a)) : x.t E.val = a := by
  cases x <;> simp only [SV.den] at h
  · cases h; rfl
  · simp only [SV.t, val_of h, tv]
  all_goals (split at h <;> simp at h)
theorem c_den {x : SV} {a : Array Value} (hp : x.pur = true) (h : x.den E = some (.agg a)) : x.c E.val = a := by
  cases x <;> simp only [SV.den] at h
  · cases h; rfl
  · simp only [SV.c, val_of h, cv]
  case agg xs =>
    split at h
    · rename_i l hl
      simp only [Option.some.injEq, Value.agg.injEq] at h; subst h
      simp only [SV.pur] at hp
      simp only [SV.c, atL_den xs l hp hl]
    · cases h
  all_goals (split at h <;> simp at h)
end
end Go.Ev
