/- What an outcome's facts say, in plain words. -/
import Derived.Test.YtlinfpchnonbpaaGreatDoorEvLoop4
import Derived.Test.YtlinfpchnonbpaaGreatDoorEvVal
namespace Go.Ev
open Go.RowKit (Below)
mutual
def SV.pur : SV → Bool
  | .val _ => true
  | .sym _ => true
  | .agg xs => purL xs
  | .tuple xs => purL xs
  | _ => false
def purL : List SV → Bool
  | [] => true
  | x :: r => x.pur && purL r
end
mutual
def SV.at (σ : Nat → Value) : SV → Value
  | .val v => v
  | .sym n => σ n
  | .agg xs => .agg (atL σ xs).toArray
  | .tuple xs => .tuple (atL σ xs).toArray
  | _ => undef
def atL (σ : Nat → Value) : List SV → List Value
  | [] => []
  | x :: r => x.at σ :: atL σ r
end
def SV.i (σ : Nat → Value) : SV → Int
  | .val v => iv v
  | .sym n => iv (σ n)
  | _ => 0
def SV.b (σ : Nat → Value) : SV → Bool
  | .val v => bv v
  | .sym n => bv (σ n)
  | _ => false
def SV.f (σ : Nat → Value) : SV → Nat
  | .val v => fv v
  | .sym n => fv (σ n)
  | _ => 0
def SV.t (σ : Nat → Value) : SV → ByteArray
  | .val v => tv v
  | .sym n => tv (σ n)
  | _ => ByteArray.empty
def SV.c (σ : Nat → Value) : SV → Array Value
  | .val v => cv v
  | .sym n => cv (σ n)
  | .agg xs => (atL σ xs).toArray
  | _ => #[]
def sortProps (σ : Nat → Value) (n : Nat) : Sort_ → List Prop
  | .bool => [σ n = .bool (bv (σ n))]
  | .int k => [σ n = .int k (iv (σ n))]
  | .float k => [σ n = .float k (fv (σ n))]
  | .str => [σ n = .string (tv (σ n))]
  | .any => []
  | .is v => [σ n = v]
  | .strNot l => [σ n = .string (tv (σ n)), ∀ x ∈ l, (tv (σ n)).toList ≠ x.toList]
  | .intIn k lo hi => (σ n = .int k (iv (σ n))) :: ((match lo with
    | some a => [a ≤ iv (σ n)]
    | none => []) ++ (match hi with
    | some a => [iv (σ n) ≤ a]
    | none => []))
  | .nan64 => [σ n = .float .f64 (fv (σ n)), Nan64 (fv (σ n))]
  | .cell => []
def isSaid (S : St) (n : Nat) : Bool := match find n S.pc with
  | some _ => true
  | none => false
def sortsSay (σ : Nat → Value) (S : St) : Nat → List Prop
  | 0 => []
  | n + 1 => sortsSay σ S n ++ (bif isSaid S n then [] else match find n S.sorts with
    | some t => sortProps σ n t
    | none => [])
def condProp (σ : Nat → Value) (q : Fact_) (b : Bool) : Prop :=
  match q.op, q.args with
  | .int op _, [x, y] => match op, b with
    | .lss, true => x.i σ < y.i σ
    | .lss, false => y.i σ ≤ x.i σ
    | .leq, true => x.i σ ≤ y.i σ
    | .leq, false => y.i σ < x.i σ
    | .gtr, true => y.i σ < x.i σ
    | .gtr, false => x.i σ ≤ y.i σ
    | .geq, true => y.i σ ≤ x.i σ
    | .geq, false => x.i σ < y.i σ
    | .eql, true => x.i σ = y.i σ
    | .eql, false => x.i σ ≠ y.i σ
    | .neq, true => x.i σ ≠ y.i σ
    | .neq, false => x.i σ = y.i σ
    | _, _ => True
  | .fcmp op, [x, y] => match op, b with
    | .lss, true => ford (x.f σ) (y.f σ) = some .lt
    | .lss, false => ford (x.f σ) (y.f σ) ≠ some .lt
    | .gtr, true => ford (x.f σ) (y.f σ) = some .gt
    | .gtr, false => ford (x.f σ) (y.f σ) ≠ some .gt
    | .eql, true => ford (x.f σ) (y.f σ) = some .eq
    | .eql, false => ford (x.f σ) (y.f σ) ≠ some .eq
    | .neq, true => ford (x.f σ) (y.f σ) ≠ some .eq
    | .neq, false => ford (x.f σ) (y.f σ) = some .eq
    | .leq, true => ford (x.f σ) (y.f σ) = some .lt ∨ ford (x.f σ) (y.f σ) = some .eq
    | .leq, false => ford (x.f σ) (y.f σ) ≠ some .lt ∧ ford (x.f σ) (y.f σ) ≠ some .eq
    | .geq, true => ford (x.f σ) (y.f σ) = some .gt ∨ ford (x.f σ) (y.f σ) = some .eq
    | .geq, false => ford (x.f σ) (y.f σ) ≠ some .gt ∧ ford (x.f σ) (y.f σ) ≠ some .eq
    | _, _ => True
  | .boo .eql, [x, y] => (x.b σ == y.b σ) = b
  | .boo .neq, [x, y] => (x.b σ == y.b σ) = !b
  | .str .eql, [x, y] => ((x.t σ).toList == (y.t σ).toList) = b
  | .str .neq, [x, y] => ((x.t σ).toList == (y.t σ).toList) = !b
  | .str .lss, [x, y] => Op.bytesLess (x.t σ).toList (y.t σ).toList = b
  | .un .not, [x] => x.b σ = !b
  | _, _ => True
def tells (q : Fact_) : Bool :=
  match q.op, q.args with
  | .int op _, [_, _] => match op with
    | .lss | .leq | .gtr | .geq | .eql | .neq => true
    | _ => false
  | .fcmp op, [_, _] => match op with
    | .lss | .leq | .gtr | .geq | .eql | .neq => true
    | _ => false
  | .boo .eql, [_, _] => true
  | .boo .neq, [_, _] => true
  | .str .eql, [_, _] => true
  | .str .neq, [_, _] => true
  | .str .lss, [_, _] => true
  | .un .not, [_] => true
  | _, _ => false
def pcProps (σ : Nat → Value) (S : St) : List (Nat × Bool) → List Prop
  | [] => []
  | (n, b) :: r => (match defOf n S.facts with
    | some q => bif tells q then [condProp σ q b] else [bv (σ n) = b]
    | none => [bv (σ n) = b]) ++ pcProps σ S r
def factProps (σ : Nat → Value) (q : Fact_) : List Prop :=
  match q.op, q.args with
  | .int op k, [x, y] => match op with
    | .add => [q.res.i σ = k.wrap (x.i σ + y.i σ)]
    | .sub => [q.res.i σ = k.wrap (x.i σ - y.i σ)]
    | .mul => [q.res.i σ = k.wrap (x.i σ * y.i σ)]
    | .quo => [q.res.i σ = k.wrap ((x.i σ).tdiv (y.i σ))]
    | .rem => [q.res.i σ = (x.i σ).tmod (y.i σ)]
    | .lss => [q.res.b σ = decide (x.i σ < y.i σ)]
    | .leq => [q.res.b σ = decide (x.i σ ≤ y.i σ)]
    | .gtr => [q.res.b σ = decide (y.i σ < x.i σ)]
    | .geq => [q.res.b σ = decide (y.i σ ≤ x.i σ)]
    | .eql => [q.res.b σ = decide (x.i σ = y.i σ)]
    | .neq => [q.res.b σ = !decide (x.i σ = y.i σ)]
    | .shl => [q.res.i σ = k.wrap (x.i σ * 2 ^ min (y.i σ).toNat k.bits)]
    | .shr => [q.res.i σ = (x.i σ).fdiv (2 ^ min (y.i σ).toNat k.bits)]
    | op => [ibin op k (x.i σ) (y.i σ) = some (.int k (q.res.i σ))]
  | .i2i k, [x] => [q.res.i σ = k.wrap (x.i σ)]
  | .i2f k, [x] => [q.res.f σ = k.nearest (x.i σ)]
  | .f2i k, [x] => [(∃ n, (FloatKind.f64.decode (x.f σ)).toInt .zero = some n ∧ k.min ≤ n ∧ n ≤ k.max ∧ q.res.i σ = n) ∨
      (∀ n, (FloatKind.f64.decode (x.f σ)).toInt .zero = some n → ¬ (k.min ≤ n ∧ n ≤ k.max))]
  | .fcmp op, [x, y] => [fcmpV op .f64 (x.f σ) (y.f σ) = some (.bool (q.res.b σ))]
  | .far op, [x, y] => [farV op .f64 (x.f σ) (y.f σ) = some (some (q.res.f σ)) ∨ (farV op .f64 (x.f σ) (y.f σ) = some none ∧ Nan64 (q.res.f σ))]
  | .str op, [x, y] => match op with
    | .add => [q.res.t σ = x.t σ ++ y.t σ]
    | op => [strV op (x.t σ) (y.t σ) = some (.bool (q.res.b σ))]
  | .un .neg, [x] => bif x.pur && q.res.pur then [unV .neg (x.at σ) = some (q.res.at σ)] else []
  | .un .not, [x] => [q.res.b σ = !(x.b σ)]
  | .boo .eql, [x, y] => [q.res.b σ = (x.b σ == y.b σ)]
  | .boo .neq, [x, y] => [q.res.b σ = !(x.b σ == y.b σ)]
  | .ext x, args => bif purL args && q.res.pur then [extRel x (atL σ args) (q.res.at σ)] else []
  | .strBig, [x, y] => [IntKind.i64.max < (((x.t σ).size + (y.t σ).size : Nat) : Int)]
  | .slen, [x] => [q.res.i σ = (x.t σ).size]
  | .sidx, [x, y] => [0 ≤ y.i σ, (x.t σ)[(y.i σ).toNat]?.map (fun b => (b.toNat : Int)) = some (q.res.i σ)]
  | .ssub, [x, y, z] => [0 ≤ y.i σ, y.i σ ≤ z.i σ, z.i σ ≤ (x.t σ).size, q.res.t σ = (x.t σ).extract (y.i σ).toNat (z.i σ).toNat]
  | .i2s, [x] => [q.res.t σ = Utf8.encode (x.i σ)]
  | .len sz, [x] => bif x.pur then [q.res.i σ = (((x.c σ).size / sz : Nat) : Int)] else []
  | .get sz off, [x, y] => bif x.pur && q.res.pur then [(x.c σ)[(y.i σ).toNat * sz + off]? = some (q.res.at σ)] else []
  | .inb sz, [x, y] => bif x.pur then [0 ≤ y.i σ, (y.i σ).toNat < (x.c σ).size / sz] else []
  | .catc, x :: news => bif x.pur && (purL news && q.res.pur) then [q.res.c σ = x.c σ ++ (atL σ news).toArray] else []
  | .cat, [x, y] => bif x.pur && (y.pur && q.res.pur) then [q.res.c σ = x.c σ ++ y.c σ] else []
  | .set sz off, x :: i :: news => bif x.pur && (purL news && q.res.pur) then [q.res.c σ = spliceV (x.c σ) ((i.i σ).toNat * sz + off) (atL σ news)] else []
  | .rep zs, [x] => bif q.res.pur then [q.res.c σ = repV zs (x.i σ).toNat] else []
  | .intx op _, [x, y] => match op with
    | .add => [q.res.i σ = x.i σ + y.i σ]
    | .sub => [q.res.i σ = x.i σ - y.i σ]
    | .mul => [q.res.i σ = x.i σ * y.i σ]
    | .quo => [q.res.i σ = (x.i σ).tdiv (y.i σ)]
    | .rem => [q.res.i σ = (x.i σ).tmod (y.i σ)]
    | .shl => [q.res.i σ = x.i σ * 2 ^ (y.i σ).toNat]
    | .shr => [q.res.i σ = (x.i σ).fdiv (2 ^ (y.i σ).toNat)]
    | _ => []
  | .i2ix _, [x] => [q.res.i σ = x.i σ]
  | .whole, [x] => [WholeF (x.i σ) (q.res.f σ)]
  | .pred _ p, args => bif purL args then [p (atL σ args)] else []
  | .npred _ p, args => bif purL args then [¬ p (atL σ args)] else []
  | .nback _ p m n srts, args => bif purL args then [fitsL srts ((atL σ args).drop n) → p ((atL σ args).drop n) → ¬ m ((atL σ args).drop n) < m ((atL σ args).take n)] else []
  | .nat0 _ p srts, args => bif purL args then [fitsL srts (atL σ args) → ¬ p (atL σ args)] else []
  | _, _ => []
def saidOf (S : St) (q : Fact_) : Bool := tells q && (match q.res with
  | .sym n => isSaid S n
  | _ => false)
def factsSay (σ : Nat → Value) (S : St) : List Fact_ → List Prop
  | [] => []
  | q :: r => factsSay σ S r ++ (bif saidOf S q then [] else factProps σ q)
def St.says (σ : Nat → Value) (S : St) : List Prop := sortsSay σ S S.nsym ++ (factsSay σ S S.facts ++ pcProps σ S S.pc)
def imps : List Prop → Prop → Prop
  | [], q => q
  | p :: r, q => p → imps r q
theorem imps_mp : ∀ {l : List Prop} {q : Prop}, imps l q → (∀ p ∈ l, p) → q
  | [], _, h, _ => h
  | p :: _, _, h, hl => imps_mp (h (hl p List.mem_cons_self)) fun x hx => hl x (List.mem_cons_of_mem _ hx)
section
variable {E : Env}
def Env.val (E : Env) (n : Nat) : Value := (E.σ n).getD undef
theorem val_of {n : Nat} {v : Value} (h : E.σ n = some v) : E.val n = v := by simp [Env.val, h]
mutual
theorem at_den : ∀ (x : SV) (v : Value), x.pur = true → x.den E = some v → x.at E.val = v
  | .val u, v, _, h => by simp only [SV.den, Option.some.injEq] at h; simp only [SV.at]; exact h
  | .sym n, v, _, h => by simp only [SV.den] at h; simp only [SV.at]; exact val_of h
  | .agg xs, v, hp, h => by
    obtain ⟨l, hl, rfl⟩ := agg_den h
    simp only [SV.pur] at hp
    simp only [SV.at, atL_den xs l hp hl]
  | .tuple xs, v, hp, h => by
    simp only [SV.den] at h
    split at h
    · rename_i l hl
      simp only [Option.some.injEq] at h; subst h
      simp only [SV.pur] at hp
      simp only [SV.at, atL_den xs l hp hl]
    · cases h
  | .ptr _ _, _, hp, _ | .slice _ _ _ _, _, hp, _ | .map _, _, hp, _ | .func _ _ _, _, hp, _ | .iface _ _, _, hp, _ => by simp [SV.pur] at hp
theorem atL_den : ∀ (xs : List SV) (l : List Value), purL xs = true → SV.denL E xs = some l → atL E.val xs = l
  | [], l, _, h => by simp only [SV.denL, Option.some.injEq] at h; subst h; rfl
  | x :: r, l, hp, h => by
    obtain ⟨v, l', h1, h2, rfl⟩ := denL_cons h
    simp only [purL, Bool.and_eq_true] at hp
    simp only [atL, at_den x v hp.1 h1, atL_den r l' hp.2 h2]
end
theorem i_den {x : SV} {k : IntKind} {a : Int} (h : x.den E = some (.int k a)) : x.i E.val = a := by
  cases x <;> simp only [SV.den] at h
  · cases h; rfl
  · simp only [SV.i, val_of h, iv]
  all_goals (split at h <;> simp at h)
theorem b_den {x : SV} {a : Bool} (h : x.den E = some (.bool a)) : x.b E.val = a := by
  cases x <;> simp only [SV.den] at h
  · cases h; rfl
  · simp only [SV.b, val_of h, bv]
  all_goals (split at h <;> simp at h)
theorem f_den {x : SV} {k : FloatKind} {a : Nat} (h : x.den E = some (.float k a)) : x.f E.val = a := by
  cases x <;> simp only [SV.den] at h
  · cases h; rfl
  · simp only [SV.f, val_of h, fv]
  all_goals (split at h <;> simp at h)
theorem t_den {x : SV} {a : ByteArray} (h : x.den E = some (.string a)) : x.t E.val = a := by
  cases x <;> simp only [SV.den] at h
  · cases h; rfl
  · simp only [SV.t, val_of h, tv]
  all_goals (split at h <;> simp at h)
theorem c_den {x : SV} {a : Array Value} (hp : x.pur = true) (h : x.den E = some (.agg a)) : x.c E.val = a := by
  cases x <;> simp only [SV.den] at h
  · cases h; rfl
  · simp only [SV.c, val_of h, cv]
  case agg xs =>
    split at h
    · rename_i l hl
      simp only [Option.some.injEq, Value.agg.injEq] at h; subst h
      simp only [SV.pur] at hp
      simp only [SV.c, atL_den xs l hp hl]
    · cases h
  all_goals (split at h <;> simp at h)
end
end Go.Ev
namespace Go.Ev
open Go.RowKit (Below)
theorem inv_int {op : BinOp} {k : IntKind} {v1 v2 v : Value} (h : sopFun (.int op k) [v1, v2] = some v) : ∃ a k' b, v1 = .int k a ∧ v2 = .int k' b ∧ intV op k a k' b = some v := by
  match v1, v2, h with
  | .int k1 a, .int k' b, h =>
    simp only [sopFun] at h
    by_cases hk : k1 = k
    · subst hk; rw [if_pos rfl] at h; exact ⟨a, k', b, rfl, rfl, h⟩
    · rw [if_neg hk] at h; cases h
theorem inv_fcmp {op : BinOp} {v1 v2 v : Value} (h : sopFun (.fcmp op) [v1, v2] = some v) : ∃ a b, v1 = .float .f64 a ∧ v2 = .float .f64 b ∧ fcmpV op .f64 a b = some v := by
  match v1, v2, h with
  | .float .f64 a, .float .f64 b, h => exact ⟨a, b, rfl, rfl, h⟩
theorem inv_str {op : BinOp} {v1 v2 v : Value} (h : sopFun (.str op) [v1, v2] = some v) : ∃ a b, v1 = .string a ∧ v2 = .string b ∧ strV op a b = some v := by
  match v1, v2, h with
  | .string a, .string b, h => exact ⟨a, b, rfl, rfl, h⟩
theorem inv_i2i {k : IntKind} {v1 v : Value} (h : sopFun (.i2i k) [v1] = some v) : ∃ k' n, v1 = .int k' n ∧ v = .int k (k.wrap n) := by
  match v1, h with
  | .int k' n, h => exact ⟨k', n, rfl, (Option.some.inj h).symm⟩
theorem inv_i2f {k : FloatKind} {v1 v : Value} (h : sopFun (.i2f k) [v1] = some v) : ∃ k' n, v1 = .int k' n ∧ v = .float k (k.nearest n) := by
  match v1, h with
  | .int k' n, h => exact ⟨k', n, rfl, (Option.some.inj h).symm⟩
theorem inv_slen {v1 v : Value} (h : sopFun .slen [v1] = some v) : ∃ s, v1 = .string s ∧ v = .int .i64 s.size := by
  match v1, h with
  | .string s, h => exact ⟨s, rfl, (Option.some.inj h).symm⟩
theorem inv_sidx {v1 v2 v : Value} (h : sopFun .sidx [v1, v2] = some v) : ∃ s k i b, v1 = .string s ∧ v2 = .int k i ∧ 0 ≤ i ∧ s[i.toNat]? = some b ∧ v = .int .u8 (b.toNat : Int) := by
  match v1, v2, h with
  | .string s, .int k i, h =>
    simp only [sopFun] at h
    split at h
    · rename_i hk
      obtain ⟨b, hb, rfl⟩ := Option.map_eq_some_iff.1 h
      exact ⟨s, k, i, b, rfl, rfl, hk, hb, rfl⟩
    · cases h
theorem inv_ssub {v1 v2 v3 v : Value} (h : sopFun .ssub [v1, v2, v3] = some v) : ∃ s k i k' j, v1 = .string s ∧ v2 = .int k i ∧ v3 = .int k' j ∧ 0 ≤ i ∧ i ≤ j ∧ j ≤ s.size ∧ v = .string (s.extract i.toNat j.toNat) := by
  match v1, v2, v3, h with
  | .string s, .int k i, .int k' j, h =>
    simp only [sopFun] at h
    split at h
    · rename_i hk
      simp only [Option.some.injEq] at h; subst h
      exact ⟨s, k, i, k', j, rfl, rfl, rfl, hk.1, hk.2.1, hk.2.2, rfl⟩
    · cases h
theorem inv_i2s {v1 v : Value} (h : sopFun .i2s [v1] = some v) : ∃ k n, v1 = .int k n ∧ v = .string (Utf8.encode n) := by
  match v1, h with
  | .int k n, h => exact ⟨k, n, rfl, (Option.some.inj h).symm⟩
theorem inv_strBig {v1 v2 v : Value} (h : sopFun .strBig [v1, v2] = some v) : ∃ s t, v1 = .string s ∧ v2 = .string t ∧ IntKind.i64.max < ((s.size + t.size : Nat) : Int) := by
  match v1, v2, h with
  | .string s, .string t, h =>
    simp only [sopFun] at h
    split at h
    · rename_i hk; exact ⟨s, t, rfl, rfl, hk⟩
    · cases h
theorem inv_boo {op : BinOp} {v1 v2 v : Value} (h : sopFun (.boo op) [v1, v2] = some v) : ∃ a b, v1 = .bool a ∧ v2 = .bool b ∧ ((op = .eql ∧ v = .bool (a == b)) ∨ (op = .neq ∧ v = .bool (!(a == b)))) := by
  match op, v1, v2, h with
  | .eql, .bool a, .bool b, h => exact ⟨a, b, rfl, rfl, .inl ⟨rfl, (Option.some.inj h).symm⟩⟩
  | .neq, .bool a, .bool b, h => exact ⟨a, b, rfl, rfl, .inr ⟨rfl, (Option.some.inj h).symm⟩⟩
theorem inv_un {op : UnOp} {v1 v : Value} (h : sopFun (.un op) [v1] = some v) : unV op v1 = some v := h
theorem inv_len {sz : Nat} {v1 v : Value} (h : sopFun (.len sz) [v1] = some v) : ∃ a, v1 = .agg a ∧ v = .int .i64 ((a.size / sz : Nat) : Int) := by
  match v1, h with
  | .agg a, h => exact ⟨a, rfl, (Option.some.inj h).symm⟩
theorem inv_get {sz off : Nat} {v1 v2 v : Value} (h : sopFun (.get sz off) [v1, v2] = some v) : ∃ a k i, v1 = .agg a ∧ v2 = .int k i ∧ a[i.toNat * sz + off]? = some v := by
  match v1, v2, h with
  | .agg a, .int k i, h => exact ⟨a, k, i, rfl, rfl, h⟩
theorem inv_inb {sz : Nat} {v1 v2 v : Value} (h : sopFun (.inb sz) [v1, v2] = some v) : ∃ a k i, v1 = .agg a ∧ v2 = .int k i ∧ 0 ≤ i ∧ i.toNat < a.size / sz := by
  match v1, v2, h with
  | .agg a, .int k i, h =>
    simp only [sopFun] at h
    split at h
    · rename_i hk; exact ⟨a, k, i, rfl, rfl, hk⟩
    · cases h
theorem inv_catc {v1 v : Value} {r : List Value} (h : sopFun .catc (v1 :: r) = some v) : ∃ a, v1 = .agg a ∧ v = .agg (a ++ r.toArray) := by
  match v1, h with
  | .agg a, h => exact ⟨a, rfl, (Option.some.inj h).symm⟩
theorem inv_cat {v1 v2 v : Value} (h : sopFun .cat [v1, v2] = some v) : ∃ a b, v1 = .agg a ∧ v2 = .agg b ∧ v = .agg (a ++ b) := by
  match v1, v2, h with
  | .agg a, .agg b, h => exact ⟨a, b, rfl, rfl, (Option.some.inj h).symm⟩
theorem inv_set {sz off : Nat} {v1 v2 v : Value} {r : List Value} (h : sopFun (.set sz off) (v1 :: v2 :: r) = some v) : ∃ a k i, v1 = .agg a ∧ v2 = .int k i ∧ v = .agg (spliceV a (i.toNat * sz + off) r) := by
  match v1, v2, h with
  | .agg a, .int k i, h => exact ⟨a, k, i, rfl, rfl, (Option.some.inj h).symm⟩
theorem inv_rep {zs : List Value} {v1 v : Value} (h : sopFun (.rep zs) [v1] = some v) : ∃ k i, v1 = .int k i ∧ v = .agg (repV zs i.toNat) := by
  match v1, h with
  | .int k i, h => exact ⟨k, i, rfl, (Option.some.inj h).symm⟩
theorem inv_far {op : BinOp} {v1 v2 v : Value} (h : farRel op [v1, v2] v) : ∃ a b, v1 = .float .f64 a ∧ v2 = .float .f64 b ∧ ∃ r, farV op .f64 a b = some r ∧ ((∃ c, r = some c ∧ v = .float .f64 c) ∨ (r = none ∧ ∃ c, v = .float .f64 c ∧ Nan64 c)) := by
  match v1, v2, h with
  | .float .f64 a, .float .f64 b, h => exact ⟨a, b, rfl, rfl, h⟩
theorem inv_f2i {k : IntKind} {v1 v : Value} (h : f2iRel k [v1] v) : ∃ b, v1 = .float .f64 b ∧ ((∃ n, (FloatKind.f64.decode b).toInt .zero = some n ∧ k.min ≤ n ∧ n ≤ k.max ∧ v = .int k n) ∨
      ((∀ n, (FloatKind.f64.decode b).toInt .zero = some n → ¬ (k.min ≤ n ∧ n ≤ k.max)) ∧ ∃ m, v = .int k (k.wrap m))) := by
  match v1, h with
  | .float .f64 b, h => exact ⟨b, rfl, h⟩
section
variable {B G : Nat} {w0 : Start} {E : Env} {S : St} {w : World}
theorem sorts_say (hr : ERel E S) : ∀ n, ∀ p ∈ sortsSay E.val S n, p
  | 0, p, hp => by cases hp
  | n + 1, p, hp => by
    simp only [sortsSay, List.mem_append] at hp
    rcases hp with hp | hp
    · exact sorts_say hr n p hp
    · cases hsd : isSaid S n with
      | true => rw [hsd] at hp; cases hp
      | false =>
      rw [hsd] at hp
      simp only [cond_false] at hp
      split at hp
      · rename_i t ht
        obtain ⟨v, hv, hf⟩ := hr.sorts n t ht
        have e := val_of hv
        cases t with
        | bool => obtain ⟨b, rfl⟩ := hf; simp only [sortProps, List.mem_singleton] at hp; subst hp; rw [e]; rfl
        | int k => obtain ⟨b, rfl⟩ := hf; simp only [sortProps, List.mem_singleton] at hp; subst hp; rw [e]; rfl
        | float k => obtain ⟨b, rfl⟩ := hf; simp only [sortProps, List.mem_singleton] at hp; subst hp; rw [e]; rfl
        | str => obtain ⟨b, rfl⟩ := hf; simp only [sortProps, List.mem_singleton] at hp; subst hp; rw [e]; rfl
        | any => cases hp
        | «is» u => simp only [sortProps, List.mem_singleton] at hp; subst hp; rw [e]; exact hf
        | strNot l =>
          obtain ⟨b, rfl, hl⟩ := hf
          simp only [sortProps, List.mem_cons, List.not_mem_nil, or_false] at hp
          rcases hp with rfl | rfl
          · rw [e]; rfl
          · rw [e]; exact hl
        | intIn k lo hi =>
          obtain ⟨b, rfl, h1, h2⟩ := hf
          simp only [sortProps, List.mem_cons, List.mem_append] at hp
          rcases hp with rfl | hp | hp
          · rw [e]; rfl
          · split at hp
            · rename_i a; simp only [List.mem_singleton] at hp; subst hp; rw [e]; exact h1 a rfl
            · cases hp
          · split at hp
            · rename_i a; simp only [List.mem_singleton] at hp; subst hp; rw [e]; exact h2 a rfl
            · cases hp
        | nan64 =>
          obtain ⟨b, rfl, hl⟩ := hf
          simp only [sortProps, List.mem_cons, List.not_mem_nil, or_false] at hp
          rcases hp with rfl | rfl
          · rw [e]; rfl
          · rw [e]; exact hl
        | cell => cases hp
      · cases hp
theorem den1 {x : SV} {vs : List Value} (h : SV.denL E [x] = some vs) : ∃ v, x.den E = some v ∧ vs = [v] := by
  obtain ⟨v, l, h1, h2, rfl⟩ := denL_cons h
  simp only [SV.denL, Option.some.injEq] at h2; subst h2
  exact ⟨v, h1, rfl⟩
theorem den2 {x y : SV} {vs : List Value} (h : SV.denL E [x, y] = some vs) : ∃ v u, x.den E = some v ∧ y.den E = some u ∧ vs = [v, u] := by
  obtain ⟨v, l, h1, h2, rfl⟩ := denL_cons h
  obtain ⟨u, h3, rfl⟩ := den1 h2
  exact ⟨v, u, h1, h3, rfl⟩
theorem inv_intx {w0 : Start} {op : BinOp} {k0 : IntKind} {x y v : Value} (h : (SOp.intx op k0).rel w0 [x, y] v) : ∃ a k' b c, x = .int k0 a ∧ y = .int k' b ∧ intxV op a b = some c ∧ v = .int k0 c := by
  have h : sopFun (.intx op k0) [x, y] = some v := h
  match x, y, h with
  | .int k a, .int k' b, h =>
    simp only [sopFun] at h
    by_cases e : k = k0
    · subst e
      simp only [if_true] at h
      cases hx : intxV op a b with
      | none => rw [hx] at h; cases h
      | some c => rw [hx] at h; simp only [Option.map_some, Option.some.injEq] at h; exact ⟨a, k', b, c, rfl, rfl, hx, h.symm⟩
    · rw [if_neg e] at h; cases h
theorem inv_i2ix {w0 : Start} {k : IntKind} {x v : Value} (h : (SOp.i2ix k).rel w0 [x] v) : ∃ k' n, x = .int k' n ∧ v = .int k n := by
  have h : sopFun (.i2ix k) [x] = some v := h
  match x, h with
  | .int k' n, h => simp only [sopFun, Option.some.injEq] at h; exact ⟨k', n, rfl, h.symm⟩
theorem inv_whole {w0 : Start} {x v : Value} (h : SOp.whole.rel w0 [x] v) : ∃ n f, x = .int .i64 n ∧ v = .float .f64 f ∧ WholeF n f := by
  have h : wholeRel [x] v := h
  match x, h with
  | .int .i64 n, h => obtain ⟨f, h1, h2⟩ := h; exact ⟨n, f, rfl, h1, h2⟩
theorem fact_says {q : Fact_} {vs : List Value} {v : Value} (ha : SV.denL E q.args = some vs) (hv : q.res.den E = some v) (hq : q.op.rel w0 vs v) : ∀ p ∈ factProps E.val q, p := by
  obtain ⟨op, args, res⟩ := q
  simp only at ha hv hq
  intro p hp
  have arith : ∀ {k : IntKind} {c : Int}, v = .int k c → res.i E.val = c := fun e => by subst e; exact i_den hv
  have truth : ∀ {c : Bool}, v = .bool c → res.b E.val = c := fun e => by subst e; exact b_den hv
  have float : ∀ {k : FloatKind} {c : Nat}, v = .float k c → res.f E.val = c := fun e => by subst e; exact f_den hv
  have text : ∀ {c : ByteArray}, v = .string c → res.t E.val = c := fun e => by subst e; exact t_den hv
  have whole : res.pur = true → res.at E.val = v := fun e => at_den _ _ e hv
  unfold factProps at hp
  simp only at hp
  split at hp
  · -- int
    rename_i op k x y
    obtain ⟨v1, v2, h1, h2, rfl⟩ := den2 ha
    obtain ⟨a, k', b, rfl, rfl, he⟩ := inv_int hq
    have ex := i_den h1
    have ey := i_den h2
    cases op <;> simp only [List.mem_singleton] at hp <;> subst hp <;> rw [ex, ey] <;>
      simp only [intV, ibin, ishift, Option.ite_none_right_eq_some, Option.ite_none_left_eq_some, Option.some.injEq] at he <;>
      first
      | exact arith he.2.symm
      | exact arith he.2.2.symm
      | exact truth he.2.symm
      | (rw [arith he.2.symm]; rfl)
  · rename_i k x
    obtain ⟨v1, h1, rfl⟩ := den1 ha
    obtain ⟨k', n, rfl, rfl⟩ := inv_i2i hq
    simp only [List.mem_singleton] at hp; subst hp
    rw [i_den h1]; exact arith rfl
  · rename_i k x
    obtain ⟨v1, h1, rfl⟩ := den1 ha
    obtain ⟨k', n, rfl, rfl⟩ := inv_i2f hq
    simp only [List.mem_singleton] at hp; subst hp
    rw [i_den h1]; exact float rfl
  · rename_i k x
    obtain ⟨v1, h1, rfl⟩ := den1 ha
    simp only [List.mem_singleton] at hp; subst hp
    obtain ⟨b, rfl, hq⟩ := inv_f2i hq
    rw [f_den h1]
    rcases hq with ⟨n, e1, e2, e3, rfl⟩ | ⟨h, _⟩
    · exact .inl ⟨n, e1, e2, e3, arith rfl⟩
    · exact .inr h
  · -- floats compared
    rename_i op x y
    obtain ⟨v1, v2, h1, h2, rfl⟩ := den2 ha
    obtain ⟨a, b, rfl, rfl, he⟩ := inv_fcmp hq
    simp only [List.mem_singleton] at hp; subst hp
    rw [f_den h1, f_den h2]
    have : ∃ c, v = .bool c := by
      cases op <;> simp only [fcmpV, Option.some.injEq, reduceCtorEq] at he <;> exact ⟨_, he.symm⟩
    obtain ⟨c, rfl⟩ := this
    rw [truth rfl]; exact he
  · -- floats reckoned with
    rename_i op x y
    obtain ⟨v1, v2, h1, h2, rfl⟩ := den2 ha
    obtain ⟨a, b, rfl, rfl, r, he, hr⟩ := inv_far hq
    simp only [List.mem_singleton] at hp; subst hp
    rw [f_den h1, f_den h2]
    rcases hr with ⟨c, rfl, rfl⟩ | ⟨rfl, c, rfl, hn⟩
    · exact .inl (by rw [float rfl]; exact he)
    · exact .inr ⟨he, by rw [float rfl]; exact hn⟩
  · -- texts
    rename_i op x y
    obtain ⟨v1, v2, h1, h2, rfl⟩ := den2 ha
    obtain ⟨a, b, rfl, rfl, he⟩ := inv_str hq
    have cmp : op ≠ .add → ∃ c, v = .bool c := fun hne => by
      cases op <;> simp only [strV, Option.some.injEq, reduceCtorEq] at he <;> first | exact ⟨_, he.symm⟩ | exact absurd rfl hne
    split at hp
    · simp only [List.mem_singleton] at hp; subst hp
      rw [t_den h1, t_den h2]
      simp only [strV] at he
      split at he
      · cases he
      · exact text (Option.some.inj he).symm
    · rename_i hne
      simp only [List.mem_singleton] at hp; subst hp
      obtain ⟨c, rfl⟩ := cmp (fun e => hne e)
      rw [t_den h1, t_den h2, truth rfl]; exact he
  · -- one operand
    rename_i x
    obtain ⟨v1, h1, rfl⟩ := den1 ha
    have he := inv_un hq
    cases hpu : x.pur && res.pur with
    | false => rw [hpu] at hp; cases hp
    | true =>
      rw [hpu] at hp
      simp only [Bool.and_eq_true] at hpu
      simp only [cond_true, List.mem_singleton] at hp; subst hp
      rw [at_den _ _ hpu.1 h1, whole hpu.2]; exact he
  · rename_i x
    obtain ⟨v1, h1, rfl⟩ := den1 ha
    have he := inv_un hq
    simp only [List.mem_singleton] at hp; subst hp
    match v1, h1, he with
    | .bool a, h1, he =>
      simp only [unV, Option.some.injEq] at he
      rw [b_den h1]; exact truth he.symm
  · rename_i x y
    obtain ⟨v1, v2, h1, h2, rfl⟩ := den2 ha
    obtain ⟨a, b, rfl, rfl, he⟩ := inv_boo hq
    simp only [List.mem_singleton] at hp; subst hp
    rcases he with ⟨_, he⟩ | ⟨he, _⟩
    · rw [b_den h1, b_den h2]; exact truth he
    · cases he
  · rename_i x y
    obtain ⟨v1, v2, h1, h2, rfl⟩ := den2 ha
    obtain ⟨a, b, rfl, rfl, he⟩ := inv_boo hq
    simp only [List.mem_singleton] at hp; subst hp
    rcases he with ⟨he, _⟩ | ⟨_, he⟩
    · cases he
    · rw [b_den h1, b_den h2]; exact truth he
  · rename_i x
    cases hpu : purL args && res.pur with
    | false => rw [hpu] at hp; cases hp
    | true =>
      rw [hpu] at hp
      simp only [Bool.and_eq_true] at hpu
      simp only [cond_true, List.mem_singleton] at hp; subst hp
      rw [atL_den _ _ hpu.1 ha, whole hpu.2]; exact hq
  · rename_i x y
    obtain ⟨v1, v2, h1, h2, rfl⟩ := den2 ha
    obtain ⟨a, b, rfl, rfl, he⟩ := inv_strBig hq
    simp only [List.mem_singleton] at hp; subst hp
    rw [t_den h1, t_den h2]; exact he
  · rename_i x
    obtain ⟨v1, h1, rfl⟩ := den1 ha
    obtain ⟨s, rfl, rfl⟩ := inv_slen hq
    simp only [List.mem_singleton] at hp; subst hp
    rw [t_den h1]; exact arith rfl
  · rename_i x y
    obtain ⟨v1, v2, h1, h2, rfl⟩ := den2 ha
    obtain ⟨s, k, i, b, rfl, rfl, e1, e2, rfl⟩ := inv_sidx hq
    simp only [List.mem_cons, List.not_mem_nil, or_false] at hp
    rcases hp with rfl | rfl
    · rw [i_den h2]; exact e1
    · rw [i_den h2, t_den h1, e2, arith rfl]; rfl
  · rename_i x y z
    obtain ⟨v1, l1, h1, h1', rfl⟩ := denL_cons ha
    obtain ⟨v2, v3, h2, h3, rfl⟩ := den2 h1'
    obtain ⟨s, k, i, k', j, rfl, rfl, rfl, e1, e2, e3, rfl⟩ := inv_ssub hq
    simp only [List.mem_cons, List.not_mem_nil, or_false] at hp
    rw [i_den h2, i_den h3, t_den h1] at hp
    rcases hp with rfl | rfl | rfl | rfl
    · exact e1
    · exact e2
    · exact e3
    · exact t_den hv
  · rename_i x
    obtain ⟨v1, h1, rfl⟩ := den1 ha
    obtain ⟨k, n, rfl, rfl⟩ := inv_i2s hq
    simp only [List.mem_singleton] at hp; subst hp
    rw [i_den h1]; exact t_den hv
  · rename_i sz x
    obtain ⟨v1, h1, rfl⟩ := den1 ha
    obtain ⟨a, rfl, rfl⟩ := inv_len hq
    cases hpu : x.pur with
    | false => rw [hpu] at hp; cases hp
    | true =>
      rw [hpu] at hp
      simp only [cond_true, List.mem_singleton] at hp; subst hp
      rw [c_den hpu h1]; exact arith rfl
  · rename_i sz off x y
    obtain ⟨v1, v2, h1, h2, rfl⟩ := den2 ha
    obtain ⟨a, k, i, rfl, rfl, he⟩ := inv_get hq
    cases hpu : x.pur && res.pur with
    | false => rw [hpu] at hp; cases hp
    | true =>
      rw [hpu] at hp
      simp only [Bool.and_eq_true] at hpu
      simp only [cond_true, List.mem_singleton] at hp; subst hp
      rw [c_den hpu.1 h1, i_den h2, whole hpu.2]; exact he
  · rename_i sz x y
    obtain ⟨v1, v2, h1, h2, rfl⟩ := den2 ha
    obtain ⟨a, k, i, rfl, rfl, e1, e2⟩ := inv_inb hq
    cases hpu : x.pur with
    | false => rw [hpu] at hp; cases hp
    | true =>
      rw [hpu] at hp
      simp only [cond_true, List.mem_cons, List.not_mem_nil, or_false] at hp
      rcases hp with rfl | rfl
      · rw [i_den h2]; exact e1
      · rw [c_den hpu h1, i_den h2]; exact e2
  · rename_i x news
    obtain ⟨v1, l, h1, h2, rfl⟩ := denL_cons ha
    obtain ⟨a, rfl, rfl⟩ := inv_catc hq
    cases hpu : x.pur && (purL news && res.pur) with
    | false => rw [hpu] at hp; cases hp
    | true =>
      rw [hpu] at hp
      simp only [Bool.and_eq_true] at hpu
      simp only [cond_true, List.mem_singleton] at hp; subst hp
      rw [c_den hpu.1 h1, atL_den _ _ hpu.2.1 h2, c_den hpu.2.2 hv]
  · rename_i x y
    obtain ⟨v1, v2, h1, h2, rfl⟩ := den2 ha
    obtain ⟨a, b, rfl, rfl, rfl⟩ := inv_cat hq
    cases hpu : x.pur && (y.pur && res.pur) with
    | false => rw [hpu] at hp; cases hp
    | true =>
      rw [hpu] at hp
      simp only [Bool.and_eq_true] at hpu
      simp only [cond_true, List.mem_singleton] at hp; subst hp
      rw [c_den hpu.1 h1, c_den hpu.2.1 h2, c_den hpu.2.2 hv]
  · rename_i sz off x i news
    obtain ⟨v1, l1, h1, h2, rfl⟩ := denL_cons ha
    obtain ⟨v2, l2, h3, h4, rfl⟩ := denL_cons h2
    obtain ⟨a, k, j, rfl, rfl, rfl⟩ := inv_set hq
    cases hpu : x.pur && (purL news && res.pur) with
    | false => rw [hpu] at hp; cases hp
    | true =>
      rw [hpu] at hp
      simp only [Bool.and_eq_true] at hpu
      simp only [cond_true, List.mem_singleton] at hp; subst hp
      rw [c_den hpu.1 h1, i_den h3, atL_den _ _ hpu.2.1 h4, c_den hpu.2.2 hv]
  · rename_i zs x
    obtain ⟨v1, h1, rfl⟩ := den1 ha
    obtain ⟨k, j, rfl, rfl⟩ := inv_rep hq
    cases hpu : res.pur with
    | false => rw [hpu] at hp; cases hp
    | true =>
      rw [hpu] at hp
      simp only [cond_true, List.mem_singleton] at hp; subst hp
      rw [i_den h1, c_den hpu hv]
  · rename_i op k x y
    obtain ⟨v1, v2, h1, h2, rfl⟩ := den2 ha
    obtain ⟨a, k', b, c, rfl, rfl, he, rfl⟩ := inv_intx hq
    split at hp
    case h_8 => cases hp
    all_goals
      simp only [List.mem_singleton] at hp
      subst hp
      rw [i_den h1, i_den h2, arith rfl]
      simp only [intxV] at he
      first
        | exact (Option.some.inj he).symm
        | (split at he
           · cases he
           · exact (Option.some.inj he).symm)
  · rename_i k x
    obtain ⟨v1, h1, rfl⟩ := den1 ha
    obtain ⟨k', n, rfl, rfl⟩ := inv_i2ix hq
    simp only [List.mem_singleton] at hp; subst hp
    rw [i_den h1]; exact arith rfl
  · rename_i x
    obtain ⟨v1, h1, rfl⟩ := den1 ha
    obtain ⟨n, f, rfl, rfl, he⟩ := inv_whole hq
    simp only [List.mem_singleton] at hp; subst hp
    rw [i_den h1, float rfl]; exact he
  · rename_i id pr
    cases hpu : purL args with
    | false => rw [hpu] at hp; cases hp
    | true =>
      rw [hpu] at hp
      simp only [cond_true, List.mem_singleton] at hp; subst hp
      rw [atL_den _ _ hpu ha]; exact hq
  · rename_i id pr
    cases hpu : purL args with
    | false => rw [hpu] at hp; cases hp
    | true =>
      rw [hpu] at hp
      simp only [cond_true, List.mem_singleton] at hp; subst hp
      rw [atL_den _ _ hpu ha]; exact hq
  · rename_i id pr m n srts
    cases hpu : purL args with
    | false => rw [hpu] at hp; cases hp
    | true =>
      rw [hpu] at hp
      simp only [cond_true, List.mem_singleton] at hp; subst hp
      rw [atL_den _ _ hpu ha]; exact hq
  · rename_i id pr srts
    cases hpu : purL args with
    | false => rw [hpu] at hp; cases hp
    | true =>
      rw [hpu] at hp
      simp only [cond_true, List.mem_singleton] at hp; subst hp
      rw [atL_den _ _ hpu ha]; exact hq
  · cases hp
theorem facts_say (hr : Rel B G w0 E S w) : ∀ {fs : List Fact_}, (∀ q ∈ fs, q ∈ S.facts) → ∀ p ∈ factsSay E.val S fs, p
  | [], _, p, hp => by cases hp
  | q :: r, hm, p, hp => by
    simp only [factsSay, List.mem_append] at hp
    rcases hp with hp | hp
    · exact facts_say hr (fun x hx => hm x (List.mem_cons_of_mem _ hx)) p hp
    · obtain ⟨vs, v, h1, h2, h3⟩ := hr.facts q (hm q List.mem_cons_self)
      cases hsd : saidOf S q with
      | true => rw [hsd] at hp; cases hp
      | false =>
        rw [hsd] at hp
        exact fact_says h1 h2 h3 p hp
theorem condProp_ok {q : Fact_} {b : Bool} {vs : List Value} {v : Value} (ha : SV.denL E q.args = some vs) (hv : q.res.den E = some v) (hq : q.op.rel w0 vs v) (hb : v = .bool b) : condProp E.val q b := by
  subst hb
  obtain ⟨op, args, res⟩ := q
  simp only at ha hv hq
  unfold condProp
  simp only
  split
  · rename_i op k x y
    obtain ⟨v1, v2, h1, h2, rfl⟩ := den2 ha
    obtain ⟨a, k', c, rfl, rfl, he⟩ := inv_int hq
    rw [i_den h1, i_den h2]
    cases op <;> cases b <;> simp only [intV, ibin, ishift, Option.ite_none_right_eq_some, Option.ite_none_left_eq_some, Option.some.injEq, Value.bool.injEq, reduceCtorEq, and_false] at he ⊢ <;> simp only [beq_iff_eq, bne_iff_ne, decide_eq_true_eq, decide_eq_false_iff_not, beq_eq_false_iff_ne, bne_eq_false_iff_eq, Int.not_lt, Int.not_le, ne_eq, gt_iff_lt, ge_iff_le] at he ⊢ <;> exact he.2
  · rename_i op x y
    obtain ⟨v1, v2, h1, h2, rfl⟩ := den2 ha
    obtain ⟨a, c, rfl, rfl, he⟩ := inv_fcmp hq
    rw [f_den h1, f_den h2]
    have hf : FloatKind.f64.format.order a c = ford a c := rfl
    cases op <;> cases b <;> simp only [fcmpV, hf, Option.some.injEq, Value.bool.injEq, reduceCtorEq] at he ⊢ <;> simp only [beq_iff_eq, bne_iff_ne, beq_eq_false_iff_ne, bne_eq_false_iff_eq, Bool.or_eq_true, Bool.or_eq_false_iff, ne_eq] at he ⊢ <;> exact he
  · rename_i x y
    obtain ⟨v1, v2, h1, h2, rfl⟩ := den2 ha
    obtain ⟨a, c, rfl, rfl, he⟩ := inv_boo hq
    rw [b_den h1, b_den h2]
    rcases he with ⟨_, he⟩ | ⟨he, _⟩
    · exact (Value.bool.inj he).symm
    · cases he
  · rename_i x y
    obtain ⟨v1, v2, h1, h2, rfl⟩ := den2 ha
    obtain ⟨a, c, rfl, rfl, he⟩ := inv_boo hq
    rw [b_den h1, b_den h2]
    rcases he with ⟨he, _⟩ | ⟨_, he⟩
    · cases he
    · have := Value.bool.inj he; rw [this]; simp
  · rename_i x y
    obtain ⟨v1, v2, h1, h2, rfl⟩ := den2 ha
    obtain ⟨a, c, rfl, rfl, he⟩ := inv_str hq
    rw [t_den h1, t_den h2]
    simpa [strV] using he
  · rename_i x y
    obtain ⟨v1, v2, h1, h2, rfl⟩ := den2 ha
    obtain ⟨a, c, rfl, rfl, he⟩ := inv_str hq
    rw [t_den h1, t_den h2]
    simp only [strV, Option.some.injEq, Value.bool.injEq] at he
    rw [← he]; simp
  · rename_i x y
    obtain ⟨v1, v2, h1, h2, rfl⟩ := den2 ha
    obtain ⟨a, c, rfl, rfl, he⟩ := inv_str hq
    rw [t_den h1, t_den h2]
    simpa [strV] using he
  · rename_i x
    obtain ⟨v1, h1, rfl⟩ := den1 ha
    have he := inv_un hq
    match v1, h1, he with
    | .bool a, h1, he =>
      simp only [unV, Option.some.injEq, Value.bool.injEq] at he
      rw [b_den h1, ← he]; simp
  · trivial
theorem pc_say (hr : Rel B G w0 E S w) : ∀ {l : List (Nat × Bool)}, (∀ p ∈ l, p ∈ S.pc) → ∀ p ∈ pcProps E.val S l, p
  | [], _, p, hp => by cases hp
  | (n, b) :: r, hm, p, hp => by
    have hn := hr.pc n b (hm _ List.mem_cons_self)
    have hbv : bv (E.val n) = b := by rw [val_of hn]; rfl
    simp only [pcProps, List.mem_append] at hp
    rcases hp with hp | hp
    · split at hp
      · rename_i q hq
        cases htl : tells q with
        | true =>
          rw [htl] at hp
          simp only [cond_true, List.mem_singleton] at hp; subst hp
          obtain ⟨h1, h2⟩ := defOf_mem hq
          obtain ⟨vs, v, k1, k2, k3⟩ := hr.facts q h1
          have hv := k2
          rw [h2] at hv
          simp only [SV.den] at hv
          rw [hn] at hv
          exact condProp_ok k1 k2 k3 (Option.some.inj hv).symm
        | false =>
          rw [htl] at hp
          simp only [cond_false, List.mem_singleton] at hp; subst hp
          exact hbv
      · simp only [List.mem_singleton] at hp; subst hp; exact hbv
    · exact pc_say hr (fun x hx => hm x (List.mem_cons_of_mem _ hx)) p hp
theorem says_ok (hr : Rel B G w0 E S w) : ∀ p ∈ S.says E.val, p := fun p hp => by
  simp only [St.says, List.mem_append] at hp
  rcases hp with hp | hp | hp
  · exact sorts_say hr.env _ p hp
  · exact facts_say hr (fun _ h => h) p hp
  · exact pc_say hr (fun _ h => h) p hp
end
end Go.Ev
