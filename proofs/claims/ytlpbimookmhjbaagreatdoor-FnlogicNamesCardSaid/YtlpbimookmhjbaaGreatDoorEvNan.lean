/- Floats that are no numbers: compared, and reckoned with. -/
import Derived.Test.YtlpbimookmhjbaaGreatDoorEvGlob
import Derived.Laws.Cover2
namespace Go.Ev
open Go.RowKit (Below)

/-- A float64 that is told, or one that is no number. -/
def fltOf (S : St) : SV → Option (Option Nat)
  | .val (.float .f64 b) => some (some b)
  | .sym n => match find n S.sorts with
    | some .nan64 => some none
    | _ => none
  | _ => none

def FltV (v : Value) (p : Option Nat) : Prop := ∃ b, v = .float .f64 b ∧ (match p with
  | some c => b = c
  | none => Nan64 b)

def cmpNan (op : BinOp) : Option SV :=
  match op with
  | .eql | .lss | .leq | .gtr | .geq => some (.val (.bool false))
  | .neq => some (.val (.bool true))
  | _ => none

def evNanCmp (S : St) (op : BinOp) (x y : SV) : Option SV :=
  match fltOf S x, fltOf S y with
  | some none, some _ => cmpNan op
  | some (some _), some none => cmpNan op
  | _, _ => none

/-- Is the outcome no number? -/
def nanOut (op : BinOp) (a b : Option Nat) : Bool :=
  match op with
  | .add | .sub | .mul | .quo => match a, b with
    | some a, some b => match op with
      | .add => (Ieee.double.add a b).isNone
      | .sub => (Ieee.double.sub a b).isNone
      | .mul => (Ieee.double.mul a b).isNone
      | _ => (Ieee.double.div a b).isNone
    | _, _ => true
  | _ => false

def evNanArith (S : St) (op : BinOp) (x y : SV) : Option (SV × St) :=
  match fltOf S x, fltOf S y with
  | some a, some b => bif nanOut op a b then some (.sym S.nsym, { S with nsym := S.nsym + 1, sorts := (S.nsym, .nan64) :: S.sorts }) else none
  | _, _ => none

section
variable {B G : Nat} {w0 : Start} {E : Env} {S : St} {w : World} {P : Program}

theorem fltOf_ok (hr : ERel E S) {x : SV} {p : Option Nat} {v : Value} (h : fltOf S x = some p) (hx : x.den E = some v) : FltV v p := by
  unfold fltOf at h
  split at h
  · simp only [Option.some.injEq] at h; subst h
    simp only [SV.den, Option.some.injEq] at hx; subst hx
    exact ⟨_, rfl, rfl⟩
  · rename_i n
    split at h
    · rename_i hf
      simp only [Option.some.injEq] at h; subst h
      obtain ⟨u, hu, b, rfl, hb⟩ := hr.sorts _ _ hf
      simp only [SV.den] at hx; rw [hu] at hx; cases hx
      exact ⟨b, rfl, hb⟩
    · cases h
  · cases h

theorem cmpNan_ok {op : BinOp} {sv : SV} (h : cmpNan op = some sv) {t : TypeId} {a b : Nat} {ox oy : Operand} (hn : Ieee.double.order a b = none) :
    Quiet P E sv (do eqGuard op t ox oy (.float .f64 a) (.float .f64 b); binOp op t (.float .f64 a) (.float .f64 b)) := by
  have hf : FloatKind.f64.format.order a b = none := hn
  cases op <;> simp only [cmpNan, Option.some.injEq, reduceCtorEq] at h <;> subst h
  · exact .mk (v := .bool false) (by simp only [SV.den]) fun w => by simp [eqGuard, binOp_float_cmp_eql, hf]
  · exact .mk (v := .bool true) (by simp only [SV.den]) fun w => by simp [eqGuard, binOp_float_cmp_neq, hf]
  · exact .mk (v := .bool false) (by simp only [SV.den]) fun w => by simp [eqGuard, binOp_float_cmp_lss, hf]
  · exact .mk (v := .bool false) (by simp only [SV.den]) fun w => by simp [eqGuard, binOp_float_cmp_leq, hf]
  · exact .mk (v := .bool false) (by simp only [SV.den]) fun w => by simp [eqGuard, binOp_float_cmp_gtr, hf]
  · exact .mk (v := .bool false) (by simp only [SV.den]) fun w => by simp [eqGuard, binOp_float_cmp_geq, hf]

theorem evNanCmp_ok (hr : ERel E S) {op : BinOp} {t : TypeId} {x y sv : SV} {ox oy : Operand} {vx vy : Value} (h : evNanCmp S op x y = some sv) (hx : x.den E = some vx) (hy : y.den E = some vy) :
    Quiet P E sv (do eqGuard op t ox oy vx vy; binOp op t vx vy) := by
  unfold evNanCmp at h
  split at h
  · rename_i p h1 h2
    obtain ⟨a, rfl, ha⟩ := fltOf_ok hr h1 hx
    obtain ⟨b, rfl, _⟩ := fltOf_ok hr h2 hy
    exact cmpNan_ok h (order_nan ha b).1
  · rename_i p h1 h2
    obtain ⟨a, rfl, _⟩ := fltOf_ok hr h1 hx
    obtain ⟨b, rfl, hb⟩ := fltOf_ok hr h2 hy
    exact cmpNan_ok h (order_nan hb a).2
  · cases h

theorem nan_answer (t : Nat) : Nan64 ((t % 2) * 2 ^ 63 + 0x7ff0000000000000 + 1 + (t / 2) % (2 ^ 52 - 1)) := by
  unfold Nan64
  have h1 : Ieee.double.infRung = 2047 * 2 ^ 52 := rfl
  have h2 : Ieee.double.signWeight = 2 ^ 63 := rfl
  rw [h1, h2]
  have hr : (t / 2) % (2 ^ 52 - 1) < 2 ^ 52 - 1 := Nat.mod_lt _ (by decide)
  generalize (t / 2) % (2 ^ 52 - 1) = r at hr
  rcases Nat.mod_two_eq_zero_or_one t with h | h <;> rw [h] <;> omega

theorem nanOut_none {op : BinOp} {a b : Option Nat} (h : nanOut op a b = true) {x y : Nat} (hx : FltV (.float .f64 x) a) (hy : FltV (.float .f64 y) b) (t : TypeId) :
    binOp op t (.float .f64 x) (.float .f64 y) = (do pure (.float .f64 (← choose (.nanBits .f64 x y)))) := by
  obtain ⟨x', e, hx⟩ := hx
  cases e
  obtain ⟨y', e, hy⟩ := hy
  cases e
  have key : ∀ r : Option Nat, r = none → (match r with
      | some r => (pure (.float .f64 r) : Sem Value)
      | none => do pure (.float .f64 (← choose (.nanBits .f64 x y)))) = (do pure (.float .f64 (← choose (.nanBits .f64 x y)))) := fun r hr => by subst hr; rfl
  have none_of : ∀ f : Nat → Nat → Option Nat, (∀ n, Nan64 n → ∀ m, f n m = none ∧ f m n = none) → (∀ p q, a = some p → b = some q → (f p q).isNone = true) → f x y = none := fun f hf hc => by
    cases a with
    | none => exact (hf x hx y).1
    | some p =>
      cases b with
      | none => exact (hf y hy x).2
      | some q =>
        simp only at hx hy
        subst hx hy
        simpa using hc _ _ rfl rfl
  cases op <;> simp only [nanOut, Bool.false_eq_true] at h
  · have e := none_of Ieee.double.add (fun n hn m => add_nan hn m) (fun p q hp hq => by subst hp hq; simpa using h)
    show Op.floatArith .add .f64 x y = _
    simp only [Op.floatArith, pure_bind]
    exact key _ e
  · have e := none_of Ieee.double.sub (fun n hn m => sub_nan hn m) (fun p q hp hq => by subst hp hq; simpa using h)
    show Op.floatArith .sub .f64 x y = _
    simp only [Op.floatArith, pure_bind]
    exact key _ e
  · have e := none_of Ieee.double.mul (fun n hn m => mul_nan hn m) (fun p q hp hq => by subst hp hq; simpa using h)
    show Op.floatArith .mul .f64 x y = _
    simp only [Op.floatArith, pure_bind]
    exact key _ e
  · have e := none_of Ieee.double.div (fun n hn m => div_nan hn m) (fun p q hp hq => by subst hp hq; simpa using h)
    show Op.floatArith .quo .f64 x y = _
    simp only [Op.floatArith, pure_bind]
    exact key _ e

theorem evNanArith_ok (hr : Rel B G w0 E S w) {op : BinOp} {t : TypeId} {x y sv : SV} {S' : St} {ox oy : Operand} {vx vy : Value} (h : evNanArith S op x y = some (sv, S')) (hx : x.den E = some vx) (hy : y.den E = some vy) :
    Does B G w0 P E sv S' (do eqGuard op t ox oy vx vy; binOp op t vx vy) w := by
  unfold evNanArith at h
  split at h
  · rename_i a b h1 h2
    cases hn : nanOut op a b with
    | false => rw [hn] at h; cases h
    | true =>
      rw [hn] at h
      simp only [cond_true, Option.some.injEq, Prod.mk.injEq] at h
      obtain ⟨rfl, rfl⟩ := h
      have f1 := fltOf_ok hr.env h1 hx
      have f2 := fltOf_ok hr.env h2 hy
      obtain ⟨u, rfl, _⟩ := id f1
      obtain ⟨v, rfl, _⟩ := id f2
      have hg : eqGuard op t ox oy (.float .f64 u) (.float .f64 v) = pure () := by cases op <;> rfl
      have hrun : (do eqGuard op t ox oy (.float .f64 u) (.float .f64 v); binOp op t (.float .f64 u) (.float .f64 v) : Sem Value).run P w =
          .ok (.float .f64 ((Question.nanBits .f64 u v).cut (w.tape w.drawn (.nanBits .f64 u v)))) { w with drawn := w.drawn + 1 } := by
        rw [hg, nanOut_none hn f1 f2 t]
        simp [Question.forced]
      obtain ⟨k1, k2⟩ := (rel_drew hr).newSym (.float .f64 ((Question.nanBits .f64 u v).cut (w.tape w.drawn (.nanBits .f64 u v))))
      refine ⟨_, _, _, k1, ?_, by simp only [SV.den]; exact Env.unk_self _ _ _, hrun⟩
      exact
      { k2 with
        sorts := fun i s hi => by
          by_cases e : i = S.nsym
          · subst e
            rw [find_cons_self] at hi; cases hi
            exact ⟨_, Env.unk_self _ _ _, _, rfl, nan_answer _⟩
          · rw [find_cons_ne e] at hi
            exact k2.sorts i s hi }
  · cases h
end
end Go.Ev
