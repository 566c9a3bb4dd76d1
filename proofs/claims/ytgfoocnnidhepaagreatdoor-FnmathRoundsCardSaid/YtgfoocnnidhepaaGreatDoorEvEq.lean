/- Equality of structs: fields that are known, and at most one pair of floats that is not. -/
import Derived.Test.YtgfoocnnidhepaaGreatDoorEvDeep
import Derived.Laws.StructEq
namespace Go.Ev
open Go.RowKit (Below)
section
variable {B G : Nat} {w0 : Start} {E : Env} {S : St} {w : World} {P : Program}
def cellsS : SV → Option (List SV)
  | .agg xs => some xs
  | .val (.agg a) => some (a.toList.map SV.val)
  | _ => none
theorem denL_valsE (l : List Value) : SV.denL E (l.map SV.val) = some l := by
  induction l with
  | nil => rfl
  | cons v l ih => simp only [List.map_cons, SV.denL, SV.den, ih]
theorem cellsS_ok {x : SV} {xs : List SV} {v : Value} (h : cellsS x = some xs) (hx : x.den E = some v) : ∃ l, SV.denL E xs = some l ∧ v = .agg l.toArray := by
  unfold cellsS at h
  split at h
  · simp only [Option.some.injEq] at h; subst h
    simp only [SV.den] at hx
    split at hx
    · rename_i l hl; simp only [Option.some.injEq] at hx; exact ⟨l, hl, hx.symm⟩
    · cases hx
  · simp only [Option.some.injEq] at h; subst h
    simp only [SV.den, Option.some.injEq] at hx
    exact ⟨_, denL_valsE _, by rw [← hx]⟩
  · cases h
theorem denL_getE : ∀ {xs : List SV} {l : List Value} {i : Nat} {x : SV}, SV.denL E xs = some l → xs[i]? = some x → ∃ v, l[i]? = some v ∧ x.den E = some v
  | [], _, _, _, _, h => by simp at h
  | a :: xs, l, i, x, h, hx => by
    simp only [SV.denL] at h
    split at h
    · rename_i v r hv hr
      simp only [Option.some.injEq] at h; subst h
      cases i with
      | zero => simp only [List.getElem?_cons_zero, Option.some.injEq] at hx; subst hx; exact ⟨v, rfl, hv⟩
      | succ i => simp only [List.getElem?_cons_succ] at hx ⊢; exact denL_getE hr hx
    · cases h
def eqV (d : TypeDesc) (a b : Value) : Option Bool :=
  match d, a, b with
  | .bool, .bool a, .bool b => some (a == b)
  | .int _, .int k a, .int k' b => bif decide (k = k') then some (a == b) else none
  | .string, .string a, .string b => some (a == b)
  | .float _, .float k a, .float k' b => bif decide (k = k') then some (Op.floatEq k a b) else none
  | _, _, _ => none
theorem eqV_ok {t : TypeId} {d : TypeDesc} (hu : P.underlying t = some d) {a b : Value} {c : Bool} (h : eqV d a b = some c) (n : Nat) (w : World) : (Op.equalIn (n + 1) t a b).run P w = .ok c w ∧ isAggD d = false := by
  unfold eqV at h
  split at h
  · simp only [Option.some.injEq] at h; subst h; exact ⟨by simp [Op.equalIn, run_underlying hu], rfl⟩
  · rename_i k a k' b
    cases hk : decide (k = k') with
    | false => rw [hk] at h; cases h
    | true =>
      have e := of_decide_eq_true hk
      subst e
      rw [hk] at h
      simp only [cond_true, Option.some.injEq] at h; subst h
      exact ⟨by simp [Op.equalIn, run_underlying hu], rfl⟩
  · simp only [Option.some.injEq] at h; subst h; exact ⟨by simp [Op.equalIn, run_underlying hu], rfl⟩
  · rename_i k a k' b
    cases hk : decide (k = k') with
    | false => rw [hk] at h; cases h
    | true =>
      have e := of_decide_eq_true hk
      subst e
      rw [hk] at h
      simp only [cond_true, Option.some.injEq] at h; subst h
      exact ⟨by simp [Op.equalIn, run_underlying hu], rfl⟩
  · cases h
def isF64 (S : St) (x : SV) : Bool := match kindS S x with
  | some (.float .f64) => true
  | _ => false
theorem isF64_ok (hr : ERel E S) {x : SV} {v : Value} (h : isF64 S x = true) (hx : x.den E = some v) : ∃ a, v = .float .f64 a := by
  unfold isF64 at h
  split at h
  · rename_i hk; exact kindS_ok hr hk hx
  · cases h
def eqFs (P : Program) (S : St) (xs ys : List SV) : List Field → Option (Bool × Option (SV × SV))
  | [] => some (true, none)
  | f :: fs => match eqFs P S xs ys fs, P.underlying f.type, xs[f.offset]?, ys[f.offset]? with
    | some (b, u), some d, some (.val x), some (.val y) => bif f.name != "_" then (match eqV d x y with
      | some c => some (c && b, u)
      | none => none) else none
    | some (b, none), some (.float _), some x, some y => bif f.name != "_" && isF64 S x && isF64 S y then some (b, some (x, y)) else none
    | _, _, _, _ => none
def eqSays (E : Env) (b : Bool) (u : Option (SV × SV)) (c : Bool) : Prop := match u with
  | none => c = b
  | some (x, y) => ∃ a a', x.den E = some (.float .f64 a) ∧ y.den E = some (.float .f64 a') ∧ c = (b && Op.floatEq .f64 a a')
theorem run_part {t : TypeId} {d : TypeDesc} (hu : P.underlying t = some d) (hd : isAggD d = false) {cs : Array Value} {i : Nat} {v : Value} (h : cs[i]? = some v) (w : World) : (part t cs i).run P w = .ok v w := by
  simp only [part, Sem.run_bind, run_isAgg' hu, hd, Result.andThen_ok, Bool.false_eq_true, if_false, h, Sem.run_pure]
theorem eqFs_ok (hr : ERel E S) {xs ys : List SV} {l m : List Value} (hx : SV.denL E xs = some l) (hy : SV.denL E ys = some m) (n : Nat) (w : World) :
    ∀ {fs : List Field} {b : Bool} {u : Option (SV × SV)}, eqFs P S xs ys fs = some (b, u) → ∃ c, (Op.eqFields (n + 1) l.toArray m.toArray fs).run P w = .ok c w ∧ eqSays E b u c
  | [], b, u, h => by
    simp only [eqFs, Option.some.injEq, Prod.mk.injEq] at h
    obtain ⟨rfl, rfl⟩ := h
    exact ⟨true, by simp [Op.eqFields], rfl⟩
  | f :: fs, b, u, h => by
    simp only [eqFs] at h
    split at h
    · rename_i b' u' d x y h1 h2 h3 h4
      obtain ⟨c', k1, k2⟩ := eqFs_ok hr hx hy n w h1
      obtain ⟨vx, gx, dx⟩ := denL_getE hx h3
      obtain ⟨vy, gy, dy⟩ := denL_getE hy h4
      simp only [SV.den, Option.some.injEq] at dx dy
      subst dx; subst dy
      cases hn : f.name != "_" with
      | false => rw [hn] at h; cases h
      | true =>
      rw [hn] at h
      simp only [cond_true] at h
      split at h
      case h_2 => cases h
      rename_i c hc
      simp only [Option.some.injEq, Prod.mk.injEq] at h
      obtain ⟨rfl, rfl⟩ := h
      obtain ⟨r1, r2⟩ := eqV_ok (P := P) h2 hc n w
      have hn' : f.name ≠ "_" := by simpa using hn
      refine ⟨c && c', ?_, ?_⟩
      · simp only [Op.eqFields, ne_eq, hn', not_false_eq_true, if_true, Sem.run_bind, run_part h2 r2 (List.getElem?_toArray.trans gx), run_part h2 r2 (List.getElem?_toArray.trans gy), Result.andThen_ok, r1]
        cases c with
        | false => simp
        | true => simpa using k1
      · cases u' with
        | none => simp only [eqSays] at k2 ⊢; rw [k2]
        | some p =>
          obtain ⟨p1, p2⟩ := p
          simp only [eqSays] at k2 ⊢
          obtain ⟨a, a', e1, e2, e3⟩ := k2
          exact ⟨a, a', e1, e2, by rw [e3, Bool.and_assoc]⟩
    · rename_i b' fk x y _ h1 h2 h3 h4
      obtain ⟨c', k1, k2⟩ := eqFs_ok hr hx hy n w h1
      obtain ⟨vx, gx, dx⟩ := denL_getE hx h3
      obtain ⟨vy, gy, dy⟩ := denL_getE hy h4
      cases hn : f.name != "_" && isF64 S x && isF64 S y with
      | false => rw [hn] at h; cases h
      | true =>
      rw [hn] at h
      simp only [cond_true, Option.some.injEq, Prod.mk.injEq] at h
      obtain ⟨rfl, rfl⟩ := h
      simp only [Bool.and_eq_true] at hn
      obtain ⟨a, rfl⟩ := isF64_ok hr hn.1.2 dx
      obtain ⟨a', rfl⟩ := isF64_ok hr hn.2 dy
      have hn' : f.name ≠ "_" := by simpa using hn.1.1
      have r1 : (Op.equalIn (n + 1) f.type (.float .f64 a) (.float .f64 a')).run P w = .ok (Op.floatEq .f64 a a') w := by simp [Op.equalIn, run_underlying h2]
      simp only [eqSays] at k2
      subst k2
      refine ⟨Op.floatEq .f64 a a' && c', ?_, a, a', dx, dy, Bool.and_comm _ _⟩
      simp only [Op.eqFields, ne_eq, hn', not_false_eq_true, if_true, Sem.run_bind, run_part h2 rfl (List.getElem?_toArray.trans gx), run_part h2 rfl (List.getElem?_toArray.trans gy), Result.andThen_ok, r1]
      cases Op.floatEq .f64 a a' with
      | false => simp
      | true => simpa using k1
    · cases h
def eqWant : BinOp → Bool
  | .eql => true
  | _ => false
def isEq : BinOp → Bool
  | .eql => true
  | .neq => true
  | _ => false
def evEqAgg (P : Program) (S : St) (op : BinOp) (t : TypeId) (x y : SV) : Option (List (SV × St)) :=
  match cellsS x, cellsS y, P.underlying t with
  | some xs, some ys, some (.struct fs) => bif isEq op && !P.stoodInHeld t && !P.eqGuardType P.depth t then
      (match eqFs P S xs ys fs.toList with
      | some (b, none) => some [(.val (.bool (b == eqWant op)), S)]
      | some (false, some _) => some [(.val (.bool (false == eqWant op)), S)]
      | some (true, some (a, c)) => (match evIvBin S op a c with
        | some p => some [p]
        | none => evOpenBin P S op t a c)
      | none => none) else none
  | _, _, _ => none
theorem agg_run {op : BinOp} (hop : isEq op = true) {t : TypeId} {fs : Array Field} (hu : P.underlying t = some (.struct fs)) (h1 : P.stoodInHeld t = false) (h2 : P.eqGuardType P.depth t = false) {xs ys : Array Value} {ox oy : Operand} {c : Bool}
    (h : (Op.eqFields 9999 xs ys fs.toList).run P w = .ok c w) : (do eqGuard op t ox oy (.agg xs) (.agg ys); binOp op t (.agg xs) (.agg ys) : Sem Value).run P w = .ok (.bool (c == eqWant op)) w := by
  have hf : P.fieldsOf t = fs := by simp only [Program.fieldsOf, hu]
  have e := run_equalIn_agg (P := P) w 9999 t xs ys (by rw [hf]; exact hu) h1
  rw [hf] at e
  rw [h] at e
  have g := run_eqGuard_agg (P := P) w op t ox oy xs ys h2
  cases op <;> simp only [isEq, Bool.false_eq_true] at hop
  · simp only [Sem.run_bind, g, Result.andThen_ok, run_eql_struct, e]; cases c <;> rfl
  · simp only [Sem.run_bind, g, Result.andThen_ok, run_neq_struct, e]; cases c <;> rfl
theorem float_eq_run {op : BinOp} (hop : isEq op = true) {t : TypeId} {a a' : Nat} {ox oy : Operand} :
    (do eqGuard op t ox oy (.float .f64 a) (.float .f64 a'); binOp op t (.float .f64 a) (.float .f64 a') : Sem Value).run P w = .ok (.bool (Op.floatEq .f64 a a' == eqWant op)) w := by
  cases op <;> simp only [isEq, Bool.false_eq_true] at hop <;> simp [eqGuard, binOp, Op.floatCmp, Op.floatEq, eqWant, bne]
theorem evEqAgg_ok (hr : Rel B G w0 E S w) {op : BinOp} {t : TypeId} {x y : SV} {rs : List (SV × St)} {ox oy : Operand} {vx vy : Value} (h : evEqAgg P S op t x y = some rs) (hx : x.den E = some vx) (hy : y.den E = some vy) :
    DoesB B G w0 P E rs (do eqGuard op t ox oy vx vy; binOp op t vx vy) w := by
  unfold evEqAgg at h
  split at h
  case h_2 => cases h
  rename_i xs ys fs cx cy hu
  cases hc : isEq op && !P.stoodInHeld t && !P.eqGuardType P.depth t with
  | false => rw [hc] at h; cases h
  | true =>
  rw [hc] at h
  simp only [Bool.and_eq_true, Bool.not_eq_true'] at hc
  simp only [cond_true] at h
  obtain ⟨l, hl, rfl⟩ := cellsS_ok cx hx
  obtain ⟨m, hm, rfl⟩ := cellsS_ok cy hy
  split at h
  · rename_i b he
    simp only [Option.some.injEq] at h; subst h
    obtain ⟨c, h1, h2⟩ := eqFs_ok (P := P) hr.env hl hm 9998 w he
    simp only [eqSays] at h2
    subst h2
    exact doesB_one (Does.here hr (by simp only [SV.den]) (agg_run hc.1.1 hu hc.1.2 hc.2 h1))
  · rename_i p he
    simp only [Option.some.injEq] at h; subst h
    obtain ⟨c, h1, h2⟩ := eqFs_ok (P := P) hr.env hl hm 9998 w he
    obtain ⟨p1, p2⟩ := p
    simp only [eqSays] at h2
    obtain ⟨a, a', _, _, h2⟩ := h2
    simp only [Bool.false_and] at h2
    subst h2
    exact doesB_one (Does.here hr (by simp only [SV.den]) (agg_run hc.1.1 hu hc.1.2 hc.2 h1))
  · rename_i a b he
    obtain ⟨c, h1, h2⟩ := eqFs_ok (P := P) hr.env hl hm 9998 w he
    simp only [eqSays] at h2
    obtain ⟨f, f', e1, e2, h2⟩ := h2
    simp only [Bool.true_and] at h2
    subst h2
    have same : (do eqGuard op t ox oy (.agg l.toArray) (.agg m.toArray); binOp op t (.agg l.toArray) (.agg m.toArray) : Sem Value).run P w = (do eqGuard op t ox oy (.float .f64 f) (.float .f64 f'); binOp op t (.float .f64 f) (.float .f64 f') : Sem Value).run P w := by
      rw [agg_run hc.1.1 hu hc.1.2 hc.2 h1, float_eq_run hc.1.1]
    split at h
    · rename_i p hp
      simp only [Option.some.injEq] at h; subst h
      obtain ⟨F, v, w', k1, k2, k3, k4⟩ := evIvBin_ok (P := P) (t := t) (ox := ox) (oy := oy) hr (sv := p.1) (S' := p.2) hp e1 e2
      exact doesB_one ⟨F, v, w', k1, k2, k3, same.trans k4⟩
    · obtain ⟨p, hp, k⟩ := evOpenBin_ok (P := P) (t := t) (ox := ox) (oy := oy) hr h e1 e2
      refine ⟨p, hp, k.imp id fun ⟨F, v, w', k1, k2, k3, k4⟩ => ⟨F, v, w', k1, k2, k3, same.trans k4⟩⟩
  · cases h
end
end Go.Ev
