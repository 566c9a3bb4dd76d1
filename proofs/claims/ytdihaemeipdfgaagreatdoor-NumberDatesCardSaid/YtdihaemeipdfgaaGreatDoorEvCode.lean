/- The evaluator over code: sequences, branches, loops by rounds, regions in the order of the text, calls; and its soundness. -/
import Derived.Test.YtdihaemeipdfgaaGreatDoorEvCore
import Derived.Orders
import Derived.Recover
import Derived.Scope
namespace Go.Ev
open Go.RowKit (Below)

inductive Kind where
  | normal
  | exit (id : Nat)
  | ret
  | val (v : SV)

structure Out where
  kind : Kind
  ts : List SV
  st : St

inductive Task where
  | code (c : Code) (ts : List SV) (S : St)
  | rounds (c : Code) (ts : List SV) (S : St)
  | call (f : Nat) (args : List SV) (S : St)

/-- A deferred call that does nothing where no panic is under way. -/
def QuietD (P : Program) (f : Nat) : Prop :=
  (∀ args w, (callFunc f args).run P w = .ok (.enter f args) w) ∧ ∀ args w, CallsD P f args .returning w fun e u' w' => (∃ v, e = .returned v) ∧ u' = .returning ∧ w' = w

def DOk (P : Program) (ds : List Deferred) : Prop :=
  ∀ d ∈ ds, ∃ f cap, d.target = .fn (.func f) cap ∧ QuietD P f

theorem DOk.nil (P : Program) : DOk P [] := fun _ h => by cases h

theorem leaves_quiet {P : Program} {fn : Func} {tmps : Array Value} {R : Ending → World → Prop} {w : World} {v : Value} (hr : (results fn tmps).run P w = .ok v w) (hR : R (.returned v) w) :
    ∀ ds : List Deferred, DOk P ds → Leaves P fn tmps R ds .returning w
  | [], _ => ⟨v, hr, hR⟩
  | d :: ds, h => by
    obtain ⟨f, cap, ht, hq⟩ := h d List.mem_cons_self
    obtain ⟨t, as⟩ := d
    simp only at ht; subst ht
    refine leaves_cons (f := f) (args := as ++ cap) (by intro e; cases e) (by simp only [invoke]; exact hq.1 _ _) ((hq.2 _ w).mono ?_)
    rintro e u' w' ⟨⟨u, rfl⟩, rfl, rfl⟩
    exact leaves_quiet hr hR ds fun x hx => h x (List.mem_cons_of_mem _ hx)

structure Cfg where
  P : Program
  /-- deferred functions that do nothing where no panic is under way -/
  quietD : Nat → Bool
  /-- the operations that leave memory alone -/
  pure : St → (Operand → SV) → Oper → Option (SV × St)
  /-- the operations, but for calls of Go functions -/
  op : St → (Operand → SV) → Oper → Option (List (SV × St))
  /-- functions by a contract -/
  summ : Nat → List SV → St → Option (List (SV × St))
  /-- functions that are entered -/
  enters : Nat → Bool

def evS (ts : List SV) : Operand → SV
  | .tmp t => ts.getD t (.val undef)
  | .const v => .val v
  | .global g => .val (.pointer (some ⟨g, 0, none⟩))
  | .func f => .val (.func (.func f) #[] #[])

def putS (dst : Option Tmp) (v : SV) (ts : List SV) : List SV :=
  match dst with
  | some d => ts.set d v
  | none => ts

def bindL {α β : Type} (l : List α) (f : α → Option (List β)) : Option (List β) :=
  match l with
  | [] => some []
  | x :: r => match f x with
    | none => none
    | some a => match bindL r f with
      | none => none
      | some b => some (a ++ b)

theorem bindL_mem {α β : Type} {f : α → Option (List β)} : ∀ {l : List α} {r : List β}, bindL l f = some r → ∀ x ∈ l, ∃ a, f x = some a ∧ ∀ y ∈ a, y ∈ r
  | [], r, _, x, hx => by cases hx
  | z :: l, r, h, x, hx => by
    simp only [bindL] at h
    split at h
    · cases h
    · rename_i a ha
      split at h
      · cases h
      · rename_i b hb
        cases h
        cases hx with
        | head => exact ⟨a, ha, fun y hy => List.mem_append_left _ hy⟩
        | tail _ hx =>
          obtain ⟨a', h1, h2⟩ := bindL_mem hb x hx
          exact ⟨a', h1, fun y hy => List.mem_append_right _ (h2 y hy)⟩

/-- Which way a truth goes. -/
def dec (S : St) : SV → Option (List (Bool × St))
  | .val (.bool b) => some [(b, S)]
  | .sym n => match find n S.pc with
    | some b => some [(b, S)]
    | none => match find n S.sorts with
      | some .bool => some [(true, { S with pc := (n, true) :: S.pc }), (false, { S with pc := (n, false) :: S.pc })]
      | _ => none
  | _ => none

def wantedS (ops : Array Oper) (ts : List SV) (S : St) (o : Oper) : Option (List (Bool × St)) :=
  match o.guard with
  | none => some [(true, S)]
  | some (j, want) => match (ops[j]?).bind (·.dst) with
    | none => some [(false, S)]
    | some d => match ts[d]? with
      | none => some [(false, S)]
      | some (.val (.bool b)) => some [(b == want, S)]
      | some (.val (.tuple _)) => some [(false, S)]
      | some v => match dec S v with
        | none => none
        | some l => some (l.map fun p => (p.1 == want, p.2))

def callOf (ev : Operand → SV) (o : Oper) : Option (Nat × List SV) :=
  match o.op with
  | .call c => match c.callee with
    | .value f => match ev f with
      | .func (.func id) first cap => some (id, first ++ c.args.toList.map ev ++ cap)
      | .val (.func (.func id) first cap) => some (id, first.toList.map .val ++ c.args.toList.map ev ++ cap.toList.map .val)
      | _ => none
    | _ => none
  | _ => none

def valsOf : List Out → Option (List (SV × St))
  | [] => some []
  | o :: r => match o.kind, valsOf r with
    | .val v, some l => some ((v, o.st) :: l)
    | _, _ => none

/-- The function that is deferred. -/
def deferOf (ev : Operand → SV) (o : Oper) : Option Nat :=
  match o.op with
  | .defer c => match c.callee with
    | .value f => match ev f with
      | .func (.func id) _ _ => some id
      | .val (.func (.func id) _ _) => some id
      | _ => none
    | _ => none
  | _ => none

def evOp (C : Cfg) (rec : Task → Option (List Out)) (ts : List SV) (S : St) (o : Oper) : Option (List (SV × St)) :=
  match deferOf (evS ts) o with
  | some f => bif C.quietD f then some [(.val undef, S)] else none
  | none =>
  match callOf (evS ts) o with
  | some (f, args) => match C.summ f args S with
    | some r => some r
    | none => bif C.enters f then (match rec (.call f args S) with | some outs => valsOf outs | none => none) else C.op S (evS ts) o
  | none => C.op S (evS ts) o

def evOps (C : Cfg) (rec : Task → Option (List Out)) (ops : Array Oper) : List Nat → List SV → St → Option (List (List SV × St))
  | [], ts, S => some [(ts, S)]
  | i :: r, ts, S =>
    match ops[i]? with
    | none => evOps C rec ops r ts S
    | some o => match wantedS ops ts S o with
      | none => none
      | some ws => bindL ws fun p =>
        match p.1 with
        | false => evOps C rec ops r (putS o.dst (.val undef) ts) p.2
        | true => match evOp C rec ts p.2 o with
          | none => none
          | some rs => bindL rs fun q => bif q.2.bad then some [(ts, q.2)] else evOps C rec ops r (putS o.dst q.1 ts) q.2

/-- What a function hands back. -/
def resS (rs : List ResultVar) (ts : List SV) (_S : St) : Option SV :=
  match rs with
  | [] => some (.val (.tuple #[]))
  | [.tmp t] => some (ts.getD t (.val undef))
  | [.tmp t, .tmp u] => some (.tuple [ts.getD t (.val undef), ts.getD u (.val undef)])
  | [.tmp t, .tmp u, .tmp x] => some (.tuple [ts.getD t (.val undef), ts.getD u (.val undef), ts.getD x (.val undef)])
  | _ => none

def mapKind (f : Kind → Kind) (l : List Out) : List Out := l.map fun o => { o with kind := f o.kind }

def leaveBlock (id : Nat) : Kind → Kind
  | .exit j => bif Nat.beq j id then .normal else .exit j
  | k => k

def resOuts (back : Nat) (fn : Func) (rs : List ResultVar → List SV → St → Option SV) (l : List Out) : Option (List Out) :=
  bindL l fun o => bif o.st.bad then some [{ kind := .val (.val undef), ts := [], st := o.st }] else match o.kind with
    | .normal | .ret => match rs fn.results.toList o.ts o.st with
      | some v => some [{ kind := .val v, ts := [], st := { o.st with fn := back } }]
      | none => none
    | _ => none

def evStep (C : Cfg) (any : (Task → Option (List Out)) → Array Oper → List SV → St → Option (List (List SV × St)))
    (lp : (Task → Option (List Out)) → Code → List SV → St → Option (Option (List Out)))
    (rs : List ResultVar → List SV → St → Option SV) (rec : Task → Option (List Out)) : Task → Option (List Out)
  | .code c ts S => match c with
    | .skip | .label _ => some [{ kind := .normal, ts, st := S }]
    | .region _ ops draw => match (match draw with | false => evOps C rec ops (List.range ops.size) ts S | true => any rec ops ts S) with
      | none => none
      | some l => some (l.map fun p => { kind := .normal, ts := p.1, st := p.2 })
    | .seq a b => match rec (.code a ts S) with
      | none => none
      | some l => bindL l fun o => bif o.st.bad then some [o] else match o.kind with
        | .normal => rec (.code b o.ts o.st)
        | _ => some [o]
    | .cond c x y => match dec S (evS ts c) with
      | none => none
      | some l => bindL l fun p => rec (.code (match p.1 with | true => x | false => y) ts p.2)
    | .block id c => match rec (.code c ts S) with
      | none => none
      | some l => some (mapKind (leaveBlock id) l)
    | .loop c => match lp rec c ts S with
      | some r => r
      | none => rec (.rounds c ts S)
    | .scope c => rec (.code c ts S)
    | .exit id => some [{ kind := .exit id, ts, st := S }]
    | .ret => some [{ kind := .ret, ts, st := S }]
    | _ => none
  | .rounds c ts S => match rec (.code c ts S) with
    | none => none
    | some l => bindL l fun o => bif o.st.bad then some [o] else match o.kind with
      | .normal => rec (.rounds c o.ts o.st)
      | _ => some [o]
  | .call f args S => match C.P.funcs[f]? with
    | none => none
    | some fn => match fn.body with
      | none => none
      | some c => match rec (.code c (args ++ List.replicate (fn.ntmps - args.length) (.val undef)) { S with fn := f }) with
        | none => none
        | some l => resOuts S.fn fn rs l

def ev (C : Cfg) (any : (Task → Option (List Out)) → Array Oper → List SV → St → Option (List (List SV × St)))
    (lp : (Task → Option (List Out)) → Code → List SV → St → Option (Option (List Out)))
    (rs : List ResultVar → List SV → St → Option SV) : Nat → Task → Option (List Out)
  | 0 => fun _ => none
  | n + 1 => evStep C any lp rs (ev C any lp rs n)

/-! ### Soundness -/

def Kind.fits : Kind → Exit → Prop
  | .normal, e => e = .normal
  | .exit id, e => e = .exit id
  | .ret, e => e = .ret
  | .val _, _ => False

section
variable (B G : Nat) (w0 : Start) (P : Program)

def CodeOK (c : Code) (ts : List SV) (S : St) (outs : List Out) : Prop :=
  ∀ (E : Env) (a : Act) (w : World) (Q : Exit → Act → World → Prop), Rel B G w0 E S w → SV.denL E ts = some a.tmps.toList → DOk P a.defers →
    (∀ o ∈ outs, ∀ (F : Env) (e : Exit) (a' : Act) (w' : World), E.le F → Rel B G w0 F o.st w' → SV.denL F o.ts = some a'.tmps.toList → DOk P a'.defers → o.kind.fits e → Q e a' w') →
    (∀ o ∈ outs, o.st.bad = true → ∀ (F : Env) (w' : World), E.le F → Rel B G w0 F o.st w' → False) →
    c.wp P Q a w

def CallOK (f : Nat) (args : List SV) (S : St) (outs : List Out) : Prop :=
  ∀ (E : Env) (vs : List Value) (w : World) (R : Ending → World → Prop), Rel B G w0 E S w → SV.denL E args = some vs →
    (∀ o ∈ outs, ∀ (F : Env) (sv : SV) (v : Value) (w' : World), E.le F → Rel B G w0 F o.st w' → o.kind = .val sv → sv.den F = some v → R (.returned v) w') →
    (∀ o ∈ outs, o.st.bad = true → ∀ (F : Env) (w' : World), E.le F → Rel B G w0 F o.st w' → False) →
    Calls P f vs.toArray w R

def RoundsOK (n : Nat) (c : Code) (ts : List SV) (S : St) (outs : List Out) : Prop :=
  ∀ (E : Env) (a : Act) (w : World) (Q : Exit → Act → World → Prop), Rel B G w0 E S w → SV.denL E ts = some a.tmps.toList → DOk P a.defers →
    (∀ o ∈ outs, ∀ (F : Env) (e : Exit) (a' : Act) (w' : World), E.le F → Rel B G w0 F o.st w' → SV.denL F o.ts = some a'.tmps.toList → DOk P a'.defers → o.kind.fits e → Q e a' w') →
    (∀ o ∈ outs, o.st.bad = true → ∀ (F : Env) (w' : World), E.le F → Rel B G w0 F o.st w' → False) →
    Code.rounds P c Q n a w

def TaskOK (n : Nat) : Task → List Out → Prop
  | .code c ts S, outs => CodeOK B G w0 P c ts S outs
  | .rounds c ts S, outs => RoundsOK B G w0 P n c ts S outs
  | .call f args S, outs => CallOK B G w0 P f args S outs

def RecOK (n : Nat) (rec : Task → Option (List Out)) : Prop := ∀ t outs, rec t = some outs → TaskOK B G w0 P n t outs

/-- What is asked of the operations: each does what one of the answers says. -/
def OpOK (op : St → (Operand → SV) → Oper → Option (List (SV × St))) : Prop :=
  ∀ S ev o rs, op S ev o = some rs → ∀ (E : Env) (evr : Operand → Value) (w : World), Rel B G w0 E S w → (∀ x, (ev x).den E = some (evr x)) →
    ∃ p ∈ rs, ∃ (F : Env) (w' : World), E.le F ∧ Rel B G w0 F p.2 w' ∧ (p.2.bad = true ∨ ∃ v : Value, p.1.den F = some v ∧
      ((execOp evr o).run P w = .ok (.value v) w' ∨ (v = undef ∧ (execOp evr o).run P w = .ok .skip w')))

def PureOK (op : St → (Operand → SV) → Oper → Option (SV × St)) : Prop :=
  ∀ S ev o sv S', op S ev o = some (sv, S') → S'.heap = S.heap ∧ S'.next = S.next ∧ ∀ (E : Env) (evr : Operand → Value) (w : World), Rel B G w0 E S w → (∀ x, (ev x).den E = some (evr x)) →
    ∃ (F : Env) (v : Value), E.le F ∧ Rel B G w0 F S' w ∧ sv.den F = some v ∧ F.ρ = E.ρ ∧ ∀ w, (execOp evr o).run P w = .ok (.value v) w

def SummOK (summ : Nat → List SV → St → Option (List (SV × St))) : Prop :=
  ∀ f args S rs, summ f args S = some rs → (∀ as w, (callFunc f as).run P w = .ok (.enter f as) w) ∧
    ∀ (E : Env) (vs : List Value) (w : World) (R : Ending → World → Prop), Rel B G w0 E S w → SV.denL E args = some vs →
    (∀ p ∈ rs, ∀ (F : Env) (v : Value) (w' : World), E.le F → Rel B G w0 F p.2 w' → p.1.den F = some v → R (.returned v) w') →
    (∀ p ∈ rs, p.2.bad = true → ∀ (F : Env) (w' : World), E.le F → Rel B G w0 F p.2 w' → False) → Calls P f vs.toArray w R

structure CfgOK (C : Cfg) : Prop where
  prog : C.P = P
  pure : PureOK B G w0 P C.pure
  op : OpOK B G w0 P C.op
  summ : SummOK B G w0 P C.summ
  quietD : ∀ f, C.quietD f = true → QuietD P f
  enters : ∀ f, C.enters f = true → ∀ args w, (callFunc f args).run P w = .ok (.enter f args) w

def LoopsOK (lp : (Task → Option (List Out)) → Code → List SV → St → Option (Option (List Out))) : Prop :=
  ∀ n rec, RecOK B G w0 P n rec → ∀ c ts S outs, lp rec c ts S = some (some outs) → CodeOK B G w0 P (.loop c) ts S outs

def AnyOK (any : (Task → Option (List Out)) → Array Oper → List SV → St → Option (List (List SV × St))) : Prop :=
  ∀ n rec, RecOK B G w0 P n rec → ∀ id ops ts S l, any rec ops ts S = some l → CodeOK B G w0 P (.region id ops true) ts S (l.map fun p => { kind := .normal, ts := p.1, st := p.2 })

def ResOK (rs : List ResultVar → List SV → St → Option SV) : Prop :=
  ∀ fn ts S sv, rs fn.results.toList ts S = some sv → ∀ (E : Env) (tmps : Array Value) (w : World), Rel B G w0 E S w → SV.denL E ts = some tmps.toList →
    ∃ v, sv.den E = some v ∧ (results fn tmps).run P w = .ok v w

end

theorem getD_den {E : Env} {ts : List SV} {tmps : Array Value} (h : SV.denL E ts = some tmps.toList) (t : Nat) :
    (ts.getD t (.val undef)).den E = some (tmps.getD t undef) := by
  have hl := denL_length h
  rcases Nat.lt_or_ge t ts.length with h' | h'
  · obtain ⟨v, hv, hd⟩ := denL_get h (List.getElem?_eq_getElem h')
    have e1 : ts.getD t (.val undef) = ts[t] := by simp [List.getD, List.getElem?_eq_getElem h']
    rw [e1, hd]
    simp only [Array.getElem?_toList] at hv
    simp [Array.getD_eq_getD_getElem?, hv]
  · have e1 : ts.getD t (.val undef) = .val undef := by simp [List.getD, List.getElem?_eq_none h']
    have e2 : tmps[t]? = none := by simp; simpa using (by omega : tmps.toList.length ≤ t)
    rw [e1, Array.getD_eq_getD_getElem?, e2]
    simp only [SV.den, Option.getD_none]

theorem evS_den {E : Env} {ts : List SV} {a : Act} (h : SV.denL E ts = some a.tmps.toList) (x : Operand) : (evS ts x).den E = some (a.eval x) := by
  cases x with
  | tmp t => exact getD_den h t
  | const v => simp only [evS, SV.den, Act.eval]
  | global g => simp only [evS, SV.den, Act.eval]
  | func f => simp only [evS, SV.den, Act.eval]

theorem putS_den {E : Env} {ts : List SV} {a : Act} (h : SV.denL E ts = some a.tmps.toList) (dst : Option Tmp) {sv : SV} {v : Value} (hv : sv.den E = some v) :
    SV.denL E (putS dst sv ts) = some (a.put dst v).tmps.toList := by
  cases dst with
  | none => exact h
  | some d =>
    simp only [putS, Act.put, Array.toList_setIfInBounds]
    exact denL_set h hv d

theorem put_defers (a : Act) (dst : Option Tmp) (v : Value) : (a.put dst v).defers = a.defers := by cases dst <;> rfl

section
variable {B G : Nat} {w0 : Start} {P : Program}

theorem Rel.withPc {E : Env} {S : St} {w : World} (h : Rel B G w0 E S w) {n : Nat} {b : Bool} (hb : E.σ n = some (.bool b)) :
    Rel B G w0 E { S with pc := (n, b) :: S.pc } w :=
  { h with
    pc := fun i c hi => by
      simp only [List.mem_cons, Prod.mk.injEq] at hi
      rcases hi with ⟨rfl, rfl⟩ | hi
      · exact hb
      · exact h.pc i c hi }

theorem find_mem {α : Type} {i : Nat} : ∀ {l : List (Nat × α)} {x : α}, find i l = some x → (i, x) ∈ l
  | [], x, h => by cases h
  | (j, y) :: r, x, h => by
    simp only [find] at h
    cases e : Nat.beq i j with
    | true =>
      have : i = j := Nat.eq_of_beq_eq_true e
      subst this
      rw [e] at h; simp at h; subst h; exact List.mem_cons_self
    | false => rw [e] at h; exact List.mem_cons_of_mem _ (find_mem h)

theorem dec_ok {S : St} {sv : SV} {l : List (Bool × St)} (h : dec S sv = some l) {E : Env} {w : World} (hr : Rel B G w0 E S w) {v : Value} (hv : sv.den E = some v) :
    ∃ p ∈ l, v = .bool p.1 ∧ Rel B G w0 E p.2 w := by
  unfold dec at h
  split at h
  · rename_i b
    simp only [SV.den, Option.some.injEq] at hv h
    subst h hv
    exact ⟨(b, S), by simp, rfl, hr⟩
  · rename_i n
    split at h
    · rename_i b hb
      simp only [Option.some.injEq] at h
      subst h
      have := hr.pc n b (find_mem hb)
      simp only [SV.den] at hv
      rw [this] at hv
      simp only [Option.some.injEq] at hv
      exact ⟨(b, S), by simp, hv.symm, hr⟩
    · split at h
      · rename_i hs
        simp only [Option.some.injEq] at h
        subst h
        obtain ⟨u, hu, b, rfl⟩ := hr.sorts _ _ hs
        simp only [SV.den] at hv
        rw [hu] at hv
        simp only [Option.some.injEq] at hv
        subst hv
        cases b with
        | true => exact ⟨_, List.mem_cons_self, rfl, hr.withPc hu⟩
        | false => exact ⟨_, List.mem_cons_of_mem _ List.mem_cons_self, rfl, hr.withPc hu⟩
      · cases h
  · cases h

theorem wanted_ok {ops : Array Oper} {ts : List SV} {S : St} {o : Oper} {l : List (Bool × St)} (h : wantedS ops ts S o = some l) {E : Env} {a : Act} {w : World}
    (hr : Rel B G w0 E S w) (ht : SV.denL E ts = some a.tmps.toList) : ∃ p ∈ l, Region.wanted o (yielded ops a.tmps) = p.1 ∧ Rel B G w0 E p.2 w := by
  unfold wantedS at h
  split at h
  · rename_i hg
    simp only [Option.some.injEq] at h; subst h
    exact ⟨_, List.mem_cons_self, by simp [Region.wanted, hg], hr⟩
  · rename_i j want hg
    split at h
    · rename_i hd
      simp only [Option.some.injEq] at h; subst h
      exact ⟨_, List.mem_cons_self, by simp [Region.wanted, hg, yielded, hd], hr⟩
    · rename_i d hd
      have hl := denL_length ht
      split at h
      · rename_i hn
        simp only [Option.some.injEq] at h; subst h
        have hn' : a.tmps[d]? = none := by
          have : ts.length ≤ d := by
            rcases Nat.lt_or_ge d ts.length with h' | h'
            · simp [List.getElem?_eq_getElem h'] at hn
            · exact h'
          simp; simpa using (by omega : a.tmps.toList.length ≤ d)
        exact ⟨_, List.mem_cons_self, by simp [Region.wanted, hg, yielded, hd, hn'], hr⟩
      · rename_i b hb
        simp only [Option.some.injEq] at h; subst h
        obtain ⟨v, hv, hden⟩ := denL_get ht hb
        simp only [SV.den, Option.some.injEq] at hden; subst hden
        simp only [Array.getElem?_toList] at hv
        refine ⟨_, List.mem_cons_self, ?_, hr⟩
        simp [Region.wanted, hg, yielded, hd, hv]
      · rename_i vs hb
        simp only [Option.some.injEq] at h; subst h
        obtain ⟨v, hv, hden⟩ := denL_get ht hb
        simp only [SV.den, Option.some.injEq] at hden; subst hden
        simp only [Array.getElem?_toList] at hv
        exact ⟨_, List.mem_cons_self, by simp [Region.wanted, hg, yielded, hd, hv], hr⟩
      · rename_i v _ _ hb
        split at h
        · cases h
        · rename_i l' hl'
          simp only [Option.some.injEq] at h; subst h
          obtain ⟨u, hu, hden⟩ := denL_get ht hb
          obtain ⟨p, hp, rfl, hrel⟩ := dec_ok hl' hr hden
          simp only [Array.getElem?_toList] at hu
          exact ⟨(p.1 == want, p.2), List.mem_map.2 ⟨p, hp, rfl⟩, by simp [Region.wanted, hg, yielded, hd, hu], hrel⟩

theorem valsOf_mem : ∀ {outs : List Out} {l : List (SV × St)}, valsOf outs = some l → ∀ o ∈ outs, ∃ v, o.kind = .val v ∧ (v, o.st) ∈ l
  | [], l, _, o, ho => by cases ho
  | x :: r, l, h, o, ho => by
    simp only [valsOf] at h
    split at h
    · rename_i v l' hk hl
      simp only [Option.some.injEq] at h; subst h
      cases ho with
      | head => exact ⟨v, hk, List.mem_cons_self⟩
      | tail _ ho =>
        obtain ⟨u, h1, h2⟩ := valsOf_mem hl o ho
        exact ⟨u, h1, List.mem_cons_of_mem _ h2⟩
    · cases h

theorem denL_map {E : Env} {ev : Operand → SV} {evr : Operand → Value} (h : ∀ x, (ev x).den E = some (evr x)) : ∀ l : List Operand, SV.denL E (l.map ev) = some (l.map evr)
  | [] => rfl
  | x :: r => by simpa using denL_mk (h x) (denL_map h r)

/-- The call that an operation is. -/
theorem callOf_ok {ev : Operand → SV} {o : Oper} {f : Nat} {args : List SV} (h : callOf ev o = some (f, args)) {E : Env} {evr : Operand → Value} (he : ∀ x, (ev x).den E = some (evr x)) :
    ∃ vs : List Value, SV.denL E args = some vs ∧ execOp evr o = callFunc f vs.toArray := by
  unfold callOf at h
  split at h
  · rename_i c hc
    split at h
    · rename_i fo hf
      have hden := he fo
      have hargs := denL_map he c.args.toList
      split at h
      · rename_i id first cap hv
        simp only [Option.some.injEq, Prod.mk.injEq] at h
        obtain ⟨rfl, rfl⟩ := h
        rw [hv] at hden
        simp only [SV.den] at hden
        split at hden
        · rename_i a b ha hb
          simp only [Option.some.injEq] at hden
          refine ⟨_, denL_append (denL_append ha hargs) hb, ?_⟩
          simp only [execOp, hc, resolve, hf, ← hden, Deferred.ofValue, invoke]
          simp only [bind, Sem.bind, Pure.pure]
          refine congrArg (callFunc id) (Array.toList_inj.1 ?_)
          simp
        · cases hden
      · rename_i id first cap hv
        simp only [Option.some.injEq, Prod.mk.injEq] at h
        obtain ⟨rfl, rfl⟩ := h
        rw [hv] at hden
        simp only [SV.den, Option.some.injEq] at hden
        refine ⟨_, denL_append (denL_append (denL_vals _) hargs) (denL_vals _), ?_⟩
        simp only [execOp, hc, resolve, hf, ← hden, Deferred.ofValue, invoke]
        simp only [bind, Sem.bind, Pure.pure]
        refine congrArg (callFunc id) (Array.toList_inj.1 ?_)
        simp
      · cases h
    · cases h
  · cases h

theorem deferOf_ok {ev : Operand → SV} {o : Oper} {f : Nat} (h : deferOf ev o = some f) {E : Env} {evr : Operand → Value} (he : ∀ x, (ev x).den E = some (evr x)) :
    ∃ (d : Deferred) (cap : Array Value), d.target = .fn (.func f) cap ∧ ∀ w, (execOp evr o).run P w = .ok (.defer d) w := by
  unfold deferOf at h
  split at h
  · rename_i c hc
    split at h
    · rename_i fo hf
      have hden := he fo
      split at h
      · rename_i id first cap hv
        simp only [Option.some.injEq] at h
        subst h
        rw [hv] at hden
        simp only [SV.den] at hden
        split at hden
        · rename_i a b ha hb
          simp only [Option.some.injEq] at hden
          exact ⟨{ target := .fn (.func id) b.toArray, args := a.toArray ++ c.args.map evr }, b.toArray, rfl, fun w => by simp only [execOp, hc, resolve, hf, ← hden, Deferred.ofValue]; rfl⟩
        · cases hden
      · rename_i id first cap hv
        simp only [Option.some.injEq] at h
        subst h
        rw [hv] at hden
        simp only [SV.den, Option.some.injEq] at hden
        exact ⟨{ target := .fn (.func id) cap, args := first ++ c.args.map evr }, cap, rfl, fun w => by simp only [execOp, hc, resolve, hf, ← hden, Deferred.ofValue]; rfl⟩
      · cases h
    · cases h
  · cases h

/-- An operation, in the walk's form. -/
theorem evOp_ok {C : Cfg} (hC : CfgOK B G w0 P C) {rec : Task → Option (List Out)} {n : Nat} (hrec : RecOK B G w0 P n rec) {ts : List SV} {S : St} {o : Oper} {rs : List (SV × St)}
    (h : evOp C rec ts S o = some rs) {E : Env} {a : Act} {w : World} (hr : Rel B G w0 E S w) (ht : SV.denL E ts = some a.tmps.toList) (hd : DOk P a.defers)
    {K : Act → World → Prop} {Q : Exit → Act → World → Prop}
    (hK' : ∀ p ∈ rs, ∀ (F : Env) (v : Value) (a' : Act) (w' : World), E.le F → Rel B G w0 F p.2 w' → p.1.den F = some v → DOk P a'.defers → SV.denL F (putS o.dst p.1 ts) = some a'.tmps.toList → K a' w')
    (hbad : ∀ p ∈ rs, p.2.bad = true → ∀ (F : Env) (w' : World), E.le F → Rel B G w0 F p.2 w' → False) : o.wp P a w K Q := by
  have he := evS_den ht
  have hK : ∀ p ∈ rs, ∀ (F : Env) (v : Value) (w' : World), E.le F → Rel B G w0 F p.2 w' → p.1.den F = some v → K (a.put o.dst v) w' := fun p hp F v w' h1 h2 h3 =>
    hK' p hp F v _ w' h1 h2 h3 (by rw [put_defers]; exact hd) (putS_den (SV.denL_mono h1 _ _ ht) o.dst h3)
  have hop : C.op S (evS ts) o = some rs → o.wp P a w K Q := fun h => by
    obtain ⟨p, hp, F, w', hle, hrel, hrun⟩ := hC.op S (evS ts) o rs h E a.eval w hr he
    unfold Oper.wp
    rcases hrun with hb | ⟨v, hden, hrun⟩
    · exact (hbad p hp hb F w' hle hrel).elim
    rcases hrun with hrun | ⟨rfl, hrun⟩
    · rw [hrun]; exact hK p hp F v w' hle hrel hden
    · rw [hrun]; exact hK p hp F undef w' hle hrel hden
  unfold evOp at h
  split at h
  · rename_i f hf
    cases hq : C.quietD f with
    | false => rw [hq] at h; cases h
    | true =>
      rw [hq] at h
      simp only [cond_true, Option.some.injEq] at h; subst h
      obtain ⟨d, cap, h1, h2⟩ := deferOf_ok (P := P) hf he
      unfold Oper.wp
      rw [h2 w, Oper.upon_defer]
      refine hK' _ List.mem_cons_self E undef _ w E.le_refl hr (by simp only [SV.den]) ?_ ?_
      · rw [put_defers]
        intro x hx
        cases hx with
        | head => exact ⟨f, cap, h1, hC.quietD f hq⟩
        | tail _ hx => exact hd x hx
      · have := putS_den (a := { a with defers := d :: a.defers }) (E := E) (ts := ts) ht o.dst (sv := .val undef) (v := undef) (by simp only [SV.den])
        exact this
  split at h
  · rename_i f args hc
    obtain ⟨vs, hvs, hex⟩ := callOf_ok hc he
    split at h
    · rename_i r hs
      simp only [Option.some.injEq] at h; subst h
      obtain ⟨hent, hs⟩ := hC.summ f args S _ hs
      unfold Oper.wp
      rw [hex, hent]
      exact hs E vs w _ hr hvs (fun p hp F v w' hle hrel hden => hK p hp F v w' hle hrel hden) hbad
    · cases hen : C.enters f with
      | true =>
        rw [hen] at h
        simp only [cond_true] at h
        split at h
        · rename_i outs houts
          have := hrec _ _ houts
          unfold Oper.wp
          rw [hex, hC.enters f hen]
          refine this E vs w _ hr hvs (fun o' ho' F sv v w' hle hrel hk hden => ?_) (fun o' ho' hb F w' hle hrel => ?_)
          · obtain ⟨u, hu, hmem⟩ := valsOf_mem h o' ho'
            rw [hk] at hu; cases hu
            exact hK _ hmem F v w' hle hrel hden
          · obtain ⟨u, hu, hmem⟩ := valsOf_mem h o' ho'
            exact hbad _ hmem hb F w' hle hrel
        · cases h
      | false => rw [hen] at h; exact hop h
  · exact hop h

theorem evOps_ok {C : Cfg} (hC : CfgOK B G w0 P C) {rec : Task → Option (List Out)} {n : Nat} (hrec : RecOK B G w0 P n rec) {ops : Array Oper} :
    ∀ (l : List Nat) (ts : List SV) (S : St) (r : List (List SV × St)), evOps C rec ops l ts S = some r →
    ∀ (E : Env) (a : Act) (w : World) (Q : Exit → Act → World → Prop), Rel B G w0 E S w → SV.denL E ts = some a.tmps.toList → DOk P a.defers →
    (∀ p ∈ r, ∀ (F : Env) (a' : Act) (w' : World), E.le F → Rel B G w0 F p.2 w' → SV.denL F p.1 = some a'.tmps.toList → DOk P a'.defers → Q .normal a' w') →
    (∀ p ∈ r, p.2.bad = true → ∀ (F : Env) (w' : World), E.le F → Rel B G w0 F p.2 w' → False) →
    wpOps P ops Q l a w := by
  intro l
  induction l with
  | nil =>
    intro ts S r h E a w Q hr ht hd hQ hbad
    simp only [evOps, Option.some.injEq] at h; subst h
    exact hQ _ List.mem_cons_self E a w E.le_refl hr ht hd
  | cons i l ih =>
    intro ts S r h E a w Q hr ht hd hQ hbad
    simp only [evOps] at h
    simp only [wpOps]
    split at h
    · rename_i hi
      simp only [hi]
      exact ih ts S r h E a w Q hr ht hd hQ hbad
    · rename_i o hi
      simp only [hi]
      split at h
      · cases h
      · rename_i ws hws
        obtain ⟨p, hp, hw, hrel⟩ := wanted_ok hws hr ht
        obtain ⟨r', hr', hsub⟩ := bindL_mem h p hp
        rw [hw]
        split at hr'
        · rename_i hp1
          rw [hp1]
          simp only [Bool.false_eq_true, if_false]
          exact ih _ _ r' hr' E _ w Q hrel (putS_den ht o.dst (v := undef) (by simp only [SV.den])) (by rw [put_defers]; exact hd)
            (fun q hq F a' w' h1 h2 h3 h4 => hQ q (hsub q hq) F a' w' h1 h2 h3 h4) (fun q hq hb F w' h1 h2 => hbad q (hsub q hq) hb F w' h1 h2)
        · rename_i hp1
          rw [hp1]
          simp only [if_true]
          split at hr'
          · cases hr'
          · rename_i rs hrs
            have hbad' : ∀ q ∈ rs, q.2.bad = true → ∀ (F : Env) (w' : World), E.le F → Rel B G w0 F q.2 w' → False := fun q hq hb F w' hle hrel' => by
              obtain ⟨r'', hr'', hsub'⟩ := bindL_mem hr' q hq
              rw [hb] at hr''
              simp only [cond_true, Option.some.injEq] at hr''; subst hr''
              exact hbad _ (hsub _ (hsub' _ List.mem_cons_self)) hb F w' hle hrel'
            refine .inl (evOp_ok hC hrec hrs hrel ht hd (fun q hq F v a₂ w' hle hrel' hden hdf htm => ?_) hbad')
            obtain ⟨r'', hr'', hsub'⟩ := bindL_mem hr' q hq
            cases hb : q.2.bad with
            | true => exact (hbad' q hq hb F w' hle hrel').elim
            | false =>
              rw [hb] at hr''
              exact ih _ _ r'' hr'' F _ w' Q hrel' htm hdf
                (fun x hx F' a' w'' h1 h2 h3 h4 => hQ x (hsub x (hsub' x hx)) F' a' w'' (Env.le_trans hle h1) h2 h3 h4)
                (fun x hx hb F' w'' h1 h2 => hbad x (hsub x (hsub' x hx)) hb F' w'' (Env.le_trans hle h1) h2)


/-- A code's outcomes, each gone on with. -/
theorem bindOuts_ok {l outs : List Out} {f : Out → Option (List Out)} (h : bindL l f = some outs) {o : Out} (ho : o ∈ l) : ∃ r, f o = some r ∧ ∀ x ∈ r, x ∈ outs := bindL_mem h o ho

theorem Rel.withFn {E : Env} {S : St} {w : World} (h : Rel B G w0 E S w) (f : Nat) : Rel B G w0 E { S with fn := f } w := { h with }

theorem evStep_ok {C : Cfg} (hC : CfgOK B G w0 P C) {any : (Task → Option (List Out)) → Array Oper → List SV → St → Option (List (List SV × St))} (hany : AnyOK B G w0 P any)
    {lp : (Task → Option (List Out)) → Code → List SV → St → Option (Option (List Out))} (hlp : LoopsOK B G w0 P lp)
    {rs : List ResultVar → List SV → St → Option SV} (hres : ResOK B G w0 P rs) {n : Nat} {rec : Task → Option (List Out)} (hrec : RecOK B G w0 P n rec) :
    RecOK B G w0 P (n + 1) (evStep C any lp rs rec) := by
  intro t outs h
  cases t with
  | code c ts S =>
    intro E a w Q hr ht hd hQ hbad
    simp only [evStep] at h
    split at h
    · simp only [Option.some.injEq] at h; subst h
      exact wp_skip (hQ _ List.mem_cons_self E _ a w E.le_refl hr ht hd rfl)
    · simp only [Option.some.injEq] at h; subst h
      exact wp_label (hQ _ List.mem_cons_self E _ a w E.le_refl hr ht hd rfl)
    · rename_i id ops draw
      split at h
      · cases h
      · rename_i l hl
        simp only [Option.some.injEq] at h; subst h
        split at hl
        · refine wp_region (evOps_ok hC hrec _ _ _ _ hl E a w Q hr ht hd (fun p hp F a' w' h1 h2 h3 h4 => ?_) (fun p hp hb F w' h1 h2 => ?_))
          · exact hQ _ (List.mem_map.2 ⟨p, hp, rfl⟩) F _ a' w' h1 h2 h3 h4 rfl
          · exact hbad _ (List.mem_map.2 ⟨p, hp, rfl⟩) hb F w' h1 h2
        · exact hany n rec hrec id ops ts S l hl E a w Q hr ht hd hQ hbad
    · rename_i x y
      split at h
      · cases h
      · rename_i l hl
        have hbad' : ∀ o ∈ l, o.st.bad = true → ∀ (F : Env) (w' : World), E.le F → Rel B G w0 F o.st w' → False := fun o ho hb F w' h1 h2 => by
          obtain ⟨r, hr', hsub⟩ := bindOuts_ok h ho
          rw [hb] at hr'
          simp only [cond_true, Option.some.injEq] at hr'; subst hr'
          exact hbad _ (hsub _ List.mem_cons_self) hb F w' h1 h2
        refine wp_seq (hrec _ _ hl E a w _ hr ht hd (fun o ho F e a' w' h1 h2 h3 h4 h5 => ?_) hbad')
        obtain ⟨r, hr', hsub⟩ := bindOuts_ok h ho
        cases hb : o.st.bad with
        | true => exact (hbad' o ho hb F w' h1 h2).elim
        | false =>
        rw [hb] at hr'
        simp only [cond_false] at hr'
        split at hr'
        · rename_i hk
          rw [hk] at h5; cases h5
          exact hrec _ _ hr' F a' w' Q h2 h3 h4 (fun o' ho' F' e' a'' w'' k1 k2 k3 k4 k5 => hQ o' (hsub _ ho') F' e' a'' w'' (Env.le_trans h1 k1) k2 k3 k4 k5)
            (fun o' ho' hb F' w'' k1 k2 => hbad o' (hsub _ ho') hb F' w'' (Env.le_trans h1 k1) k2)
        · rename_i hk
          simp only [Option.some.injEq] at hr'; subst hr'
          have := hQ o (hsub _ List.mem_cons_self) F e a' w' h1 h2 h3 h4 h5
          cases e with
          | normal => cases hkk : o.kind <;> rw [hkk] at h5 <;> simp [Kind.fits] at h5; exact (hk hkk).elim
          | _ => exact this
    · rename_i c x y
      split at h
      · cases h
      · rename_i l hl
        obtain ⟨p, hp, hv, hrel⟩ := dec_ok hl hr (evS_den ht c)
        obtain ⟨r, hr', hsub⟩ := bindL_mem h p hp
        refine wp_cond hv ?_
        have key := hrec _ _ hr' E a w Q hrel ht hd (fun o' ho' F' e' a'' w'' k1 k2 k3 k4 k5 => hQ o' (hsub _ ho') F' e' a'' w'' k1 k2 k3 k4 k5)
          (fun o' ho' hb F' w'' k1 k2 => hbad o' (hsub _ ho') hb F' w'' k1 k2)
        cases hb : p.1 <;> rw [hb] at key <;> simpa using key
    · rename_i id c
      split at h
      · cases h
      · rename_i l hl
        simp only [Option.some.injEq] at h; subst h
        refine wp_block (hrec _ _ hl E a w _ hr ht hd (fun o ho F e a' w' h1 h2 h3 h4 h5 => ?_) (fun o ho hb F w' h1 h2 => hbad { o with kind := leaveBlock id o.kind } (List.mem_map.2 ⟨o, ho, rfl⟩) hb F w' h1 h2))
        have hq := hQ { o with kind := leaveBlock id o.kind } (List.mem_map.2 ⟨o, ho, rfl⟩) F
        cases hk : o.kind with
        | normal => rw [hk] at h5 hq; cases h5; exact hq _ a' w' h1 h2 h3 h4 rfl
        | exit j =>
          rw [hk] at h5 hq; cases h5
          simp only [leaveBlock] at hq
          cases hj : Nat.beq j id with
          | true =>
            have : j = id := Nat.eq_of_beq_eq_true hj
            rw [hj] at hq
            simp only [cond_true] at hq
            simp only [Exit.inBlock, this, if_true]
            exact hq _ a' w' h1 h2 h3 h4 rfl
          | false =>
            have : ¬ j = id := fun e => by subst e; simp at hj
            rw [hj] at hq
            simp only [cond_false] at hq
            simp only [Exit.inBlock, this, if_false]
            exact hq _ a' w' h1 h2 h3 h4 rfl
        | ret => rw [hk] at h5 hq; cases h5; exact hq _ a' w' h1 h2 h3 h4 rfl
        | val v => rw [hk] at h5; cases h5
    · rename_i c
      split at h
      · subst h
        rename_i hl
        exact hlp n rec hrec _ _ _ _ hl E a w Q hr ht hd hQ hbad
      · exact wp_loop_rounds n (hrec _ _ h E a w Q hr ht hd hQ hbad)
    · refine wp_scope_straight (hrec _ _ h E a w _ hr ht hd (fun o ho F e a' w' h1 h2 h3 h4 h5 => ?_) hbad)
      have := hQ o ho F e a' w' h1 h2 h3 h4 h5
      cases hk : o.kind <;> rw [hk] at h5 <;> first | (cases h5; exact this) | cases h5
    · simp only [Option.some.injEq] at h; subst h
      exact wp_exit (hQ _ List.mem_cons_self E _ a w E.le_refl hr ht hd rfl)
    · simp only [Option.some.injEq] at h; subst h
      exact wp_ret (hQ _ List.mem_cons_self E _ a w E.le_refl hr ht hd rfl)
    · cases h
  | rounds c ts S =>
    intro E a w Q hr ht hd hQ hbad
    simp only [evStep] at h
    split at h
    · cases h
    · rename_i l hl
      rw [rounds_succ]
      have hbad' : ∀ o ∈ l, o.st.bad = true → ∀ (F : Env) (w' : World), E.le F → Rel B G w0 F o.st w' → False := fun o ho hb F w' h1 h2 => by
        obtain ⟨r, hr', hsub⟩ := bindOuts_ok h ho
        rw [hb] at hr'
        simp only [cond_true, Option.some.injEq] at hr'; subst hr'
        exact hbad _ (hsub _ List.mem_cons_self) hb F w' h1 h2
      refine hrec _ _ hl E a w _ hr ht hd (fun o ho F e a' w' h1 h2 h3 h4 h5 => ?_) hbad'
      obtain ⟨r, hr', hsub⟩ := bindOuts_ok h ho
      cases hb : o.st.bad with
      | true => exact (hbad' o ho hb F w' h1 h2).elim
      | false =>
      rw [hb] at hr'
      simp only [cond_false] at hr'
      split at hr'
      · rename_i hk
        rw [hk] at h5; cases h5
        exact hrec _ _ hr' F a' w' Q h2 h3 h4 (fun o' ho' F' e' a'' w'' k1 k2 k3 k4 k5 => hQ o' (hsub _ ho') F' e' a'' w'' (Env.le_trans h1 k1) k2 k3 k4 k5)
          (fun o' ho' hb F' w'' k1 k2 => hbad o' (hsub _ ho') hb F' w'' (Env.le_trans h1 k1) k2)
      · rename_i hk
        simp only [Option.some.injEq] at hr'; subst hr'
        have := hQ o (hsub _ List.mem_cons_self) F e a' w' h1 h2 h3 h4 h5
        cases e with
        | normal => cases hkk : o.kind <;> rw [hkk] at h5 <;> simp [Kind.fits] at h5; exact (hk hkk).elim
        | _ => exact this
  | call f args S =>
    intro E vs w R hr hvs hR hbad
    simp only [evStep] at h
    split at h
    · cases h
    · rename_i fn hf
      split at h
      · cases h
      · rename_i c hc
        split at h
        · cases h
        · rename_i l hl
          rw [hC.prog] at hf
          refine calls_of_wp_defers hf hc ?_
          have hlen := denL_length hvs
          have hbad' : ∀ o ∈ l, o.st.bad = true → ∀ (F : Env) (w' : World), E.le F → Rel B G w0 F o.st w' → False := fun o ho hb F w' h1 h2 => by
            obtain ⟨r, hr', hsub⟩ := bindOuts_ok h ho
            rw [hb] at hr'
            simp only [cond_true, Option.some.injEq] at hr'; subst hr'
            exact hbad _ (hsub _ List.mem_cons_self) hb F w' h1 h2
          refine hrec _ _ hl E _ w _ (hr.withFn f) ?_ (DOk.nil P) (fun o ho F e a' w' h1 h2 h3 h4 h5 => ?_) hbad'
          · have hrep : ∀ m, SV.denL E (List.replicate m (.val undef)) = some (List.replicate m undef) := fun m => by
              induction m with
              | zero => rfl
              | succ m ih => exact denL_mk (by simp only [SV.den]) ih
            simpa [hlen] using denL_append hvs (hrep (fn.ntmps - args.length))
          · obtain ⟨r, hr', hsub⟩ := bindOuts_ok h ho
            have fin : ∀ sv, rs fn.results.toList o.ts o.st = some sv → r = [{ kind := .val sv, ts := [], st := { o.st with fn := S.fn } }] → Leaves P fn a'.tmps R a'.defers .returning w' := fun sv hsv hr' => by
              obtain ⟨v, hden, hrun⟩ := hres fn o.ts o.st sv hsv F a'.tmps w' h2 h3
              exact leaves_quiet hrun (hR { kind := .val sv, ts := [], st := { o.st with fn := S.fn } } (hsub _ (by rw [hr']; exact List.mem_cons_self)) F sv v w' h1 (h2.withFn _) rfl hden) _ h4
            cases hb : o.st.bad with
            | true => exact (hbad' o ho hb F w' h1 h2).elim
            | false =>
            rw [hb] at hr'
            simp only [cond_false] at hr'
            split at hr'
            · rename_i hk
              rw [hk] at h5; cases h5
              split at hr'
              · rename_i sv hsv; simp only [Option.some.injEq] at hr'; exact fin sv hsv hr'.symm
              · cases hr'
            · rename_i hk
              rw [hk] at h5; cases h5
              split at hr'
              · rename_i sv hsv; simp only [Option.some.injEq] at hr'; exact fin sv hsv hr'.symm
              · cases hr'
            · cases hr'

theorem ev_ok {C : Cfg} (hC : CfgOK B G w0 P C) {any : (Task → Option (List Out)) → Array Oper → List SV → St → Option (List (List SV × St))} (hany : AnyOK B G w0 P any)
    {lp : (Task → Option (List Out)) → Code → List SV → St → Option (Option (List Out))} (hlp : LoopsOK B G w0 P lp)
    {rs : List ResultVar → List SV → St → Option SV} (hres : ResOK B G w0 P rs) : ∀ n, RecOK B G w0 P n (ev C any lp rs n)
  | 0 => fun _ _ h => by cases h
  | n + 1 => evStep_ok hC hany hlp hres (ev_ok hC hany hlp hres n)

theorem resS_ok : ResOK B G w0 P resS := by
  intro fn ts S sv h E tmps w _ ht
  have g := fun t => getD_den ht t
  have hres : ∀ {l : List ResultVar}, fn.results.toList = l → fn.results = l.toArray := fun e => by rw [← e]
  unfold resS at h
  split at h
  · rename_i e; simp only [Option.some.injEq] at h; subst h
    exact ⟨.tuple #[], by simp only [SV.den], by simp [results, hres e]⟩
  · rename_i t e; simp only [Option.some.injEq] at h; subst h
    exact ⟨tmps.getD t undef, g t, by simp [results, hres e]⟩
  · rename_i t u e; simp only [Option.some.injEq] at h; subst h
    exact ⟨.tuple #[tmps.getD t undef, tmps.getD u undef], by simp only [SV.den, denL_mk (g t) (denL_mk (g u) (r := []) rfl)], by simp [results, hres e]⟩
  · rename_i t u x e; simp only [Option.some.injEq] at h; subst h
    exact ⟨.tuple #[tmps.getD t undef, tmps.getD u undef, tmps.getD x undef], by simp only [SV.den, denL_mk (g t) (denL_mk (g u) (denL_mk (g x) (r := []) rfl))], by simp [results, hres e]⟩
  · cases h
end
end Go.Ev
