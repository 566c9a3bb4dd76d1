/- The evaluator over code: sequences, branches, loops by rounds, regions in the order of the text, calls; and its soundness. -/
import Derived.Test.YtlinfpchnonbpaaGreatDoorEvAlike
import Derived.Orders
import Derived.Recover
import Derived.Scope
namespace Go.Ev
open Go.RowKit (Below)
inductive Kind where
  | normal
  | exit (id : Nat)
  | ret
  | val (v : SV)
  | panic (v : SV)
  | panicX (v : SV)
structure Out where
  kind : Kind
  ts : List SV
  st : St
inductive Task where
  | code (c : Code) (ts : List SV) (S : St)
  | rounds (c : Code) (ts : List SV) (S : St)
  | call (f : Nat) (args : List SV) (S : St)
def QuietD (P : Program) (f : Nat) : Prop :=
  (∀ args w, (callFunc f args).run P w = .ok (.enter f args) w) ∧ ∀ args w, CallsD P f args .returning w fun e u' w' => (∃ v, e = .returned v) ∧ u' = .returning ∧ w' = w
def DOk (P : Program) (ds : List Deferred) : Prop :=
  ∀ d ∈ ds, ∃ f cap, d.target = .fn (.func f) cap ∧ QuietD P f
theorem DOk.nil (P : Program) : DOk P [] := fun _ h => by cases h
theorem leaves_quiet {P : Program} {fn : Func} {tmps : Array Value} {R : Ending → World → Prop} {w : World} {v : Value} (hr : (results fn tmps).run P w = .ok v w) (hR : R (.returned v) w) :
    ∀ ds : List Deferred, DOk P ds → Leaves P fn tmps R ds .returning w
  | [], _ => ⟨v, hr, hR⟩
  | d :: ds, h => by
    obtain ⟨f, cap, ht, hq⟩ := h d List.mem_cons_self
    obtain ⟨t, as⟩ := d
    simp only at ht; subst ht
    refine leaves_cons (f := f) (args := as ++ cap) (by intro e; cases e) (by simp only [invoke]; exact hq.1 _ _) ((hq.2 _ w).mono ?_)
    rintro e u' w' ⟨⟨u, rfl⟩, rfl, rfl⟩
    exact leaves_quiet hr hR ds fun x hx => h x (List.mem_cons_of_mem _ hx)
def entry1 (v : Value) (r : Bool) : PanicEntry := { v := v, recovered := r, goexit := false }
def DRel (E : Env) : List (Nat × List SV) → List Deferred → Prop
  | [], [] => True
  | (f, args) :: ds, d :: r => (∃ cap vs, d.target = .fn (.func f) cap ∧ SV.denL E args = some vs ∧ (d.args ++ cap).toList = vs) ∧ DRel E ds r
  | _, _ => False
theorem DRel.mono {E F : Env} (h : E.le F) : ∀ {ds : List (Nat × List SV)} {l : List Deferred}, DRel E ds l → DRel F ds l
  | [], [], _ => trivial
  | (f, args) :: ds, d :: r, k => by
    obtain ⟨⟨cap, vs, k1, k2, k3⟩, k4⟩ := k
    exact ⟨⟨cap, vs, k1, SV.denL_mono h _ _ k2, k3⟩, DRel.mono h k4⟩
  | [], _ :: _, k => k
  | _ :: _, [], k => k
structure Cfg where
  P : Program
  quietD : Nat → Bool
  pure : St → (Operand → SV) → Oper → Option (SV × St)
  op : St → (Operand → SV) → Oper → Option (List (SV × St))
  summ : Nat → List SV → St → Option (List (SV × St))
  enters : Nat → Bool
def evS (ts : List SV) : Operand → SV
  | .tmp t => ts.getD t (.val undef)
  | .const v => .val v
  | .global g => .val (.pointer (some ⟨g, 0, none⟩))
  | .func f => .val (.func (.func f) #[] #[])
def putS (dst : Option Tmp) (v : SV) (ts : List SV) : List SV :=
  match dst with
  | some d => ts.set d v
  | none => ts
def bindL {α β : Type} (l : List α) (f : α → Option (List β)) : Option (List β) :=
  match l with
  | [] => some []
  | x :: r => match f x with
    | none => none
    | some a => match bindL r f with
      | none => none
      | some b => some (a ++ b)
theorem bindL_mem {α β : Type} {f : α → Option (List β)} : ∀ {l : List α} {r : List β}, bindL l f = some r → ∀ x ∈ l, ∃ a, f x = some a ∧ ∀ y ∈ a, y ∈ r
  | [], r, _, x, hx => by cases hx
  | z :: l, r, h, x, hx => by
    simp only [bindL] at h
    split at h
    · cases h
    · rename_i a ha
      split at h
      · cases h
      · rename_i b hb
        cases h
        cases hx with
        | head => exact ⟨a, ha, fun y hy => List.mem_append_left _ hy⟩
        | tail _ hx =>
          obtain ⟨a', h1, h2⟩ := bindL_mem hb x hx
          exact ⟨a', h1, fun y hy => List.mem_append_right _ (h2 y hy)⟩
def dec (S : St) : SV → Option (List (Bool × St))
  | .val (.bool b) => some [(b, S)]
  | .sym n => match find n S.pc with
    | some b => some [(b, S)]
    | none => match find n S.sorts with
      | some .bool => some (branch S n true ++ branch S n false)
      | _ => none
  | _ => none
def wantedS (ops : Array Oper) (ts : List SV) (S : St) (o : Oper) : Option (List (Bool × St)) :=
  match o.guard with
  | none => some [(true, S)]
  | some (j, want) => match (ops[j]?).bind (·.dst) with
    | none => some [(false, S)]
    | some d => match ts[d]? with
      | none => some [(false, S)]
      | some (.val (.bool b)) => some [(b == want, S)]
      | some (.val (.tuple _)) => some [(false, S)]
      | some v => match dec S v with
        | none => none
        | some l => some (l.map fun p => (p.1 == want, p.2))
def callOf (ev : Operand → SV) (o : Oper) : Option (Nat × List SV) :=
  match o.op with
  | .call c => match c.callee with
    | .value f => match ev f with
      | .func (.func id) first cap => some (id, first ++ c.args.toList.map ev ++ cap)
      | .val (.func (.func id) first cap) => some (id, first.toList.map .val ++ c.args.toList.map ev ++ cap.toList.map .val)
      | _ => none
    | _ => none
  | _ => none
def tidy (S S' : St) : St := { S' with pan := none, ds := S.ds, fn := S.fn }
def valsOf (S : St) : List Out → Option (List (SV × St))
  | [] => some []
  | o :: r => match o.kind, valsOf S r with
    | .val v, some l => some ((v, tidy S o.st) :: l)
    | .panic v, some l => some ((.val undef, { tidy S o.st with pan := some v }) :: l)
    | _, _ => none
def deferOf (ev : Operand → SV) (o : Oper) : Option (Nat × List SV) :=
  match o.op with
  | .defer c => match c.callee with
    | .value f => match ev f with
      | .func (.func id) first cap => some (id, first ++ c.args.toList.map ev ++ cap)
      | .val (.func (.func id) first cap) => some (id, first.toList.map .val ++ c.args.toList.map ev ++ cap.toList.map .val)
      | _ => none
    | _ => none
  | _ => none
def panicOf (ev : Operand → SV) (o : Oper) : Option SV :=
  match o.op with
  | .panic x => match ev x with
    | .iface t v => some (.iface t v)
    | _ => none
  | .call c => match c.callee with
    | .builtin .panic => match c.args.toList with
      | [x] => match ev x with
        | .iface t v => some (.iface t v)
        | _ => none
      | _ => none
    | _ => none
  | _ => none
def tidyL (S : St) (l : List (SV × St)) : List (SV × St) := l.map fun p => (p.1, tidy S p.2)
def tidyP (S : St) (l : List (SV × St)) : List (SV × St) := l.map fun p => (p.1, { tidy S p.2 with pan := p.2.pan })
def evOp (C : Cfg) (rec : Task → Option (List Out)) (ts : List SV) (S : St) (o : Oper) : Option (List (SV × St)) :=
  match deferOf (evS ts) o with
  | some p => some [(.val undef, { S with ds := p :: S.ds, pan := none })]
  | none =>
  match panicOf (evS ts) o with
  | some v => some [(.val undef, { S with pan := some v })]
  | none =>
  match callOf (evS ts) o with
  | some (f, args) => match C.summ f args { S with pan := none } with
    | some r => some (tidyP S r)
    | none => bif C.enters f then (match rec (.call f args S) with | some outs => (match valsOf S outs with | some l => some (bif isInN f S.mrg then mergeV S l else l) | none => none) | none => none) else (match C.op S (evS ts) o with | some r => some (tidyL S r) | none => none)
  | none => match C.op S (evS ts) o with
    | some r => some (tidyL S r)
    | none => none
def evOps (C : Cfg) (rec : Task → Option (List Out)) (ops : Array Oper) : List Nat → List SV → St → Option (List (List SV × St))
  | [], ts, S => some [(ts, { S with pan := none })]
  | i :: r, ts, S =>
    match ops[i]? with
    | none => evOps C rec ops r ts S
    | some o => match wantedS ops ts S o with
      | none => none
      | some ws => bindL ws fun p =>
        match p.1 with
        | false => evOps C rec ops r (putS o.dst (.val undef) ts) p.2
        | true => match evOp C rec ts p.2 o with
          | none => none
          | some rs => bindL rs fun q => bif q.2.ends then some [(ts, q.2)] else evOps C rec ops r (putS o.dst q.1 ts) q.2
def resS (rs : List ResultVar) (ts : List SV) (_S : St) : Option SV :=
  match rs with
  | [] => some (.val (.tuple #[]))
  | [.tmp t] => some (ts.getD t (.val undef))
  | [.tmp t, .tmp u] => some (.tuple [ts.getD t (.val undef), ts.getD u (.val undef)])
  | [.tmp t, .tmp u, .tmp x] => some (.tuple [ts.getD t (.val undef), ts.getD u (.val undef), ts.getD x (.val undef)])
  | _ => none
def mapKind (f : Kind → Kind) (l : List Out) : List Out := l.map fun o => { o with kind := f o.kind }
def leaveBlock (id : Nat) : Kind → Kind
  | .exit j => bif Nat.beq j id then .normal else .exit j
  | k => k
def regOut (p : List SV × St) : Out := match p.2.pan with
  | some v => { kind := .panic v, ts := p.1, st := { p.2 with pan := none } }
  | none => { kind := .normal, ts := p.1, st := p.2 }
def regOutX (p : List SV × St) : Out := match p.2.pan with
  | some v => { kind := .panicX v, ts := p.1, st := { p.2 with pan := none } }
  | none => { kind := .normal, ts := p.1, st := p.2 }
def recovers (o : Oper) : Bool :=
  match o.op with
  | .call c => match c.callee with
    | .builtin .recover => c.args.isEmpty
    | _ => false
  | _ => false
def evOpsD (C : Cfg) (rec : Task → Option (List Out)) (v : SV) (ops : Array Oper) : List Nat → List SV → St → Bool → Option (List ((List SV × St) × Bool))
  | [], ts, S, p => some [((ts, { S with pan := none }), p)]
  | i :: r, ts, S, p =>
    match ops[i]? with
    | none => evOpsD C rec v ops r ts S p
    | some o => match wantedS ops ts S o with
      | none => none
      | some ws => bindL ws fun x =>
        match x.1 with
        | false => evOpsD C rec v ops r (putS o.dst (.val undef) ts) x.2 p
        | true => bif recovers o then (match p with
            | true => evOpsD C rec v ops r (putS o.dst v ts) x.2 false
            | false => evOpsD C rec v ops r (putS o.dst (.val .nilIface) ts) x.2 false)
          else match evOp C rec ts x.2 o with
          | none => none
          | some rs => bindL rs fun q => bif q.2.ends then some [((ts, q.2), p)] else evOpsD C rec v ops r (putS o.dst q.1 ts) q.2 p
def evD (C : Cfg) (rec : Task → Option (List Out)) (v : SV) : Code → List SV → St → Bool → Option (List (Out × Bool))
  | .region _ ops false, ts, S, p => match evOpsD C rec v ops (List.range ops.size) ts S p with
    | none => none
    | some l => some (l.map fun q => (regOut q.1, q.2))
  | .seq a b, ts, S, p => match evD C rec v a ts S p with
    | none => none
    | some l => bindL l fun q => bif q.1.st.bad then some [q] else match q.1.kind with
      | .normal => evD C rec v b q.1.ts q.1.st q.2
      | _ => some [q]
  | .cond c x y, ts, S, p => match dec S (evS ts c) with
    | none => none
    | some l => bindL l fun q => match q.1 with
      | true => evD C rec v x ts q.2 p
      | false => evD C rec v y ts q.2 p
  | c, ts, S, p => match rec (.code c ts S) with
    | none => none
    | some l => some (l.map fun o => (o, p))
def allQuiet (C : Cfg) : List (Nat × List SV) → Bool
  | [] => true
  | d :: r => C.quietD d.1 && allQuiet C r
def evDs (C : Cfg) (rec : Task → Option (List Out)) (rs : List ResultVar → List SV → St → Option SV) (fn : Func) (ts : List SV) (v : SV) : List (Nat × List SV) → St → Option (List Out)
  | [], S => some [{ kind := .panic v, ts := [], st := S }]
  | (f, args) :: r, S => bif C.enters f then (match C.P.funcs[f]? with
    | none => none
    | some g => match g.body with
      | none => none
      | some c => match evD C rec v c (args ++ List.replicate (g.ntmps - args.length) (.val undef)) { S with fn := f, ds := [] } true with
        | none => none
        | some l => bindL l fun q => bif q.1.st.bad then some [{ kind := .val (.val undef), ts := [], st := q.1.st }] else match q.1.kind with
          | .normal | .ret => match q.1.st.ds, rs g.results.toList q.1.ts q.1.st with
            | [], some _ => (match q.2 with
              | true => evDs C rec rs fn ts v r q.1.st
              | false => bif allQuiet C r then (match rs fn.results.toList ts q.1.st with
                | some x => some [{ kind := .val x, ts := [], st := q.1.st }]
                | none => none) else none)
            | _, _ => none
          | _ => none) else none
def resOut (C : Cfg) (rec : Task → Option (List Out)) (fn : Func) (rs : List ResultVar → List SV → St → Option SV) (o : Out) : Option (List Out) :=
  bif o.st.bad then some [{ kind := .val (.val undef), ts := [], st := o.st }] else match o.kind with
    | .normal | .ret => bif allQuiet C o.st.ds then (match rs fn.results.toList o.ts o.st with
      | some v => some [{ kind := .val v, ts := [], st := o.st }]
      | none => none) else none
    | .panic v => evDs C rec rs fn o.ts v o.st.ds o.st
    | .panicX v => match o.st.ds with
      | [] => some [{ kind := .panic v, ts := [], st := o.st }]
      | _ => none
    | _ => none
def resOuts (C : Cfg) (rec : Task → Option (List Out)) (fn : Func) (rs : List ResultVar → List SV → St → Option SV) (l : List Out) : Option (List Out) := bindL l (resOut C rec fn rs)
def gcOut (n : Nat) (o : Out) : Out :=
  match o.kind with
  | .val v => bif o.st.bad then o else { o with st := gcSt n v o.st }
  | _ => o
def evStep (C : Cfg) (any : (Task → Option (List Out)) → Array Oper → List SV → St → Option (List (List SV × St)))
    (lp : (Task → Option (List Out)) → Code → List SV → St → Option (Option (List Out)))
    (rs : List ResultVar → List SV → St → Option SV) (rec : Task → Option (List Out)) : Task → Option (List Out)
  | .code c ts S => match c with
    | .skip | .label _ => some [{ kind := .normal, ts, st := S }]
    | .region _ ops draw => match draw with
      | false => (match evOps C rec ops (List.range ops.size) ts S with
        | none => none
        | some l => some (l.map regOut))
      | true => match any rec ops ts S with
        | none => none
        | some l => some (l.map regOutX)
    | .seq a b => match rec (.code a ts S) with
      | none => none
      | some l => bindL l fun o => bif o.st.bad then some [o] else match o.kind with
        | .normal => rec (.code b o.ts o.st)
        | _ => some [o]
    | .cond c x y => match dec S (evS ts c) with
      | none => none
      | some l => bindL l fun p => rec (.code (match p.1 with | true => x | false => y) ts p.2)
    | .block id c => match rec (.code c ts S) with
      | none => none
      | some l => some (mapKind (leaveBlock id) l)
    | .loop c => match lp rec c ts S with
      | some r => r
      | none => rec (.rounds c ts S)
    | .scope c => rec (.code c ts S)
    | .exit id => some [{ kind := .exit id, ts, st := S }]
    | .ret => some [{ kind := .ret, ts, st := S }]
    | _ => none
  | .rounds c ts S => match rec (.code c ts S) with
    | none => none
    | some l => bindL l fun o => bif o.st.bad then some [o] else match o.kind with
      | .normal => rec (.rounds c o.ts o.st)
      | _ => some [o]
  | .call f args S => match C.P.funcs[f]? with
    | none => none
    | some fn => match fn.body with
      | none => none
      | some c => match rec (.code c (args ++ List.replicate (fn.ntmps - args.length) (.val undef)) { S with fn := f, ds := [] }) with
        | none => none
        | some l => match resOuts C rec fn rs l with
          | none => none
          | some l => some (l.map (gcOut S.next))
def ev (C : Cfg) (any : (Task → Option (List Out)) → Array Oper → List SV → St → Option (List (List SV × St)))
    (lp : (Task → Option (List Out)) → Code → List SV → St → Option (Option (List Out)))
    (rs : List ResultVar → List SV → St → Option SV) : Nat → Task → Option (List Out)
  | 0 => fun _ => none
  | n + 1 => evStep C any lp rs (ev C any lp rs n)
def Kind.fits (F : Env) : Kind → Exit → Prop
  | .normal, e => e = .normal
  | .exit id, e => e = .exit id
  | .ret, e => e = .ret
  | .panic sv, e => ∃ v, sv.den F = some v ∧ e = .panic [entry1 v false]
  | .panicX sv, e => ∃ v, sv.den F = some v ∧ e = .panic [entry1 v false]
  | .val _, _ => False
def Kind.keeps : Kind → Prop
  | .panicX _ => False
  | _ => True
section
variable (B G : Nat) (w0 : Start) (P : Program)
def CodeOK (c : Code) (ts : List SV) (S : St) (outs : List Out) : Prop :=
  ∀ (E : Env) (a : Act) (w : World) (Q : Exit → Act → World → Prop), Rel B G w0 E S w → SV.denL E ts = some a.tmps.toList → DRel E S.ds a.defers →
    (∀ o ∈ outs, ∀ (F : Env) (e : Exit) (a' : Act) (w' : World), E.le F → Rel B G w0 F o.st w' → (o.kind.keeps → SV.denL F o.ts = some a'.tmps.toList) → DRel F o.st.ds a'.defers → o.kind.fits F e → Q e a' w') →
    (∀ o ∈ outs, o.st.bad = true → ∀ (F : Env) (w' : World), E.le F → Rel B G w0 F o.st w' → False) →
    c.wp P Q a w
def CallOK (f : Nat) (args : List SV) (S : St) (outs : List Out) : Prop :=
  ∀ (E : Env) (vs : List Value) (w : World) (R : Ending → World → Prop), Rel B G w0 E S w → SV.denL E args = some vs →
    (∀ o ∈ outs, ∀ (F : Env) (sv : SV) (v : Value) (w' : World), E.le F → Rel B G w0 F o.st w' → o.kind = .val sv → sv.den F = some v → R (.returned v) w') →
    (∀ o ∈ outs, ∀ (F : Env) (sv : SV) (v : Value) (w' : World), E.le F → Rel B G w0 F o.st w' → o.kind = .panic sv → sv.den F = some v → R (.panicked [entry1 v false]) w') →
    (∀ o ∈ outs, o.st.bad = true → ∀ (F : Env) (w' : World), E.le F → Rel B G w0 F o.st w' → False) →
    Calls P f vs.toArray w R
def RoundsOK (n : Nat) (c : Code) (ts : List SV) (S : St) (outs : List Out) : Prop :=
  ∀ (E : Env) (a : Act) (w : World) (Q : Exit → Act → World → Prop), Rel B G w0 E S w → SV.denL E ts = some a.tmps.toList → DRel E S.ds a.defers →
    (∀ o ∈ outs, ∀ (F : Env) (e : Exit) (a' : Act) (w' : World), E.le F → Rel B G w0 F o.st w' → (o.kind.keeps → SV.denL F o.ts = some a'.tmps.toList) → DRel F o.st.ds a'.defers → o.kind.fits F e → Q e a' w') →
    (∀ o ∈ outs, o.st.bad = true → ∀ (F : Env) (w' : World), E.le F → Rel B G w0 F o.st w' → False) →
    Code.rounds P c Q n a w
def TaskOK (n : Nat) : Task → List Out → Prop
  | .code c ts S, outs => CodeOK B G w0 P c ts S outs
  | .rounds c ts S, outs => RoundsOK B G w0 P n c ts S outs
  | .call f args S, outs => CallOK B G w0 P f args S outs
def RecOK (n : Nat) (rec : Task → Option (List Out)) : Prop := ∀ t outs, rec t = some outs → TaskOK B G w0 P n t outs
def OpOK (op : St → (Operand → SV) → Oper → Option (List (SV × St))) : Prop :=
  ∀ S ev o rs, op S ev o = some rs → ∀ (E : Env) (evr : Operand → Value) (w : World), Rel B G w0 E S w → (∀ x, (ev x).den E = some (evr x)) →
    ∃ p ∈ rs, ∃ (F : Env) (w' : World), E.le F ∧ Rel B G w0 F p.2 w' ∧ (p.2.bad = true ∨ ∃ v : Value, p.1.den F = some v ∧
      ((execOp evr o).run P w = .ok (.value v) w' ∨ (v = undef ∧ (execOp evr o).run P w = .ok .skip w')))
def PureOK (op : St → (Operand → SV) → Oper → Option (SV × St)) : Prop :=
  ∀ S ev o sv S', op S ev o = some (sv, S') → S'.heap = S.heap ∧ S'.next = S.next ∧ ∀ (E : Env) (evr : Operand → Value) (w : World), Rel B G w0 E S w → (∀ x, (ev x).den E = some (evr x)) →
    ∃ (F : Env) (v : Value), E.le F ∧ Rel B G w0 F S' w ∧ sv.den F = some v ∧ F.ρ = E.ρ ∧ ∀ w, (execOp evr o).run P w = .ok (.value v) w
def SummOK (summ : Nat → List SV → St → Option (List (SV × St))) : Prop :=
  ∀ f args S rs, S.pan = none → summ f args S = some rs → (∀ as w, (callFunc f as).run P w = .ok (.enter f as) w) ∧
    ∀ (E : Env) (vs : List Value) (w : World) (R : Ending → World → Prop), Rel B G w0 E S w → SV.denL E args = some vs →
    (∀ p ∈ rs, p.2.pan = none → ∀ (F : Env) (v : Value) (w' : World), E.le F → Rel B G w0 F p.2 w' → p.1.den F = some v → R (.returned v) w') →
    (∀ p ∈ rs, ∀ sv, p.2.pan = some sv → ∀ (F : Env) (v : Value) (w' : World), E.le F → Rel B G w0 F p.2 w' → sv.den F = some v → R (.panicked [entry1 v false]) w') →
    (∀ p ∈ rs, p.2.bad = true → ∀ (F : Env) (w' : World), E.le F → Rel B G w0 F p.2 w' → False) → Calls P f vs.toArray w R
structure CfgOK (C : Cfg) : Prop where
  prog : C.P = P
  pure : PureOK B G w0 P C.pure
  op : OpOK B G w0 P C.op
  summ : SummOK B G w0 P C.summ
  quietD : ∀ f, C.quietD f = true → QuietD P f
  enters : ∀ f, C.enters f = true → ∀ args w, (callFunc f args).run P w = .ok (.enter f args) w
def LoopsOK (lp : (Task → Option (List Out)) → Code → List SV → St → Option (Option (List Out))) : Prop :=
  ∀ n rec, RecOK B G w0 P n rec → ∀ c ts S outs, lp rec c ts S = some (some outs) → CodeOK B G w0 P (.loop c) ts S outs
def AnyOK (any : (Task → Option (List Out)) → Array Oper → List SV → St → Option (List (List SV × St))) : Prop :=
  ∀ n rec, RecOK B G w0 P n rec → ∀ id ops ts S l, any rec ops ts S = some l → CodeOK B G w0 P (.region id ops true) ts S (l.map regOutX)
def ResOK (rs : List ResultVar → List SV → St → Option SV) : Prop :=
  ∀ fn ts S sv, rs fn.results.toList ts S = some sv → ∀ (E : Env) (tmps : Array Value) (w : World), Rel B G w0 E S w → SV.denL E ts = some tmps.toList →
    ∃ v, sv.den E = some v ∧ (results fn tmps).run P w = .ok v w
end
theorem getD_den {E : Env} {ts : List SV} {tmps : Array Value} (h : SV.denL E ts = some tmps.toList) (t : Nat) :
    (ts.getD t (.val undef)).den E = some (tmps.getD t undef) := by
  have hl := denL_length h
  rcases Nat.lt_or_ge t ts.length with h' | h'
  · obtain ⟨v, hv, hd⟩ := denL_get h (List.getElem?_eq_getElem h')
    have e1 : ts.getD t (.val undef) = ts[t] := by simp [List.getD, List.getElem?_eq_getElem h']
    rw [e1, hd]
    simp only [Array.getElem?_toList] at hv
    simp [Array.getD_eq_getD_getElem?, hv]
  · have e1 : ts.getD t (.val undef) = .val undef := by simp [List.getD, List.getElem?_eq_none h']
    have e2 : tmps[t]? = none := by simp; simpa using (by omega : tmps.toList.length ≤ t)
    rw [e1, Array.getD_eq_getD_getElem?, e2]
    simp only [SV.den, Option.getD_none]
theorem evS_den {E : Env} {ts : List SV} {a : Act} (h : SV.denL E ts = some a.tmps.toList) (x : Operand) : (evS ts x).den E = some (a.eval x) := by
  cases x with
  | tmp t => exact getD_den h t
  | const v => simp only [evS, SV.den, Act.eval]
  | global g => simp only [evS, SV.den, Act.eval]
  | func f => simp only [evS, SV.den, Act.eval]
theorem putS_den {E : Env} {ts : List SV} {a : Act} (h : SV.denL E ts = some a.tmps.toList) (dst : Option Tmp) {sv : SV} {v : Value} (hv : sv.den E = some v) :
    SV.denL E (putS dst sv ts) = some (a.put dst v).tmps.toList := by
  cases dst with
  | none => exact h
  | some d =>
    simp only [putS, Act.put, Array.toList_setIfInBounds]
    exact denL_set h hv d
theorem put_defers (a : Act) (dst : Option Tmp) (v : Value) : (a.put dst v).defers = a.defers := by cases dst <;> rfl
section
variable {B G : Nat} {w0 : Start} {P : Program}
theorem dec_ok {S : St} {sv : SV} {l : List (Bool × St)} (h : dec S sv = some l) {E : Env} {w : World} (hr : Rel B G w0 E S w) {v : Value} (hv : sv.den E = some v) :
    ∃ p ∈ l, v = .bool p.1 ∧ Rel B G w0 E p.2 w := by
  unfold dec at h
  split at h
  · rename_i b
    simp only [SV.den, Option.some.injEq] at hv h
    subst h hv
    exact ⟨(b, S), by simp, rfl, hr⟩
  · rename_i n
    split at h
    · rename_i b hb
      simp only [Option.some.injEq] at h
      subst h
      have := hr.pc n b (find_mem hb)
      simp only [SV.den] at hv
      rw [this] at hv
      simp only [Option.some.injEq] at hv
      exact ⟨(b, S), by simp, hv.symm, hr⟩
    · split at h
      · rename_i hs
        simp only [Option.some.injEq] at h
        subst h
        obtain ⟨u, hu, b, rfl⟩ := hr.sorts _ _ hs
        simp only [SV.den] at hv
        rw [hu] at hv
        simp only [Option.some.injEq] at hv
        subst hv
        obtain ⟨p, hp, h1, h2⟩ := branch_ok hr hu
        refine ⟨p, ?_, by rw [h1], h2⟩
        cases b with
        | true => exact List.mem_append_left _ hp
        | false => exact List.mem_append_right _ hp
      · cases h
  · cases h
theorem wanted_ok {ops : Array Oper} {ts : List SV} {S : St} {o : Oper} {l : List (Bool × St)} (h : wantedS ops ts S o = some l) {E : Env} {a : Act} {w : World}
    (hr : Rel B G w0 E S w) (ht : SV.denL E ts = some a.tmps.toList) : ∃ p ∈ l, Region.wanted o (yielded ops a.tmps) = p.1 ∧ Rel B G w0 E p.2 w := by
  unfold wantedS at h
  split at h
  · rename_i hg
    simp only [Option.some.injEq] at h; subst h
    exact ⟨_, List.mem_cons_self, by simp [Region.wanted, hg], hr⟩
  · rename_i j want hg
    split at h
    · rename_i hd
      simp only [Option.some.injEq] at h; subst h
      exact ⟨_, List.mem_cons_self, by simp [Region.wanted, hg, yielded, hd], hr⟩
    · rename_i d hd
      have hl := denL_length ht
      split at h
      · rename_i hn
        simp only [Option.some.injEq] at h; subst h
        have hn' : a.tmps[d]? = none := by
          have : ts.length ≤ d := by
            rcases Nat.lt_or_ge d ts.length with h' | h'
            · simp [List.getElem?_eq_getElem h'] at hn
            · exact h'
          simp; simpa using (by omega : a.tmps.toList.length ≤ d)
        exact ⟨_, List.mem_cons_self, by simp [Region.wanted, hg, yielded, hd, hn'], hr⟩
      · rename_i b hb
        simp only [Option.some.injEq] at h; subst h
        obtain ⟨v, hv, hden⟩ := denL_get ht hb
        simp only [SV.den, Option.some.injEq] at hden; subst hden
        simp only [Array.getElem?_toList] at hv
        refine ⟨_, List.mem_cons_self, ?_, hr⟩
        simp [Region.wanted, hg, yielded, hd, hv]
      · rename_i vs hb
        simp only [Option.some.injEq] at h; subst h
        obtain ⟨v, hv, hden⟩ := denL_get ht hb
        simp only [SV.den, Option.some.injEq] at hden; subst hden
        simp only [Array.getElem?_toList] at hv
        exact ⟨_, List.mem_cons_self, by simp [Region.wanted, hg, yielded, hd, hv], hr⟩
      · rename_i v _ _ hb
        split at h
        · cases h
        · rename_i l' hl'
          simp only [Option.some.injEq] at h; subst h
          obtain ⟨u, hu, hden⟩ := denL_get ht hb
          obtain ⟨p, hp, rfl, hrel⟩ := dec_ok hl' hr hden
          simp only [Array.getElem?_toList] at hu
          exact ⟨(p.1 == want, p.2), List.mem_map.2 ⟨p, hp, rfl⟩, by simp [Region.wanted, hg, yielded, hd, hu], hrel⟩
theorem Rel.frame {E : Env} {S S' : St} {w : World} (h : Rel B G w0 E S w) (e : S' = { S with pan := S'.pan, ds := S'.ds, fn := S'.fn }) : Rel B G w0 E S' w := by
  rw [e]; exact { h with }
theorem Rel.tidy {E : Env} {S' : St} {w : World} (h : Rel B G w0 E S' w) (S : St) : Rel B G w0 E (tidy S S') w := h.frame rfl
theorem Rel.untidy {E : Env} {S S' : St} {w : World} (h : Rel B G w0 E (Ev.tidy S S') w) : Rel B G w0 E S' w := h.frame rfl
theorem dec_frame {S : St} {sv : SV} {l : List (Bool × St)} (h : dec S sv = some l) : ∀ p ∈ l, p.2.ds = S.ds := by
  unfold dec at h
  split at h
  · simp only [Option.some.injEq] at h; subst h; intro p hp; simp only [List.mem_singleton] at hp; subst hp; rfl
  · split at h
    · simp only [Option.some.injEq] at h; subst h; intro p hp; simp only [List.mem_singleton] at hp; subst hp; rfl
    · split at h
      · simp only [Option.some.injEq] at h; subst h; intro p hp
        rcases List.mem_append.1 hp with hp | hp <;> exact branch_ds p hp
      · cases h
  · cases h
theorem wanted_frame {ops : Array Oper} {ts : List SV} {S : St} {o : Oper} {l : List (Bool × St)} (h : wantedS ops ts S o = some l) : ∀ p ∈ l, p.2.ds = S.ds := by
  unfold wantedS at h
  have one : ∀ {b : Bool}, some [(b, S)] = some l → ∀ p ∈ l, p.2.ds = S.ds := fun h => by
    simp only [Option.some.injEq] at h; subst h; intro p hp; simp only [List.mem_singleton] at hp; subst hp; rfl
  split at h
  · exact one h
  · split at h
    · exact one h
    · split at h
      · exact one h
      · exact one h
      · exact one h
      · split at h
        · cases h
        · rename_i l' hl'
          simp only [Option.some.injEq] at h; subst h
          intro p hp
          obtain ⟨q, hq, rfl⟩ := List.mem_map.1 hp
          exact dec_frame hl' q hq
theorem valsOf_mem {S : St} : ∀ {outs : List Out} {l : List (SV × St)}, valsOf S outs = some l → ∀ o ∈ outs, (∃ v, o.kind = .val v ∧ (v, tidy S o.st) ∈ l) ∨ ∃ v, o.kind = .panic v ∧ (.val undef, { tidy S o.st with pan := some v }) ∈ l
  | [], l, _, o, ho => by cases ho
  | x :: r, l, h, o, ho => by
    simp only [valsOf] at h
    split at h
    · rename_i v l' hk hl
      simp only [Option.some.injEq] at h; subst h
      cases ho with
      | head => exact .inl ⟨v, hk, List.mem_cons_self⟩
      | tail _ ho =>
        rcases valsOf_mem hl o ho with ⟨u, h1, h2⟩ | ⟨u, h1, h2⟩
        · exact .inl ⟨u, h1, List.mem_cons_of_mem _ h2⟩
        · exact .inr ⟨u, h1, List.mem_cons_of_mem _ h2⟩
    · rename_i v l' hk hl
      simp only [Option.some.injEq] at h; subst h
      cases ho with
      | head => exact .inr ⟨v, hk, List.mem_cons_self⟩
      | tail _ ho =>
        rcases valsOf_mem hl o ho with ⟨u, h1, h2⟩ | ⟨u, h1, h2⟩
        · exact .inl ⟨u, h1, List.mem_cons_of_mem _ h2⟩
        · exact .inr ⟨u, h1, List.mem_cons_of_mem _ h2⟩
    · cases h
theorem denL_map {E : Env} {ev : Operand → SV} {evr : Operand → Value} (h : ∀ x, (ev x).den E = some (evr x)) : ∀ l : List Operand, SV.denL E (l.map ev) = some (l.map evr)
  | [] => rfl
  | x :: r => by simpa using denL_mk (h x) (denL_map h r)
theorem callOf_ok {ev : Operand → SV} {o : Oper} {f : Nat} {args : List SV} (h : callOf ev o = some (f, args)) {E : Env} {evr : Operand → Value} (he : ∀ x, (ev x).den E = some (evr x)) :
    ∃ vs : List Value, SV.denL E args = some vs ∧ execOp evr o = callFunc f vs.toArray := by
  unfold callOf at h
  split at h
  · rename_i c hc
    split at h
    · rename_i fo hf
      have hden := he fo
      have hargs := denL_map he c.args.toList
      split at h
      · rename_i id first cap hv
        simp only [Option.some.injEq, Prod.mk.injEq] at h
        obtain ⟨rfl, rfl⟩ := h
        rw [hv] at hden
        simp only [SV.den] at hden
        split at hden
        · rename_i a b ha hb
          simp only [Option.some.injEq] at hden
          refine ⟨_, denL_append (denL_append ha hargs) hb, ?_⟩
          simp only [execOp, hc, resolve, hf, ← hden, Deferred.ofValue, invoke]
          simp only [bind, Sem.bind, Pure.pure]
          refine congrArg (callFunc id) (Array.toList_inj.1 ?_)
          simp
        · cases hden
      · rename_i id first cap hv
        simp only [Option.some.injEq, Prod.mk.injEq] at h
        obtain ⟨rfl, rfl⟩ := h
        rw [hv] at hden
        simp only [SV.den, Option.some.injEq] at hden
        refine ⟨_, denL_append (denL_append (denL_vals _) hargs) (denL_vals _), ?_⟩
        simp only [execOp, hc, resolve, hf, ← hden, Deferred.ofValue, invoke]
        simp only [bind, Sem.bind, Pure.pure]
        refine congrArg (callFunc id) (Array.toList_inj.1 ?_)
        simp
      · cases h
    · cases h
  · cases h
theorem deferOf_ok {ev : Operand → SV} {o : Oper} {f : Nat} {args : List SV} (h : deferOf ev o = some (f, args)) {E : Env} {evr : Operand → Value} (he : ∀ x, (ev x).den E = some (evr x)) :
    ∃ (d : Deferred) (cap : Array Value) (vs : List Value), d.target = .fn (.func f) cap ∧ SV.denL E args = some vs ∧ (d.args ++ cap).toList = vs ∧ ∀ w, (execOp evr o).run P w = .ok (.defer d) w := by
  unfold deferOf at h
  split at h
  · rename_i c hc
    split at h
    · rename_i fo hf
      have hden := he fo
      have hargs := denL_map he c.args.toList
      split at h
      · rename_i id first cap hv
        simp only [Option.some.injEq, Prod.mk.injEq] at h
        obtain ⟨rfl, rfl⟩ := h
        rw [hv] at hden
        simp only [SV.den] at hden
        split at hden
        · rename_i a b ha hb
          simp only [Option.some.injEq] at hden
          exact ⟨{ target := .fn (.func id) b.toArray, args := a.toArray ++ c.args.map evr }, b.toArray, _, rfl, denL_append (denL_append ha hargs) hb, by simp, fun w => by simp only [execOp, hc, resolve, hf, ← hden, Deferred.ofValue]; rfl⟩
        · cases hden
      · rename_i id first cap hv
        simp only [Option.some.injEq, Prod.mk.injEq] at h
        obtain ⟨rfl, rfl⟩ := h
        rw [hv] at hden
        simp only [SV.den, Option.some.injEq] at hden
        exact ⟨{ target := .fn (.func id) cap, args := first ++ c.args.map evr }, cap, _, rfl, denL_append (denL_append (denL_vals _) hargs) (denL_vals _), by simp, fun w => by simp only [execOp, hc, resolve, hf, ← hden, Deferred.ofValue]; rfl⟩
      · cases h
    · cases h
  · cases h
theorem panicOf_ok {ev : Operand → SV} {o : Oper} {sv : SV} (h : panicOf ev o = some sv) {E : Env} {evr : Operand → Value} (he : ∀ x, (ev x).den E = some (evr x)) :
    ∃ v, sv.den E = some v ∧ ∀ w, (execOp evr o).run P w = .halt (.panic v) w := by
  unfold panicOf at h
  have key : ∀ {x : Operand} {t : TypeId} {y : SV}, ev x = .iface t y → ∃ v, (SV.iface t y).den E = some v ∧ ∃ u, v = .iface t u ∧ evr x = .iface t u := fun {x t y} hx => by
    have := he x
    rw [hx] at this
    refine ⟨_, this, ?_⟩
    simp only [SV.den] at this
    split at this
    · rename_i u hu
      simp only [Option.some.injEq] at this
      exact ⟨u, this.symm, this.symm⟩
    · cases this
  split at h
  · rename_i x hx
    split at h
    · rename_i t y hy
      simp only [Option.some.injEq] at h; subst h
      obtain ⟨v, h1, u, rfl, h3⟩ := key hy
      exact ⟨_, h1, fun w => by simp only [execOp, hx, h3, Instr.panic]; rfl⟩
    · cases h
  · rename_i c hc
    split at h
    · rename_i hcal
      split at h
      · rename_i x hargs
        split at h
        · rename_i t y hy
          simp only [Option.some.injEq] at h; subst h
          obtain ⟨v, h1, u, rfl, h3⟩ := key hy
          refine ⟨_, h1, fun w => ?_⟩
          have hargs' : c.args = #[x] := by rw [← Array.toList_inj]; simpa using hargs
          simp only [execOp, hc, resolve, hcal, hargs', Sem.run_bind, Sem.run_pure, Result.andThen_ok, invoke, builtin]
          simp [h3, Instr.panic, goPanic]
        · cases h
      · cases h
    · cases h
  · cases h
theorem evOp_ok {C : Cfg} (hC : CfgOK B G w0 P C) {rec : Task → Option (List Out)} {n : Nat} (hrec : RecOK B G w0 P n rec) {ts : List SV} {S : St} {o : Oper} {rs : List (SV × St)}
    (h : evOp C rec ts S o = some rs) {E : Env} {a : Act} {w : World} (hr : Rel B G w0 E S w) (ht : SV.denL E ts = some a.tmps.toList) (hd : DRel E S.ds a.defers)
    {K : Act → World → Prop} {Q : Exit → Act → World → Prop}
    (hK' : ∀ p ∈ rs, p.2.pan = none → ∀ (F : Env) (v : Value) (a' : Act) (w' : World), E.le F → Rel B G w0 F p.2 w' → p.1.den F = some v → DRel F p.2.ds a'.defers → SV.denL F (putS o.dst p.1 ts) = some a'.tmps.toList → K a' w')
    (hP : ∀ p ∈ rs, ∀ sv, p.2.pan = some sv → ∀ (F : Env) (v : Value) (w' : World), E.le F → Rel B G w0 F p.2 w' → sv.den F = some v → DRel F p.2.ds a.defers → Q (.panic [entry1 v false]) a w')
    (hbad : ∀ p ∈ rs, p.2.bad = true → ∀ (F : Env) (w' : World), E.le F → Rel B G w0 F p.2 w' → False) : o.wp P a w K Q := by
  have he := evS_den ht
  have hK : ∀ p ∈ rs, p.2.pan = none → p.2.ds = S.ds → ∀ (F : Env) (v : Value) (w' : World), E.le F → Rel B G w0 F p.2 w' → p.1.den F = some v → K (a.put o.dst v) w' := fun p hp hpan hds F v w' h1 h2 h3 =>
    hK' p hp hpan F v _ w' h1 h2 h3 (by rw [put_defers, hds]; exact hd.mono h1) (putS_den (SV.denL_mono h1 _ _ ht) o.dst h3)
  have hop : (match C.op S (evS ts) o with | some r => some (tidyL S r) | none => none) = some rs → o.wp P a w K Q := fun h => by
    split at h
    case h_2 => cases h
    rename_i r hr'
    simp only [Option.some.injEq] at h; subst h
    obtain ⟨p, hp, F, w', hle, hrel, hrun⟩ := hC.op S (evS ts) o r hr' E a.eval w hr he
    have hm : (p.1, tidy S p.2) ∈ tidyL S r := List.mem_map.2 ⟨p, hp, rfl⟩
    unfold Oper.wp
    rcases hrun with hb | ⟨v, hden, hrun⟩
    · exact (hbad _ hm hb F w' hle (hrel.tidy S)).elim
    rcases hrun with hrun | ⟨rfl, hrun⟩
    · rw [hrun]; exact hK _ hm rfl rfl F v w' hle (hrel.tidy S) hden
    · rw [hrun]; exact hK _ hm rfl rfl F undef w' hle (hrel.tidy S) hden
  unfold evOp at h
  split at h
  · rename_i p hf
    simp only [Option.some.injEq] at h; subst h
    obtain ⟨d, cap, vs, h1, h2, h3, h4⟩ := deferOf_ok (P := P) (f := p.1) (args := p.2) hf he
    unfold Oper.wp
    rw [h4 w, Oper.upon_defer]
    refine hK' _ List.mem_cons_self rfl E undef _ w E.le_refl (hr.frame rfl) (by simp only [SV.den]) ?_ ?_
    · rw [put_defers]
      exact ⟨⟨cap, vs, h1, h2, h3⟩, hd⟩
    · exact putS_den (a := { a with defers := d :: a.defers }) (E := E) (ts := ts) ht o.dst (sv := .val undef) (v := undef) (by simp only [SV.den])
  split at h
  · rename_i sv hp
    simp only [Option.some.injEq] at h; subst h
    obtain ⟨v, h1, h2⟩ := panicOf_ok (P := P) hp he
    unfold Oper.wp
    rw [h2 w, Oper.upon_panic]
    exact hP _ List.mem_cons_self sv rfl E v w E.le_refl (hr.frame rfl) h1 hd
  split at h
  · rename_i f args hc
    obtain ⟨vs, hvs, hex⟩ := callOf_ok hc he
    split at h
    · rename_i r hs
      simp only [Option.some.injEq] at h; subst h
      obtain ⟨hent, hs⟩ := hC.summ f args { S with pan := none } _ rfl hs
      unfold Oper.wp
      rw [hex, hent]
      refine hs E vs w _ (hr.frame rfl) hvs (fun p hp hpan F v w' hle hrel hden => ?_) (fun p hp sv hpan F v w' hle hrel hden => ?_) (fun p hp hb F w' hle hrel => ?_)
      · exact hK _ (List.mem_map.2 ⟨p, hp, rfl⟩) hpan rfl F v w' hle (hrel.frame rfl) hden
      · exact hP _ (List.mem_map.2 ⟨p, hp, rfl⟩) sv hpan F v w' hle (hrel.frame rfl) hden (hd.mono hle)
      · exact hbad _ (List.mem_map.2 ⟨p, hp, rfl⟩) hb F w' hle (hrel.frame rfl)
    · cases hen : C.enters f with
      | true =>
        rw [hen] at h
        simp only [cond_true] at h
        split at h
        · rename_i outs houts
          split at h
          case h_2 => cases h
          rename_i l0 hl0
          simp only [Option.some.injEq] at h
          have hends : ∀ p ∈ l0, p.2.ends = true → p ∈ rs := fun p hp he => by
            cases hm : isInN f S.mrg with
            | true => rw [hm] at h; subst h; exact mergeV_ends hp he
            | false => rw [hm] at h; subst h; exact hp
          have := hrec _ _ houts
          unfold Oper.wp
          rw [hex, hC.enters f hen]
          refine this E vs w _ hr hvs (fun o' ho' F sv v w' hle hrel hk hden => ?_) (fun o' ho' F sv v w' hle hrel hk hden => ?_) (fun o' ho' hb F w' hle hrel => ?_)
          · rcases valsOf_mem hl0 o' ho' with ⟨u, hu, hmem⟩ | ⟨u, hu, hmem⟩
            · rw [hk] at hu; cases hu
              cases hb : o'.st.bad with
              | true => exact (hbad _ (hends _ hmem (by simp [St.ends, tidy, hb])) hb F w' hle (hrel.tidy S)).elim
              | false =>
                cases hm : isInN f S.mrg with
                | false => rw [hm] at h; subst h; exact hK _ hmem rfl rfl F v w' hle (hrel.tidy S) hden
                | true =>
                  rw [hm] at h
                  simp only [cond_true] at h
                  subst h
                  rcases mergeV_ok hr hmem (by simp [St.ends, tidy, hb]) hle (hrel.tidy S) hden with hq | ⟨q, hq, q1, q2, F', q3, q4, q5⟩
                  · exact hK _ hq rfl rfl F v w' hle (hrel.tidy S) hden
                  · refine hK _ hq ?_ q2 F' v w' q3 q4 q5
                    unfold St.ends at q1
                    cases hp : q.2.pan with
                    | none => rfl
                    | some x => rw [hp] at q1; simp at q1
            · rw [hk] at hu; cases hu
          · rcases valsOf_mem hl0 o' ho' with ⟨u, hu, hmem⟩ | ⟨u, hu, hmem⟩
            · rw [hk] at hu; cases hu
            · rw [hk] at hu; cases hu
              exact hP _ (hends _ hmem (by simp [St.ends])) _ rfl F v w' hle (hrel.frame rfl) hden (hd.mono hle)
          · rcases valsOf_mem hl0 o' ho' with ⟨u, hu, hmem⟩ | ⟨u, hu, hmem⟩
            · exact hbad _ (hends _ hmem (by simp [St.ends, tidy, hb])) hb F w' hle (hrel.tidy S)
            · exact hbad _ (hends _ hmem (by simp [St.ends])) hb F w' hle (hrel.frame rfl)
        · cases h
      | false => rw [hen] at h; exact hop h
  · exact hop h
theorem ends_cases {S : St} (h : S.ends = false) : S.bad = false ∧ S.pan = none := by
  unfold St.ends at h
  simp only [Bool.or_eq_false_iff] at h
  refine ⟨h.1, ?_⟩
  cases hp : S.pan with
  | none => rfl
  | some v => rw [hp] at h; cases h.2
theorem ends_bad {S : St} (h : S.bad = true) : S.ends = true := by simp [St.ends, h]
theorem ends_pan {S : St} {v : SV} (h : S.pan = some v) : S.ends = true := by simp [St.ends, h]
theorem evOps_ok {C : Cfg} (hC : CfgOK B G w0 P C) {rec : Task → Option (List Out)} {n : Nat} (hrec : RecOK B G w0 P n rec) {ops : Array Oper} :
    ∀ (l : List Nat) (ts : List SV) (S : St) (r : List (List SV × St)), evOps C rec ops l ts S = some r →
    ∀ (E : Env) (a : Act) (w : World) (Q : Exit → Act → World → Prop), Rel B G w0 E S w → SV.denL E ts = some a.tmps.toList → DRel E S.ds a.defers →
    (∀ p ∈ r, p.2.pan = none → ∀ (F : Env) (a' : Act) (w' : World), E.le F → Rel B G w0 F p.2 w' → SV.denL F p.1 = some a'.tmps.toList → DRel F p.2.ds a'.defers → Q .normal a' w') →
    (∀ p ∈ r, ∀ sv, p.2.pan = some sv → ∀ (F : Env) (v : Value) (a' : Act) (w' : World), E.le F → Rel B G w0 F p.2 w' → sv.den F = some v → SV.denL F p.1 = some a'.tmps.toList → DRel F p.2.ds a'.defers → Q (.panic [entry1 v false]) a' w') →
    (∀ p ∈ r, p.2.bad = true → ∀ (F : Env) (w' : World), E.le F → Rel B G w0 F p.2 w' → False) →
    wpOps P ops Q l a w := by
  intro l
  induction l with
  | nil =>
    intro ts S r h E a w Q hr ht hd hQ hP hbad
    simp only [evOps, Option.some.injEq] at h; subst h
    exact hQ _ List.mem_cons_self rfl E a w E.le_refl (hr.frame rfl) ht hd
  | cons i l ih =>
    intro ts S r h E a w Q hr ht hd hQ hP hbad
    simp only [evOps] at h
    simp only [wpOps]
    split at h
    · rename_i hi
      simp only [hi]
      exact ih ts S r h E a w Q hr ht hd hQ hP hbad
    · rename_i o hi
      simp only [hi]
      split at h
      · cases h
      · rename_i ws hws
        obtain ⟨p, hp, hw, hrel⟩ := wanted_ok hws hr ht
        have hds := wanted_frame hws p hp
        have hd' : DRel E p.2.ds a.defers := by rw [hds]; exact hd
        obtain ⟨r', hr', hsub⟩ := bindL_mem h p hp
        rw [hw]
        split at hr'
        · rename_i hp1
          rw [hp1]
          simp only [Bool.false_eq_true, if_false]
          exact ih _ _ r' hr' E _ w Q hrel (putS_den ht o.dst (v := undef) (by simp only [SV.den])) (by rw [put_defers]; exact hd')
            (fun q hq => hQ q (hsub q hq)) (fun q hq => hP q (hsub q hq)) (fun q hq => hbad q (hsub q hq))
        · rename_i hp1
          rw [hp1]
          simp only [if_true]
          split at hr'
          · cases hr'
          · rename_i rs hrs
            have hend : ∀ q ∈ rs, q.2.ends = true → (ts, q.2) ∈ r := fun q hq hb => by
              obtain ⟨r'', hr'', hsub'⟩ := bindL_mem hr' q hq
              rw [hb] at hr''
              simp only [cond_true, Option.some.injEq] at hr''; subst hr''
              exact hsub _ (hsub' _ List.mem_cons_self)
            refine .inl (evOp_ok hC hrec hrs hrel ht hd' (fun q hq hpan F v a₂ w' hle hrel' hden hdf htm => ?_) (fun q hq sv hpan F v w' hle hrel' hden hdf => ?_)
              (fun q hq hb F w' hle hrel' => hbad _ (hend q hq (ends_bad hb)) hb F w' hle hrel'))
            · obtain ⟨r'', hr'', hsub'⟩ := bindL_mem hr' q hq
              cases hb : q.2.bad with
              | true => exact (hbad _ (hend q hq (ends_bad hb)) hb F w' hle hrel').elim
              | false =>
                have he : q.2.ends = false := by simp [St.ends, hb, hpan]
                rw [he] at hr''
                exact ih _ _ r'' hr'' F _ w' Q hrel' htm hdf
                  (fun x hx hxp F' a' w'' h1 h2 h3 h4 => hQ x (hsub x (hsub' x hx)) hxp F' a' w'' (Env.le_trans hle h1) h2 h3 h4)
                  (fun x hx sv hxp F' v' a' w'' h1 h2 h3 h4 h5 => hP x (hsub x (hsub' x hx)) sv hxp F' v' a' w'' (Env.le_trans hle h1) h2 h3 h4 h5)
                  (fun x hx hb F' w'' h1 h2 => hbad x (hsub x (hsub' x hx)) hb F' w'' (Env.le_trans hle h1) h2)
            · exact hP _ (hend q hq (ends_pan hpan)) sv hpan F v a w' hle hrel' hden (SV.denL_mono hle _ _ ht) hdf
theorem bindOuts_ok {l outs : List Out} {f : Out → Option (List Out)} (h : bindL l f = some outs) {o : Out} (ho : o ∈ l) : ∃ r, f o = some r ∧ ∀ x ∈ r, x ∈ outs := bindL_mem h o ho
theorem Rel.withFn {E : Env} {S : St} {w : World} (h : Rel B G w0 E S w) (f : Nat) : Rel B G w0 E { S with fn := f } w := { h with }
theorem regOut_none {p : List SV × St} (h : p.2.pan = none) : regOut p = { kind := .normal, ts := p.1, st := p.2 } := by unfold regOut; rw [h]
theorem regOut_some {p : List SV × St} {v : SV} (h : p.2.pan = some v) : regOut p = { kind := .panic v, ts := p.1, st := { p.2 with pan := none } } := by unfold regOut; rw [h]
theorem regOutX_none {p : List SV × St} (h : p.2.pan = none) : regOutX p = { kind := .normal, ts := p.1, st := p.2 } := by unfold regOutX; rw [h]
theorem regOutX_some {p : List SV × St} {v : SV} (h : p.2.pan = some v) : regOutX p = { kind := .panicX v, ts := p.1, st := { p.2 with pan := none } } := by unfold regOutX; rw [h]
theorem regOut_st (p : List SV × St) : (regOut p).st.bad = p.2.bad ∧ ∀ {E : Env} {w : World}, Rel B G w0 E (regOut p).st w → Rel B G w0 E p.2 w := by
  unfold regOut
  split
  · exact ⟨rfl, fun h => h.frame rfl⟩
  · exact ⟨rfl, fun h => h⟩
theorem regOut_of (p : List SV × St) {E : Env} {w : World} (h : Rel B G w0 E p.2 w) : Rel B G w0 E (regOut p).st w := by
  unfold regOut
  split
  · exact h.frame rfl
  · exact h
theorem regOutX_of (p : List SV × St) {E : Env} {w : World} (h : Rel B G w0 E p.2 w) : (regOutX p).st.bad = p.2.bad ∧ Rel B G w0 E (regOutX p).st w := by
  unfold regOutX
  split
  · exact ⟨rfl, h.frame rfl⟩
  · exact ⟨rfl, h⟩
theorem upon_wpOpsS {o : Oper} {a : Act} {w : World} {ops : Array Oper} {Q : Exit → Act → List Frame → World → Prop} {rest : List Nat} {cs : List Frame}
    (h : o.wp P a w (fun a' w' => wpOpsS P ops Q rest a' cs w') (fun e a' w' => Q e a' cs w')) :
    (match (execOp a.eval o).run P w with
        | .ok .recover w' =>
          match recoverD cs with
          | some (v, cs') => wpOpsS P ops Q rest (a.put o.dst v) cs' w'
          | none => wpOpsS P ops Q rest (a.put o.dst .nilIface) cs w'
        | r => o.upon P a (fun a' w' => wpOpsS P ops Q rest a' cs w') (fun e a' w' => Q e a' cs w') r) := by
  unfold Oper.wp at h
  split
  · rename_i w' hw
    rw [hw] at h
    exact h.elim
  · exact h
theorem recovers_run {o : Oper} (h : recovers o = true) (evr : Operand → Value) (w : World) : (execOp evr o).run P w = .ok .recover w := by
  unfold recovers at h
  split at h
  · rename_i c hc
    split at h
    · rename_i hcal
      simp only [execOp, hc, resolve, hcal, Sem.run_bind, Sem.run_pure, Result.andThen_ok, invoke, builtin]
    · cases h
  · cases h
def panMode (v : Value) (p : Bool) : FrameMode := .panicking [entry1 v (!p)]
theorem evOpsD_ok {C : Cfg} (hC : CfgOK B G w0 P C) {rec : Task → Option (List Out)} {n : Nat} (hrec : RecOK B G w0 P n rec) {ops : Array Oper} {v : SV} {vv : Value} {c₀ : Frame} {cs : List Frame} :
    ∀ (l : List Nat) (ts : List SV) (S : St) (p : Bool) (r : List ((List SV × St) × Bool)), evOpsD C rec v ops l ts S p = some r →
    ∀ (E : Env) (a : Act) (w : World) (Q : Exit → Act → List Frame → World → Prop), Rel B G w0 E S w → SV.denL E ts = some a.tmps.toList → DRel E S.ds a.defers → v.den E = some vv →
    (∀ q ∈ r, q.1.2.pan = none → ∀ (F : Env) (a' : Act) (w' : World), E.le F → Rel B G w0 F q.1.2 w' → SV.denL F q.1.1 = some a'.tmps.toList → DRel F q.1.2.ds a'.defers → Q .normal a' ({ c₀ with mode := panMode vv q.2 } :: cs) w') →
    (∀ q ∈ r, ∀ sv, q.1.2.pan = some sv → ∀ (F : Env) (u : Value) (a' : Act) (w' : World), E.le F → Rel B G w0 F q.1.2 w' → sv.den F = some u → SV.denL F q.1.1 = some a'.tmps.toList → DRel F q.1.2.ds a'.defers →
      Q (.panic [entry1 u false]) a' ({ c₀ with mode := panMode vv q.2 } :: cs) w') →
    (∀ q ∈ r, q.1.2.bad = true → ∀ (F : Env) (w' : World), E.le F → Rel B G w0 F q.1.2 w' → False) →
    wpOpsS P ops Q l a ({ c₀ with mode := panMode vv p } :: cs) w := by
  intro l
  induction l with
  | nil =>
    intro ts S p r h E a w Q hr ht hd hv hQ hP hbad
    simp only [evOpsD, Option.some.injEq] at h; subst h
    exact hQ _ List.mem_cons_self rfl E a w E.le_refl (hr.frame rfl) ht hd
  | cons i l ih =>
    intro ts S p r h E a w Q hr ht hd hv hQ hP hbad
    simp only [evOpsD] at h
    simp only [wpOpsS]
    split at h
    · rename_i hi
      simp only [hi]
      exact ih ts S p r h E a w Q hr ht hd hv hQ hP hbad
    · rename_i o hi
      simp only [hi]
      split at h
      · cases h
      · rename_i ws hws
        obtain ⟨x, hx, hw, hrel⟩ := wanted_ok hws hr ht
        have hds := wanted_frame hws x hx
        have hd' : DRel E x.2.ds a.defers := by rw [hds]; exact hd
        obtain ⟨r', hr', hsub⟩ := bindL_mem h x hx
        rw [hw]
        split at hr'
        · rename_i hp1
          rw [hp1]
          simp only [Bool.false_eq_true, if_false]
          exact ih _ _ p r' hr' E _ w Q hrel (putS_den ht o.dst (v := undef) (by simp only [SV.den])) (by rw [put_defers]; exact hd') hv
            (fun q hq => hQ q (hsub q hq)) (fun q hq => hP q (hsub q hq)) (fun q hq => hbad q (hsub q hq))
        · rename_i hp1
          rw [hp1]
          simp only [if_true]
          cases hrc : recovers o with
          | true =>
            rw [hrc] at hr'
            simp only [cond_true] at hr'
            rw [recovers_run hrc]
            cases p with
            | true =>
              have hrd : recoverD ({ c₀ with mode := panMode vv true } :: cs) = some (vv, { c₀ with mode := panMode vv false } :: cs) := rfl
              simp only [hrd]
              exact ih _ _ false r' hr' E _ w Q hrel (putS_den ht o.dst hv) (by rw [put_defers]; exact hd') hv
                (fun q hq => hQ q (hsub q hq)) (fun q hq => hP q (hsub q hq)) (fun q hq => hbad q (hsub q hq))
            | false =>
              have hrd : recoverD ({ c₀ with mode := panMode vv false } :: cs) = none := rfl
              simp only [hrd]
              exact ih _ _ false r' hr' E _ w Q hrel (putS_den ht o.dst (v := .nilIface) (by simp only [SV.den])) (by rw [put_defers]; exact hd') hv
                (fun q hq => hQ q (hsub q hq)) (fun q hq => hP q (hsub q hq)) (fun q hq => hbad q (hsub q hq))
          | false =>
          rw [hrc] at hr'
          simp only [cond_false] at hr'
          refine upon_wpOpsS ?_
          split at hr'
          · cases hr'
          · rename_i rs hrs
            have hend : ∀ q ∈ rs, q.2.ends = true → ((ts, q.2), p) ∈ r := fun q hq hb => by
              obtain ⟨r'', hr'', hsub'⟩ := bindL_mem hr' q hq
              rw [hb] at hr''
              simp only [cond_true, Option.some.injEq] at hr''; subst hr''
              exact hsub _ (hsub' _ List.mem_cons_self)
            refine evOp_ok hC hrec hrs hrel ht hd' (fun q hq hpan F u a₂ w' hle hrel' hden hdf htm => ?_) (fun q hq sv hpan F u w' hle hrel' hden hdf => ?_)
              (fun q hq hb F w' hle hrel' => hbad _ (hend q hq (ends_bad hb)) hb F w' hle hrel')
            · obtain ⟨r'', hr'', hsub'⟩ := bindL_mem hr' q hq
              cases hb : q.2.bad with
              | true => exact (hbad _ (hend q hq (ends_bad hb)) hb F w' hle hrel').elim
              | false =>
                have he : q.2.ends = false := by simp [St.ends, hb, hpan]
                rw [he] at hr''
                exact ih _ _ p r'' hr'' F _ w' Q hrel' htm hdf (SV.den_mono hle _ _ hv)
                  (fun x hx hxp F' a' w'' h1 h2 h3 h4 => hQ x (hsub x (hsub' x hx)) hxp F' a' w'' (Env.le_trans hle h1) h2 h3 h4)
                  (fun x hx sv hxp F' v' a' w'' h1 h2 h3 h4 h5 => hP x (hsub x (hsub' x hx)) sv hxp F' v' a' w'' (Env.le_trans hle h1) h2 h3 h4 h5)
                  (fun x hx hb F' w'' h1 h2 => hbad x (hsub x (hsub' x hx)) hb F' w'' (Env.le_trans hle h1) h2)
            · exact hP _ (hend q hq (ends_pan hpan)) sv hpan F u a w' hle hrel' hden (SV.denL_mono hle _ _ ht) hdf
def DCodeOK (B G : Nat) (w0 : Start) (P : Program) (v : SV) (c : Code) (ts : List SV) (S : St) (p : Bool) (l : List (Out × Bool)) : Prop :=
  ∀ (E : Env) (a : Act) (w : World) (c₀ : Frame) (cs : List Frame) (vv : Value) (Q : Exit → Act → List Frame → World → Prop), Rel B G w0 E S w → SV.denL E ts = some a.tmps.toList → DRel E S.ds a.defers → v.den E = some vv →
    (∀ q ∈ l, ∀ (F : Env) (e : Exit) (a' : Act) (w' : World), E.le F → Rel B G w0 F q.1.st w' → (q.1.kind.keeps → SV.denL F q.1.ts = some a'.tmps.toList) → DRel F q.1.st.ds a'.defers → q.1.kind.fits F e → Q e a' ({ c₀ with mode := panMode vv q.2 } :: cs) w') →
    (∀ q ∈ l, q.1.st.bad = true → ∀ (F : Env) (w' : World), E.le F → Rel B G w0 F q.1.st w' → False) →
    c.wpS P Q a ({ c₀ with mode := panMode vv p } :: cs) w
theorem evD_rec {rec : Task → Option (List Out)} {n : Nat} (hrec : RecOK B G w0 P n rec) {v : SV} {c : Code} {ts : List SV} {S : St} {p : Bool} {l : List (Out × Bool)}
    (h : (match rec (.code c ts S) with
      | none => none
      | some l => some (l.map fun o => (o, p))) = some l) : DCodeOK B G w0 P v c ts S p l := by
  intro E a w c₀ cs vv Q hr ht hd hv hQ hbad
  split at h
  · cases h
  · rename_i l' hl'
    simp only [Option.some.injEq] at h; subst h
    exact wpS_of_wp (hrec _ _ hl' E a w _ hr ht hd (fun o ho F e a' w' h1 h2 h3 h4 h5 => hQ (o, p) (List.mem_map.2 ⟨o, ho, rfl⟩) F e a' w' h1 h2 h3 h4 h5)
      (fun o ho hb F w' h1 h2 => hbad (o, p) (List.mem_map.2 ⟨o, ho, rfl⟩) hb F w' h1 h2))
theorem evD_ok {C : Cfg} (hC : CfgOK B G w0 P C) {rec : Task → Option (List Out)} {n : Nat} (hrec : RecOK B G w0 P n rec) {v : SV} :
    ∀ (c : Code) (ts : List SV) (S : St) (p : Bool) (l : List (Out × Bool)), evD C rec v c ts S p = some l → DCodeOK B G w0 P v c ts S p l
  | .region id ops false, ts, S, p, l, h => by
    intro E a w c₀ cs vv Q hr ht hd hv hQ hbad
    simp only [evD] at h
    split at h
    · cases h
    · rename_i l' hl'
      simp only [Option.some.injEq] at h; subst h
      refine wpS_region (evOpsD_ok hC hrec _ _ _ _ _ hl' E a w Q hr ht hd hv (fun q hq hpan F a' w' h1 h2 h3 h4 => ?_) (fun q hq sv hpan F u a' w' h1 h2 h3 h4 h5 => ?_) (fun q hq hb F w' h1 h2 => ?_))
      · have := hQ (regOut q.1, q.2) (List.mem_map.2 ⟨q, hq, rfl⟩) F .normal a' w' h1
        simp only [regOut_none hpan] at this
        exact this h2 (fun _ => h3) h4 rfl
      · have := hQ (regOut q.1, q.2) (List.mem_map.2 ⟨q, hq, rfl⟩) F (.panic [entry1 u false]) a' w' h1
        simp only [regOut_some hpan] at this
        exact this (h2.frame rfl) (fun _ => h4) h5 ⟨u, h3, rfl⟩
      · exact hbad (regOut q.1, q.2) (List.mem_map.2 ⟨q, hq, rfl⟩) (by rw [(regOut_st (B := B) (G := G) (w0 := w0) q.1).1]; exact hb) F w' h1 (regOut_of _ h2)
  | .seq x y, ts, S, p, l, h => by
    intro E a w c₀ cs vv Q hr ht hd hv hQ hbad
    simp only [evD] at h
    split at h
    · cases h
    · rename_i l' hl'
      have hbad' : ∀ q ∈ l', q.1.st.bad = true → ∀ (F : Env) (w' : World), E.le F → Rel B G w0 F q.1.st w' → False := fun q hq hb F w' h1 h2 => by
        obtain ⟨r, hr', hsub⟩ := bindL_mem h q hq
        rw [hb] at hr'
        simp only [cond_true, Option.some.injEq] at hr'; subst hr'
        exact hbad _ (hsub _ List.mem_cons_self) hb F w' h1 h2
      refine wpS_seq (evD_ok hC hrec x ts S p l' hl' E a w c₀ cs vv _ hr ht hd hv (fun q hq F e a' w' h1 h2 h3 h4 h5 => ?_) hbad')
      obtain ⟨r, hr', hsub⟩ := bindL_mem h q hq
      cases hb : q.1.st.bad with
      | true => exact (hbad' q hq hb F w' h1 h2).elim
      | false =>
      rw [hb] at hr'
      simp only [cond_false] at hr'
      split at hr'
      · rename_i hk
        rw [hk] at h5 h3; cases h5
        exact evD_ok hC hrec y _ _ _ _ hr' F a' w' c₀ cs vv Q h2 (h3 trivial) h4 (SV.den_mono h1 _ _ hv) (fun o' ho' F' e' a'' w'' k1 k2 k3 k4 k5 => hQ o' (hsub _ ho') F' e' a'' w'' (Env.le_trans h1 k1) k2 k3 k4 k5)
          (fun o' ho' hb F' w'' k1 k2 => hbad o' (hsub _ ho') hb F' w'' (Env.le_trans h1 k1) k2)
      · rename_i hk
        simp only [Option.some.injEq] at hr'; subst hr'
        have := hQ q (hsub _ List.mem_cons_self) F e a' w' h1 h2 h3 h4 h5
        cases e with
        | normal => cases hkk : q.1.kind <;> rw [hkk] at h5 <;> simp [Kind.fits] at h5; exact (hk hkk).elim
        | _ => exact this
  | .cond c x y, ts, S, p, l, h => by
    intro E a w c₀ cs vv Q hr ht hd hv hQ hbad
    simp only [evD] at h
    split at h
    · cases h
    · rename_i l' hl'
      obtain ⟨q, hq, hv', hrel⟩ := dec_ok hl' hr (evS_den ht c)
      have hds := dec_frame hl' q hq
      obtain ⟨r, hr', hsub⟩ := bindL_mem h q hq
      refine wpS_cond hv' ?_
      have hd' : DRel E q.2.ds a.defers := by rw [hds]; exact hd
      split at hr'
      · rename_i hq1
        rw [hq1]
        exact evD_ok hC hrec x _ _ _ _ hr' E a w c₀ cs vv Q hrel ht hd' hv (fun o ho => hQ o (hsub _ ho)) (fun o ho => hbad o (hsub _ ho))
      · rename_i hq1
        rw [hq1]
        exact evD_ok hC hrec y _ _ _ _ hr' E a w c₀ cs vv Q hrel ht hd' hv (fun o ho => hQ o (hsub _ ho)) (fun o ho => hbad o (hsub _ ho))
  | .region id ops true, ts, S, p, l, h => evD_rec hrec (by simpa only [evD] using h)
  | .skip, ts, S, p, l, h => evD_rec hrec (by simpa only [evD] using h)
  | .block _ _, ts, S, p, l, h => evD_rec hrec (by simpa only [evD] using h)
  | .loop _, ts, S, p, l, h => evD_rec hrec (by simpa only [evD] using h)
  | .scope _, ts, S, p, l, h => evD_rec hrec (by simpa only [evD] using h)
  | .label _, ts, S, p, l, h => evD_rec hrec (by simpa only [evD] using h)
  | .exit _, ts, S, p, l, h => evD_rec hrec (by simpa only [evD] using h)
  | .ret, ts, S, p, l, h => evD_rec hrec (by simpa only [evD] using h)
  | .goto _, ts, S, p, l, h => evD_rec hrec (by simpa only [evD] using h)
  | .rangeFunc .., ts, S, p, l, h => evD_rec hrec (by simpa only [evD] using h)
  | .refuse _, ts, S, p, l, h => evD_rec hrec (by simpa only [evD] using h)
theorem dok_of {C : Cfg} (hC : CfgOK B G w0 P C) {E : Env} : ∀ {ds : List (Nat × List SV)} {l : List Deferred}, allQuiet C ds = true → DRel E ds l → DOk P l
  | [], [], _, _ => DOk.nil P
  | (f, args) :: ds, d :: r, h, k => by
    simp only [allQuiet, Bool.and_eq_true] at h
    obtain ⟨⟨cap, vs, k1, _, _⟩, k4⟩ := k
    intro x hx
    cases hx with
    | head => exact ⟨f, cap, k1, hC.quietD f h.1⟩
    | tail _ hx => exact dok_of hC h.2 k4 x hx
  | [], _ :: _, _, k => k.elim
  | _ :: _, [], _, k => k.elim
theorem drel_nil {E : Env} {l : List Deferred} (h : DRel E [] l) : l = [] := by
  cases l with
  | nil => rfl
  | cons _ _ => exact h.elim
theorem rep_den {E : Env} : ∀ m, SV.denL E (List.replicate m (.val undef)) = some (List.replicate m undef)
  | 0 => rfl
  | m + 1 => denL_mk (by simp only [SV.den]) (rep_den m)
theorem args_den {E : Env} {args : List SV} {vs : List Value} (h : SV.denL E args = some vs) (n : Nat) :
    SV.denL E (args ++ List.replicate (n - args.length) (.val undef)) = some (vs.toArray ++ Array.replicate (n - vs.toArray.size) undef).toList := by
  have hlen := denL_length h
  simpa [hlen] using denL_append h (rep_den (n - args.length))
theorem evDs_ok {C : Cfg} (hC : CfgOK B G w0 P C) {rec : Task → Option (List Out)} {n : Nat} (hrec : RecOK B G w0 P n rec) {rs : List ResultVar → List SV → St → Option SV} (hres : ResOK B G w0 P rs) {fn : Func} {ts : List SV} {v : SV} {vv : Value} {tmps : Array Value} {R : Ending → World → Prop} :
    ∀ (ds : List (Nat × List SV)) (S : St) (outs : List Out), evDs C rec rs fn ts v ds S = some outs → ∀ (E : Env) (l : List Deferred) (w : World), Rel B G w0 E S w → SV.denL E ts = some tmps.toList → DRel E ds l → v.den E = some vv →
    (∀ o ∈ outs, ∀ (F : Env) (sv : SV) (u : Value) (w' : World), E.le F → Rel B G w0 F o.st w' → o.kind = .val sv → sv.den F = some u → R (.returned u) w') →
    (∀ o ∈ outs, ∀ (F : Env) (sv : SV) (u : Value) (w' : World), E.le F → Rel B G w0 F o.st w' → o.kind = .panic sv → sv.den F = some u → R (.panicked [entry1 u false]) w') →
    (∀ o ∈ outs, o.st.bad = true → ∀ (F : Env) (w' : World), E.le F → Rel B G w0 F o.st w' → False) →
    Leaves P fn tmps R l (.panicking [entry1 vv false]) w
  | [], S, outs, h, E, l, w, hr, ht, hd, hv, hR, hP, hbad => by
    simp only [evDs, Option.some.injEq] at h; subst h
    rw [drel_nil hd]
    exact hP _ List.mem_cons_self E v vv w E.le_refl hr rfl hv
  | (f, args) :: r, S, outs, h, E, l, w, hr, ht, hd, hv, hR, hP, hbad => by
    cases l with
    | nil => exact hd.elim
    | cons d l =>
    obtain ⟨⟨cap, vs, k1, k2, k3⟩, k4⟩ := hd
    obtain ⟨dt, dargs⟩ := d
    simp only at k1 k3; subst k1
    simp only [evDs] at h
    cases hen : C.enters f with
    | false => rw [hen] at h; cases h
    | true =>
    rw [hen] at h
    simp only [cond_true] at h
    split at h
    · cases h
    rename_i g hg
    split at h
    · cases h
    rename_i c hc
    split at h
    · cases h
    rename_i lo hlo
    rw [hC.prog] at hg
    have hargs : (dargs ++ cap).toList = vs := k3
    refine leaves_cons (f := f) (args := dargs ++ cap) (by intro e; cases e) (by simp only [invoke]; exact hC.enters f hen _ _) (callsD_of_wpS hg hc fun c₀ cs hm => ?_)
    have hc0 : c₀ = { c₀ with mode := panMode vv true } := by
      have : panMode vv true = c₀.mode := hm.symm
      rw [this]
    rw [hc0]
    have hbad' : ∀ q ∈ lo, q.1.st.bad = true → ∀ (F : Env) (w' : World), E.le F → Rel B G w0 F q.1.st w' → False := fun q hq hb F w' h1 h2 => by
      obtain ⟨r', hr', hsub⟩ := bindL_mem h q hq
      rw [hb] at hr'
      simp only [cond_true, Option.some.injEq] at hr'; subst hr'
      exact hbad _ (hsub _ List.mem_cons_self) hb F w' h1 h2
    have ha := args_den k2 g.ntmps
    rw [← hargs, Array.toArray_toList] at ha
    refine evD_ok hC hrec c _ _ _ _ hlo E _ w c₀ cs vv _ (hr.frame rfl) ha trivial hv (fun q hq F e a' w' h1 h2 h3 h4 h5 => ?_) hbad'
    obtain ⟨r', hr', hsub⟩ := bindL_mem h q hq
    cases hb : q.1.st.bad with
    | true => exact (hbad' q hq hb F w' h1 h2).elim
    | false =>
    rw [hb] at hr'
    simp only [cond_false] at hr'
    have main : (match q.1.st.ds, rs g.results.toList q.1.ts q.1.st with
            | [], some _ => (match q.2 with
              | true => evDs C rec rs fn ts v r q.1.st
              | false => bif allQuiet C r then (match rs fn.results.toList ts q.1.st with
                | some x => some [{ kind := .val x, ts := [], st := q.1.st }]
                | none => none) else none)
            | _, _ => none) = some r' → SV.denL F q.1.ts = some a'.tmps.toList →
          a'.defers = [] ∧ ∃ u', ({ c₀ with mode := panMode vv q.2 } :: cs : List Frame) = { ({ c₀ with mode := panMode vv true } : Frame) with mode := u' } :: cs ∧ ∃ x, (results g a'.tmps).run P w' = .ok x w' ∧ Leaves P fn tmps R l (settle u') w' := fun hm htm => by
      split at hm
      · rename_i _ x hds hx
        obtain ⟨xv, _, hxr⟩ := hres g q.1.ts q.1.st x hx F a'.tmps w' h2 htm
        rw [hds] at h4
        refine ⟨drel_nil h4, panMode vv q.2, rfl, xv, hxr, ?_⟩
        split at hm
        · rename_i hq2
          rw [hq2]
          have : settle (panMode vv true) = .panicking [entry1 vv false] := rfl
          rw [this]
          exact evDs_ok hC hrec hres r q.1.st r' hm F l w' h2 (SV.denL_mono h1 _ _ ht) (k4.mono h1) (SV.den_mono h1 _ _ hv)
            (fun o ho F' sv u w'' g1 g2 g3 g4 => hR o (hsub o ho) F' sv u w'' (Env.le_trans h1 g1) g2 g3 g4)
            (fun o ho F' sv u w'' g1 g2 g3 g4 => hP o (hsub o ho) F' sv u w'' (Env.le_trans h1 g1) g2 g3 g4)
            (fun o ho hb F' w'' g1 g2 => hbad o (hsub o ho) hb F' w'' (Env.le_trans h1 g1) g2)
        · rename_i hq2
          rw [hq2]
          have : settle (panMode vv false) = .returning := rfl
          rw [this]
          cases haq : allQuiet C r with
          | false => rw [haq] at hm; cases hm
          | true =>
            rw [haq] at hm
            simp only [cond_true] at hm
            split at hm
            · rename_i y hy
              simp only [Option.some.injEq] at hm; subst hm
              obtain ⟨yv, hyd, hyr⟩ := hres fn ts q.1.st y hy F tmps w' h2 (SV.denL_mono h1 _ _ ht)
              exact leaves_quiet hyr (hR _ (hsub _ List.mem_cons_self) F y yv w' h1 h2 rfl hyd) _ (dok_of hC haq (k4.mono h1))
            · cases hm
      · cases hm
    split at hr'
    · rename_i hk
      rw [hk] at h5 h3; cases h5
      exact main hr' (h3 trivial)
    · rename_i hk
      rw [hk] at h5 h3; cases h5
      exact main hr' (h3 trivial)
    · cases hr'
theorem evStep_ok {C : Cfg} (hC : CfgOK B G w0 P C) {any : (Task → Option (List Out)) → Array Oper → List SV → St → Option (List (List SV × St))} (hany : AnyOK B G w0 P any)
    {lp : (Task → Option (List Out)) → Code → List SV → St → Option (Option (List Out))} (hlp : LoopsOK B G w0 P lp)
    {rs : List ResultVar → List SV → St → Option SV} (hres : ResOK B G w0 P rs) {n : Nat} {rec : Task → Option (List Out)} (hrec : RecOK B G w0 P n rec) :
    RecOK B G w0 P (n + 1) (evStep C any lp rs rec) := by
  intro t outs h
  cases t with
  | code c ts S =>
    intro E a w Q hr ht hd hQ hbad
    simp only [evStep] at h
    split at h
    · simp only [Option.some.injEq] at h; subst h
      exact wp_skip (hQ _ List.mem_cons_self E _ a w E.le_refl hr (fun _ => ht) hd rfl)
    · simp only [Option.some.injEq] at h; subst h
      exact wp_label (hQ _ List.mem_cons_self E _ a w E.le_refl hr (fun _ => ht) hd rfl)
    · rename_i id ops draw
      split at h
      · split at h
        · cases h
        · rename_i l hl
          simp only [Option.some.injEq] at h; subst h
          refine wp_region (evOps_ok hC hrec _ _ _ _ hl E a w Q hr ht hd (fun p hp hpan F a' w' h1 h2 h3 h4 => ?_) (fun p hp sv hpan F v a' w' h1 h2 h3 h4 h5 => ?_) (fun p hp hb F w' h1 h2 => ?_))
          · have := hQ _ (List.mem_map.2 ⟨p, hp, rfl⟩) F .normal a' w' h1
            simp only [regOut_none hpan] at this
            exact this h2 (fun _ => h3) h4 rfl
          · have := hQ _ (List.mem_map.2 ⟨p, hp, rfl⟩) F (.panic [entry1 v false]) a' w' h1
            simp only [regOut_some hpan] at this
            exact this (h2.frame rfl) (fun _ => h4) h5 ⟨v, h3, rfl⟩
          · exact hbad _ (List.mem_map.2 ⟨p, hp, rfl⟩) (by rw [(regOut_st (B := B) (G := G) (w0 := w0) p).1]; exact hb) F w' h1 (regOut_of _ h2)
      · split at h
        · cases h
        · rename_i l hl
          simp only [Option.some.injEq] at h; subst h
          exact hany n rec hrec id ops ts S l hl E a w Q hr ht hd hQ hbad
    · rename_i x y
      split at h
      · cases h
      · rename_i l hl
        have hbad' : ∀ o ∈ l, o.st.bad = true → ∀ (F : Env) (w' : World), E.le F → Rel B G w0 F o.st w' → False := fun o ho hb F w' h1 h2 => by
          obtain ⟨r, hr', hsub⟩ := bindOuts_ok h ho
          rw [hb] at hr'
          simp only [cond_true, Option.some.injEq] at hr'; subst hr'
          exact hbad _ (hsub _ List.mem_cons_self) hb F w' h1 h2
        refine wp_seq (hrec _ _ hl E a w _ hr ht hd (fun o ho F e a' w' h1 h2 h3 h4 h5 => ?_) hbad')
        obtain ⟨r, hr', hsub⟩ := bindOuts_ok h ho
        cases hb : o.st.bad with
        | true => exact (hbad' o ho hb F w' h1 h2).elim
        | false =>
        rw [hb] at hr'
        simp only [cond_false] at hr'
        split at hr'
        · rename_i hk
          rw [hk] at h5 h3; cases h5
          exact hrec _ _ hr' F a' w' Q h2 (h3 trivial) h4 (fun o' ho' F' e' a'' w'' k1 k2 k3 k4 k5 => hQ o' (hsub _ ho') F' e' a'' w'' (Env.le_trans h1 k1) k2 k3 k4 k5)
            (fun o' ho' hb F' w'' k1 k2 => hbad o' (hsub _ ho') hb F' w'' (Env.le_trans h1 k1) k2)
        · rename_i hk
          simp only [Option.some.injEq] at hr'; subst hr'
          have := hQ o (hsub _ List.mem_cons_self) F e a' w' h1 h2 h3 h4 h5
          cases e with
          | normal => cases hkk : o.kind <;> rw [hkk] at h5 <;> simp [Kind.fits] at h5; exact (hk hkk).elim
          | _ => exact this
    · rename_i c x y
      split at h
      · cases h
      · rename_i l hl
        obtain ⟨p, hp, hv, hrel⟩ := dec_ok hl hr (evS_den ht c)
        have hds := dec_frame hl p hp
        obtain ⟨r, hr', hsub⟩ := bindL_mem h p hp
        refine wp_cond hv ?_
        have key := hrec _ _ hr' E a w Q hrel ht (by rw [hds]; exact hd) (fun o' ho' F' e' a'' w'' k1 k2 k3 k4 k5 => hQ o' (hsub _ ho') F' e' a'' w'' k1 k2 k3 k4 k5)
          (fun o' ho' hb F' w'' k1 k2 => hbad o' (hsub _ ho') hb F' w'' k1 k2)
        cases hb : p.1 <;> rw [hb] at key <;> simpa using key
    · rename_i id c
      split at h
      · cases h
      · rename_i l hl
        simp only [Option.some.injEq] at h; subst h
        refine wp_block (hrec _ _ hl E a w _ hr ht hd (fun o ho F e a' w' h1 h2 h3 h4 h5 => ?_) (fun o ho hb F w' h1 h2 => hbad { o with kind := leaveBlock id o.kind } (List.mem_map.2 ⟨o, ho, rfl⟩) hb F w' h1 h2))
        have hq := hQ { o with kind := leaveBlock id o.kind } (List.mem_map.2 ⟨o, ho, rfl⟩) F
        cases hk : o.kind with
        | normal => rw [hk] at h5 hq h3; cases h5; exact hq _ a' w' h1 h2 h3 h4 rfl
        | exit j =>
          rw [hk] at h5 hq h3; cases h5
          simp only [leaveBlock] at hq
          cases hj : Nat.beq j id with
          | true =>
            have : j = id := Nat.eq_of_beq_eq_true hj
            rw [hj] at hq
            simp only [cond_true] at hq
            simp only [Exit.inBlock, this, if_true]
            exact hq _ a' w' h1 h2 h3 h4 rfl
          | false =>
            have : ¬ j = id := fun e => by subst e; simp at hj
            rw [hj] at hq
            simp only [cond_false] at hq
            simp only [Exit.inBlock, this, if_false]
            exact hq _ a' w' h1 h2 h3 h4 rfl
        | ret => rw [hk] at h5 hq h3; cases h5; exact hq _ a' w' h1 h2 h3 h4 rfl
        | val v => rw [hk] at h5; cases h5
        | panic v => rw [hk] at h5 hq h3; obtain ⟨u, h6, rfl⟩ := h5; exact hq _ a' w' h1 h2 h3 h4 ⟨u, h6, rfl⟩
        | panicX v => rw [hk] at h5 hq h3; obtain ⟨u, h6, rfl⟩ := h5; exact hq _ a' w' h1 h2 h3 h4 ⟨u, h6, rfl⟩
    · rename_i c
      split at h
      · subst h
        rename_i hl
        exact hlp n rec hrec _ _ _ _ hl E a w Q hr ht hd hQ hbad
      · exact wp_loop_rounds n (hrec _ _ h E a w Q hr ht hd hQ hbad)
    · refine wp_scope_straight (hrec _ _ h E a w _ hr ht hd (fun o ho F e a' w' h1 h2 h3 h4 h5 => ?_) hbad)
      have := hQ o ho F e a' w' h1 h2 h3 h4 h5
      cases hk : o.kind <;> rw [hk] at h5 <;> first | (obtain ⟨u, h6, rfl⟩ := h5; exact this) | (cases h5; exact this) | cases h5
    · simp only [Option.some.injEq] at h; subst h
      exact wp_exit (hQ _ List.mem_cons_self E _ a w E.le_refl hr (fun _ => ht) hd rfl)
    · simp only [Option.some.injEq] at h; subst h
      exact wp_ret (hQ _ List.mem_cons_self E _ a w E.le_refl hr (fun _ => ht) hd rfl)
    · cases h
  | rounds c ts S =>
    intro E a w Q hr ht hd hQ hbad
    simp only [evStep] at h
    split at h
    · cases h
    · rename_i l hl
      rw [rounds_succ]
      have hbad' : ∀ o ∈ l, o.st.bad = true → ∀ (F : Env) (w' : World), E.le F → Rel B G w0 F o.st w' → False := fun o ho hb F w' h1 h2 => by
        obtain ⟨r, hr', hsub⟩ := bindOuts_ok h ho
        rw [hb] at hr'
        simp only [cond_true, Option.some.injEq] at hr'; subst hr'
        exact hbad _ (hsub _ List.mem_cons_self) hb F w' h1 h2
      refine hrec _ _ hl E a w _ hr ht hd (fun o ho F e a' w' h1 h2 h3 h4 h5 => ?_) hbad'
      obtain ⟨r, hr', hsub⟩ := bindOuts_ok h ho
      cases hb : o.st.bad with
      | true => exact (hbad' o ho hb F w' h1 h2).elim
      | false =>
      rw [hb] at hr'
      simp only [cond_false] at hr'
      split at hr'
      · rename_i hk
        rw [hk] at h5 h3; cases h5
        exact hrec _ _ hr' F a' w' Q h2 (h3 trivial) h4 (fun o' ho' F' e' a'' w'' k1 k2 k3 k4 k5 => hQ o' (hsub _ ho') F' e' a'' w'' (Env.le_trans h1 k1) k2 k3 k4 k5)
          (fun o' ho' hb F' w'' k1 k2 => hbad o' (hsub _ ho') hb F' w'' (Env.le_trans h1 k1) k2)
      · rename_i hk
        simp only [Option.some.injEq] at hr'; subst hr'
        have := hQ o (hsub _ List.mem_cons_self) F e a' w' h1 h2 h3 h4 h5
        cases e with
        | normal => cases hkk : o.kind <;> rw [hkk] at h5 <;> simp [Kind.fits] at h5; exact (hk hkk).elim
        | _ => exact this
  | call f args S =>
    intro E vs w R hr hvs hR hP hbad
    simp only [evStep] at h
    split at h
    · cases h
    · rename_i fn hf
      split at h
      · cases h
      · rename_i c hc
        split at h
        · cases h
        · rename_i l hl
          split at h
          · cases h
          rename_i outs0 h
          simp only [Option.some.injEq] at h; subst h
          replace hR : ∀ o ∈ outs0, ∀ (F : Env) (sv : SV) (v : Value) (w' : World), E.le F → Rel B G w0 F o.st w' → o.kind = .val sv → sv.den F = some v → R (.returned v) w' := fun o ho F sv v w' h1 h2 h3 h4 => by
            have hm : gcOut S.next o ∈ outs0.map (gcOut S.next) := List.mem_map.2 ⟨o, ho, rfl⟩
            cases hb : o.st.bad with
            | true =>
              have e : gcOut S.next o = o := by simp only [gcOut, h3, hb, cond_true]
              exact hR _ hm F sv v w' h1 (by rw [e]; exact h2) (by rw [e]; exact h3) h4
            | false =>
              have e : gcOut S.next o = { o with st := gcSt S.next sv o.st } := by simp only [gcOut, h3, hb, cond_false]
              obtain ⟨F', g1, g2, g3⟩ := gc_ok hr.next h1 hr.newρ h2 h4
              exact hR _ hm F' sv v w' g1 (by rw [e]; exact g2) (by rw [e]; exact h3) g3
          replace hP : ∀ o ∈ outs0, ∀ (F : Env) (sv : SV) (v : Value) (w' : World), E.le F → Rel B G w0 F o.st w' → o.kind = .panic sv → sv.den F = some v → R (.panicked [entry1 v false]) w' := fun o ho F sv v w' h1 h2 h3 h4 => by
            have e : gcOut S.next o = o := by simp only [gcOut, h3]
            exact hP _ (List.mem_map.2 ⟨o, ho, rfl⟩) F sv v w' h1 (by rw [e]; exact h2) (by rw [e]; exact h3) h4
          replace hbad : ∀ o ∈ outs0, o.st.bad = true → ∀ (F : Env) (w' : World), E.le F → Rel B G w0 F o.st w' → False := fun o ho hb F w' h1 h2 => by
            have e : gcOut S.next o = o := by
              unfold gcOut
              split
              · rw [hb]; rfl
              · rfl
            exact hbad _ (List.mem_map.2 ⟨o, ho, rfl⟩) (by rw [e]; exact hb) F w' h1 (by rw [e]; exact h2)
          rw [hC.prog] at hf
          refine calls_of_wp_defers hf hc ?_
          have hbad' : ∀ o ∈ l, o.st.bad = true → ∀ (F : Env) (w' : World), E.le F → Rel B G w0 F o.st w' → False := fun o ho hb F w' h1 h2 => by
            obtain ⟨r, hr', hsub⟩ := bindOuts_ok h ho
            unfold resOut at hr'
            rw [hb] at hr'
            simp only [cond_true, Option.some.injEq] at hr'; subst hr'
            exact hbad _ (hsub _ List.mem_cons_self) hb F w' h1 h2
          refine hrec _ _ hl E _ w _ (hr.frame rfl) (args_den hvs fn.ntmps) trivial (fun o ho F e a' w' h1 h2 h3 h4 h5 => ?_) hbad'
          obtain ⟨r, hr', hsub⟩ := bindOuts_ok h ho
          unfold resOut at hr'
          have fin : (bif allQuiet C o.st.ds then (match rs fn.results.toList o.ts o.st with
              | some v => some [({ kind := .val v, ts := [], st := o.st } : Out)]
              | none => none) else none) = some r → SV.denL F o.ts = some a'.tmps.toList → Leaves P fn a'.tmps R a'.defers .returning w' := fun hm htm => by
            cases haq : allQuiet C o.st.ds with
            | false => rw [haq] at hm; cases hm
            | true =>
              rw [haq] at hm
              simp only [cond_true] at hm
              split at hm
              · rename_i sv hsv
                simp only [Option.some.injEq] at hm; subst hm
                obtain ⟨v, hden, hrun⟩ := hres fn o.ts o.st sv hsv F a'.tmps w' h2 htm
                exact leaves_quiet hrun (hR _ (hsub _ List.mem_cons_self) F sv v w' h1 h2 rfl hden) _ (dok_of hC haq h4)
              · cases hm
          cases hb : o.st.bad with
          | true => exact (hbad' o ho hb F w' h1 h2).elim
          | false =>
          rw [hb] at hr'
          simp only [cond_false] at hr'
          split at hr'
          · rename_i hk
            rw [hk] at h5 h3; cases h5
            exact fin hr' (h3 trivial)
          · rename_i hk
            rw [hk] at h5 h3; cases h5
            exact fin hr' (h3 trivial)
          · rename_i v hk
            rw [hk] at h5 h3
            obtain ⟨vv, h6, rfl⟩ := h5
            exact evDs_ok hC hrec hres _ _ _ hr' F a'.defers w' h2 (h3 trivial) h4 h6
              (fun o' ho' F' sv u w'' g1 g2 g3 g4 => hR o' (hsub _ ho') F' sv u w'' (Env.le_trans h1 g1) g2 g3 g4)
              (fun o' ho' F' sv u w'' g1 g2 g3 g4 => hP o' (hsub _ ho') F' sv u w'' (Env.le_trans h1 g1) g2 g3 g4)
              (fun o' ho' hb F' w'' g1 g2 => hbad o' (hsub _ ho') hb F' w'' (Env.le_trans h1 g1) g2)
          · rename_i v hk
            rw [hk] at h5
            obtain ⟨vv, h6, rfl⟩ := h5
            split at hr'
            · rename_i hds
              simp only [Option.some.injEq] at hr'; subst hr'
              rw [hds] at h4
              have : Leaves P fn a'.tmps R a'.defers (.panicking [entry1 vv false]) w' := by
                rw [drel_nil h4]
                exact hP _ (hsub _ List.mem_cons_self) F v vv w' h1 h2 rfl h6
              exact this
            · cases hr'
          · cases hr'
theorem ev_ok {C : Cfg} (hC : CfgOK B G w0 P C) {any : (Task → Option (List Out)) → Array Oper → List SV → St → Option (List (List SV × St))} (hany : AnyOK B G w0 P any)
    {lp : (Task → Option (List Out)) → Code → List SV → St → Option (Option (List Out))} (hlp : LoopsOK B G w0 P lp)
    {rs : List ResultVar → List SV → St → Option SV} (hres : ResOK B G w0 P rs) : ∀ n, RecOK B G w0 P n (ev C any lp rs n)
  | 0 => fun _ _ h => by cases h
  | n + 1 => evStep_ok hC hany hlp hres (ev_ok hC hany hlp hres n)
theorem resS_ok : ResOK B G w0 P resS := by
  intro fn ts S sv h E tmps w _ ht
  have g := fun t => getD_den ht t
  have hres : ∀ {l : List ResultVar}, fn.results.toList = l → fn.results = l.toArray := fun e => by rw [← e]
  unfold resS at h
  split at h
  · rename_i e; simp only [Option.some.injEq] at h; subst h
    exact ⟨.tuple #[], by simp only [SV.den], by simp [results, hres e]⟩
  · rename_i t e; simp only [Option.some.injEq] at h; subst h
    exact ⟨tmps.getD t undef, g t, by simp [results, hres e]⟩
  · rename_i t u e; simp only [Option.some.injEq] at h; subst h
    exact ⟨.tuple #[tmps.getD t undef, tmps.getD u undef], by simp only [SV.den, denL_mk (g t) (denL_mk (g u) (r := []) rfl)], by simp [results, hres e]⟩
  · rename_i t u x e; simp only [Option.some.injEq] at h; subst h
    exact ⟨.tuple #[tmps.getD t undef, tmps.getD u undef, tmps.getD x undef], by simp only [SV.den, denL_mk (g t) (denL_mk (g u) (denL_mk (g x) (r := []) rfl))], by simp [results, hres e]⟩
  · cases h
end
end Go.Ev
