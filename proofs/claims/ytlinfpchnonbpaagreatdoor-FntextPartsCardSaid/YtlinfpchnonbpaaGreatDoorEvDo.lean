/- The operations all together, and their soundness. -/
import Derived.Test.YtlinfpchnonbpaaGreatDoorEvDeep
namespace Go.Ev
open Go.RowKit (Below)
def orS {α : Type} (a : Option α) (b : Option α) : Option α := match a with
  | some x => some x
  | none => b
theorem orS_cases {α : Type} {a b : Option α} {x : α} (h : orS a b = some x) : a = some x ∨ b = some x := by
  unfold orS at h; split at h
  · exact .inl h
  · exact .inr h
section
variable {B G : Nat} {w0 : Start} {E : Env} {S : St} {w : World} {P : Program}
def isIfaceD : Option TypeDesc → Bool
  | some (.interface _) => true
  | none => true
  | _ => false
def evAssert (P : Program) (x : SV) (t : TypeId) (ok : Bool) : Option SV :=
  match x with
  | .iface u v => bif isIfaceD (P.underlying t) then none else
    bif Nat.beq u t then some (match ok with | true => .tuple [v, .val (.bool true)] | false => v)
    else match ok, (P.info? t).bind (·.zero) with
      | true, some z => some (.tuple [.val z, .val (.bool false)])
      | _, _ => none
  | _ => none
theorem evAssert_ok {x sv : SV} {xt t : TypeId} {ok : Bool} {vx : Value} (h : evAssert P x t ok = some sv) (hx : x.den E = some vx) : Quiet P E sv (Instr.typeAssert vx xt t ok) := by
  unfold evAssert at h
  split at h
  case h_2 => cases h
  rename_i u v
  obtain ⟨a, ha, rfl⟩ := iface_den hx
  cases hi : isIfaceD (P.underlying t) with
  | true => rw [hi] at h; cases h
  | false =>
    rw [hi] at h
    simp only [cond_false] at h
    obtain ⟨d, hd, hne⟩ : ∃ d, P.underlying t = some d ∧ ∀ m, d ≠ .interface m := by
      cases hu : P.underlying t with
      | none => rw [hu] at hi; cases hi
      | some d => exact ⟨d, rfl, fun m e => by rw [hu, e] at hi; cases hi⟩
    have hrun : ∀ w : World, (Instr.typeAssert (.iface u a) xt t ok).run P w = ((if u = t then pure (if ok then .tuple #[a, .bool true] else a) else
        if ok then do pure (.tuple #[← zeroValue t, .bool false]) else runtimePanic (.typeAssertion (some xt) (some u) t "")) : Sem Value).run P w := fun w => by
      unfold Instr.typeAssert
      simp only [Sem.run_bind, run_underlying hd, Result.andThen_ok]
    cases hut : Nat.beq u t with
    | true =>
      have hut' := Nat.eq_of_beq_eq_true hut
      rw [hut] at h
      simp only [cond_true, Option.some.injEq] at h; subst h
      cases ok with
      | true => exact .mk (tuple2_den (vb := .bool true) ha (by simp only [SV.den])) fun w => by rw [hrun w]; simp [hut']
      | false => exact .mk ha fun w => by rw [hrun w]; simp [hut']
    | false =>
      have hut' : ¬ u = t := fun e => by subst e; simp at hut
      rw [hut] at h
      simp only [cond_false] at h
      split at h
      · rename_i z hz
        simp only [Option.some.injEq] at h; subst h
        exact .mk (tuple2_den (va := z) (vb := .bool false) (by simp only [SV.den]) (by simp only [SV.den])) fun w => by rw [hrun w]; simp [hut', run_zero' hz]
      · cases h
def evMakeIface (P : Program) (t : TypeId) (x : SV) : Option SV := bif isIfaceD (P.underlying t) then none else some (.iface t x)
theorem evMakeIface_ok {x sv : SV} {t : TypeId} {vx : Value} (h : evMakeIface P t x = some sv) (hx : x.den E = some vx) : Quiet P E sv (Instr.makeInterface t vx) := by
  unfold evMakeIface at h
  cases hi : isIfaceD (P.underlying t) with
  | true => rw [hi] at h; cases h
  | false =>
    rw [hi] at h
    simp only [cond_false, Option.some.injEq] at h; subst h
    obtain ⟨d, hd, hne⟩ : ∃ d, P.underlying t = some d ∧ ∀ m, d ≠ .interface m := by
      cases hu : P.underlying t with
      | none => rw [hu] at hi; cases hi
      | some d => exact ⟨d, rfl, fun m e => by rw [hu, e] at hi; cases hi⟩
    refine .mk (v := .iface t vx) (by simp only [SV.den, hx]) fun w => ?_
    unfold Instr.makeInterface
    simp only [Sem.run_bind, run_underlying hd, Result.andThen_ok]
    cases d <;> first | rfl | exact absurd rfl (hne _)
def evNilCheck (S : St) (x : SV) : Option SV :=
  match norm S x with
  | .ptr id off => some (.ptr id off)
  | .func (.func f) a b => some (.func (.func f) a b)
  | .iface t v => some (.iface t v)
  | .val (.pointer (some a)) => some (.val (.pointer (some a)))
  | .val (.func (.func f) a b) => some (.val (.func (.func f) a b))
  | .val (.iface t v) => some (.val (.iface t v))
  | _ => none
def lenQ (P : Program) (t : TypeId) (x : SV) : Option SV :=
  match P.underlying t, x with
  | some (.slice _), .slice _ _ len _ => some (.val (goInt len))
  | some (.array n _), _ => some (.val (goInt n))
  | _, _ => none
theorem lenQ_ok {t ty : TypeId} {x sv : SV} {vx : Value} (h : lenQ P t x = some sv) (hx : x.den E = some vx) : Quiet P E sv (Builtin.len_ #[t] ty #[vx]) := by
  unfold lenQ at h
  split at h
  · rename_i e id off len c hu
    simp only [Option.some.injEq] at h; subst h
    obtain ⟨b, m, hb, -, rfl⟩ := slice_den hx
    exact .mk (v := goInt len) (by simp only [SV.den]) fun w => by simp [Builtin.len_, run_underlying hu]
  · rename_i _ n _ hu
    simp only [Option.some.injEq] at h; subst h
    exact .mk (v := goInt n) (by simp only [SV.den]) fun w => by simp [Builtin.len_, run_underlying hu]
  · cases h
def evQuiet (P : Program) (S : St) (ev : Operand → SV) (o : Oper) : Option SV :=
  match o.op with
  | .move x | .assign x => some (ev x)
  | .pick c a b => match ev c with
    | .val (.bool true) => some (ev a)
    | .val (.bool false) => some (ev b)
    | _ => none
  | .fieldAddr t x f => evFieldAddr P S t (ev x) f
  | .field t x f => evField P t (ev x) f
  | .indexAddr t x i => evIndexAddr P S t (ev x) (ev i)
  | .index t x i => orS (opConc P ev o) (evIndex P t (ev x) (ev i))
  | .slice t x lo hi mx => orS (evSlice P S t (ev x) (lo.map ev) (hi.map ev) (mx.map ev)) (opConc P ev o)
  | .extract x i => evExtract (ev x) i
  | .build t parts => evBuild P S t (parts.toList.map fun p => (p.1, ev p.2))
  | .makeFunc fn f c => some (.func fn (f.toList.map ev) (c.toList.map ev))
  | .makeInterface t x => evMakeIface P t (ev x)
  | .nilCheck x => evNilCheck S (ev x)
  | .binOp op t x y _ => orS (opConc P ev o) (orS (evNil P op t (ev x) (ev y)) (orS (evCmp P S op t (ev x) (ev y)) (evNanCmp S op (ev x) (ev y))))
  | .typeAssert x _ t ok => orS (opConc P ev o) (evAssert P (ev x) t ok)
  | .call { callee := .builtin .len, args, argTypes } => match args.toList, argTypes.toList with
    | [x], [t] => orS (lenQ P t (ev x)) (opConc P ev o)
    | _, _ => none
  | _ => opConc P ev o
def QuietN (P : Program) (E : Env) (sv : SV) (m : Sem Next) : Prop := ∃ v : Value, sv.den E = some v ∧ ∀ w : World, m.run P w = .ok (.value v) w
theorem Quiet.next {sv : SV} {m : Sem Value} (h : Quiet P E sv m) : QuietN P E sv (do pure (.value (← m))) :=
  let ⟨v, h1, h2⟩ := h; ⟨v, h1, fun w => by simp [h2 w]⟩
theorem evNilCheck_ok (hr : ERel E S) {x sv : SV} {vx : Value} (h : evNilCheck S x = some sv) (hx : x.den E = some vx) {o : Oper} {xo : Operand} (ho : o.op = .nilCheck xo) {evr : Operand → Value} (hv : evr xo = vx) :
    QuietN P E sv (execOp evr o) := by
  have hn := norm_den hr hx
  have same : sv = norm S x ∧ ((∃ a, vx = .pointer (some a)) ∨ (∃ f a b, vx = .func (.func f) a b) ∨ (∃ t u, vx = .iface t u)) := by
    unfold evNilCheck at h
    split at h
    · rename_i e; rw [e] at hn ⊢; obtain ⟨b, _, rfl⟩ := ptr_den hn; simp only [Option.some.injEq] at h; exact ⟨h.symm, .inl ⟨_, rfl⟩⟩
    · rename_i e; rw [e] at hn ⊢; obtain ⟨a, b, rfl⟩ := func_den hn; simp only [Option.some.injEq] at h; exact ⟨h.symm, .inr (.inl ⟨_, _, _, rfl⟩)⟩
    · rename_i e; rw [e] at hn ⊢; obtain ⟨a, _, rfl⟩ := iface_den hn; simp only [Option.some.injEq] at h; exact ⟨h.symm, .inr (.inr ⟨_, _, rfl⟩)⟩
    · rename_i e; rw [e] at hn ⊢; simp only [SV.den, Option.some.injEq] at hn h; exact ⟨h.symm, .inl ⟨_, hn.symm⟩⟩
    · rename_i e; rw [e] at hn ⊢; simp only [SV.den, Option.some.injEq] at hn h; exact ⟨h.symm, .inr (.inl ⟨_, _, _, hn.symm⟩)⟩
    · rename_i e; rw [e] at hn ⊢; simp only [SV.den, Option.some.injEq] at hn h; exact ⟨h.symm, .inr (.inr ⟨_, _, hn.symm⟩)⟩
    · cases h
  obtain ⟨rfl, hcase⟩ := same
  refine ⟨vx, hn, fun w => ?_⟩
  rcases hcase with ⟨a, rfl⟩ | ⟨f, a, b, rfl⟩ | ⟨t, u, rfl⟩ <;> simp [execOp, ho, hv]
theorem mapO {lo : Option Operand} {ev : Operand → SV} {evr : Operand → Value} (he : ∀ x, (ev x).den E = some (evr x)) :
    (∀ y, lo.map ev = some y → ∃ z, lo.map evr = some z ∧ y.den E = some z) ∧ (lo.map ev = none → lo.map evr = none) := by
  cases lo with
  | none => exact ⟨fun y hy => (by cases hy), fun _ => rfl⟩
  | some x => exact ⟨fun y hy => (by simp only [Option.map_some, Option.some.injEq] at hy; subst hy; exact ⟨evr x, rfl, he x⟩), fun h => (by cases h)⟩
theorem evQuiet_ok (hr : ERel E S) {ev : Operand → SV} {o : Oper} {sv : SV} (h : evQuiet P S ev o = some sv) {evr : Operand → Value} (he : ∀ x, (ev x).den E = some (evr x)) :
    QuietN P E sv (execOp evr o) := by
  have conc : opConc P ev o = some sv → QuietN P E sv (execOp evr o) := fun h => opConc_ok h he
  have parts : ∀ ps : Array (Nat × Operand), ((ps.map fun p => (p.1, evr p.2)).toList.map (·.1) = (ps.toList.map fun p => (p.1, ev p.2)).map (·.1)) ∧
      SV.denL E ((ps.toList.map fun p => (p.1, ev p.2)).map (·.2)) = some ((ps.map fun p => (p.1, evr p.2)).toList.map (·.2)) := fun ps => by
    refine ⟨by simp, ?_⟩
    have := denL_map he (ps.toList.map (·.2))
    simpa [List.map_map, Function.comp_def] using this
  unfold evQuiet at h
  split at h
  · rename_i x ho; simp only [Option.some.injEq] at h; subst h; exact ⟨_, he x, fun w => by simp [execOp, ho]⟩
  · rename_i x ho; simp only [Option.some.injEq] at h; subst h; exact ⟨_, he x, fun w => by simp [execOp, ho]⟩
  · rename_i c a b ho
    split at h
    · rename_i hc
      have h1 := he c; rw [hc] at h1; simp only [SV.den, Option.some.injEq] at h1
      simp only [Option.some.injEq] at h; subst h
      exact ⟨_, he a, fun w => by simp [execOp, ho, ← h1, asBool]⟩
    · rename_i hc
      have h1 := he c; rw [hc] at h1; simp only [SV.den, Option.some.injEq] at h1
      simp only [Option.some.injEq] at h; subst h
      exact ⟨_, he b, fun w => by simp [execOp, ho, ← h1, asBool]⟩
    · cases h
  · rename_i t x f ho
    have := (evFieldAddr_ok (P := P) hr h (he x)).next
    simpa only [execOp, ho] using this
  · rename_i t x f ho
    have := (evField_ok (P := P) h (he x)).next
    simpa only [execOp, ho] using this
  · rename_i t x i ho
    have := (evIndexAddr_ok (P := P) hr h (he x) (he i)).next
    simpa only [execOp, ho] using this
  · rename_i t x i ho
    rcases orS_cases h with h | h
    · exact conc h
    · have := (evIndex_ok (P := P) h (he x) (he i)).next
      simpa only [execOp, ho] using this
  · rename_i t x lo hi mx ho
    rcases orS_cases h with h | h
    · have := (evSlice_ok (P := P) hr h (he x) (mapO he).1 (mapO he).2 (mapO he).1 (mapO he).2 (mapO he).1 (mapO he).2).next
      simpa only [execOp, ho] using this
    · exact conc h
  · rename_i x i ho
    have := (evExtract_ok (P := P) h (he x)).next
    simpa only [execOp, ho] using this
  · rename_i t ps ho
    have := (evBuild_ok (P := P) hr h (vparts := ps.map fun p => (p.1, evr p.2)) (parts ps).1 (parts ps).2).next
    simpa only [execOp, ho] using this
  · rename_i fn f c ho
    simp only [Option.some.injEq] at h; subst h
    refine ⟨.func fn (f.map evr) (c.map evr), ?_, fun w => by simp [execOp, ho, Instr.makeFunc]⟩
    simp only [SV.den, denL_map he]
    simp only [Option.some.injEq, Value.func.injEq, true_and]
    exact ⟨Array.ext' (by simp), Array.ext' (by simp)⟩
  · rename_i t x ho
    have := (evMakeIface_ok (P := P) h (he x)).next
    simpa only [execOp, ho] using this
  · rename_i x ho
    exact evNilCheck_ok hr h (he x) ho rfl
  · rename_i op t x y yt ho
    rcases orS_cases h with h | h
    · exact conc h
    · rcases orS_cases h with h | h
      · have := (evNil_ok (P := P) (ox := x) (oy := y) h (he x) (he y)).next
        simpa only [execOp, ho] using this
      · rcases orS_cases h with h | h
        · have := (evCmp_ok (P := P) hr (ox := x) (oy := y) h (he x) (he y)).next
          simpa only [execOp, ho] using this
        · have := (evNanCmp_ok (P := P) hr (t := t) (ox := x) (oy := y) h (he x) (he y)).next
          simpa only [execOp, ho] using this
  · rename_i x xt t ok ho
    rcases orS_cases h with h | h
    · exact conc h
    · have := (evAssert_ok (P := P) (xt := xt) h (he x)).next
      simpa only [execOp, ho] using this
  · rename_i args argTypes ho
    split at h
    · rename_i x t ha ht
      rcases orS_cases h with h | h
      · have := (lenQ_ok (P := P) (ty := o.type) h (he x)).next
        have e1 : args = #[x] := by rw [← Array.toArray_toList (xs := args), ha]
        have e2 : argTypes = #[t] := by rw [← Array.toArray_toList (xs := argTypes), ht]
        obtain ⟨v, k1, k2⟩ := this
        refine ⟨v, k1, fun w => ?_⟩
        rw [← k2 w]
        simp [execOp, ho, resolve, invoke, builtin, e1, e2]
      · exact conc h
    · cases h
  · exact conc h
def evMem (P : Program) (G : Nat) (S : St) (ev : Operand → SV) (o : Oper) : Option (List (SV × St)) :=
  match o.op with
  | .pick c a b => mapAns (fun l => l.map fun p => ((match p.1 with | true => ev a | false => ev b), p.2)) (dec S (ev c))
  | .binOp op _ x y _ => orS (evFork S op (ev x) (ev y)) (mapAns (fun p => [p]) (evNanArith S op (ev x) (ev y)))
  | .load t a => orS (mapAns (fun x => [(x, S)]) (evLoad P S t (ev a))) (mapAns (fun x => [(x, S)]) (evRoLoad P S t (ev a)))
  | .indexAddr t x i => mapAns (fun p => [p]) (evRoAddr P S t (ev x) (ev i))
  | .store t a x => mapAns (fun S' => [(.val undef, S')]) (evStore P G S t (norm S (ev a)) (ev x))
  | .alloc e => mapAns (fun p => [p]) (evAlloc P S e)
  | .box e x => mapAns (fun p => [p]) (evBox S e (ev x))
  | .buildSlice t n parts => mapAns (fun p => [p]) (evBuildSlice P S t n (parts.toList.map fun p => (p.1, ev p.2)))
  | .makeMap _ none => some [evMakeMap S]
  | .makeSlice t l c => mapAns (fun p => [p]) (evMakeSlice P S t (ev l) (ev c))
  | .lookup t x k ok => orS (mapAns (fun x => [(x, S)]) (evLookup P S t (ev x) (ev k) ok)) (evLookupFork P S t (ev x) (ev k) ok)
  | .mapUpdate t m k x | .insert t m k x => mapAns (fun S' => [(.val undef, S')]) (evMapUpdate P G S t (ev m) (ev k) (ev x))
  | .range t x => mapAns (fun p => [p]) (evRange P S t (ev x))
  | .next it s => evNext G S (ev it) s
  | .entry it => mapAns (fun x => [(x, S)]) (evEntry S (ev it))
  | .convert src dst x => mapAns (fun p => [p]) (evConvert P S src dst (ev x))
  | .call { callee := .builtin b, args, argTypes } => match b, args.toList, argTypes.toList with
    | .len, [x], [t] => orS (mapAns (fun x => [(x, S)]) (evLen P S t (ev x))) (mapAns (fun x => [(x, S)]) (evRoLen P S t (ev x)))
    | .append, [s, x], [t, xt] => mapAns (fun p => [p]) (evAppend P G S t xt (ev s) (ev x))
    | .copy, [d, x], [t, _] => mapAns (fun p => [p]) (evCopy P G S t (ev d) (ev x))
    | .delete, [m, k], [t, _] => mapAns (fun S' => [(.val (.tuple #[]), S')]) (evDelete P G S t (ev m) (ev k))
    | _, _, _ => none
  | _ => none
def evOpen (P : Program) (X : List (Nat × ExtOp)) (S : St) (ev : Operand → SV) (o : Oper) : Option (List (SV × St)) :=
  match o.op with
  | .binOp op t x y _ => orS (evOpenBin P S op t (ev x) (ev y)) (evEqAgg P S op t (ev x) (ev y))
  | .unOp op _ x => mapAns (fun p => [p]) (evOpenUn S op (ev x))
  | .convert src dst x => mapAns (fun p => [p]) (evOpenConv P S src dst (ev x))
  | .load t a => mapAns (fun p => [p]) (orS (evLLoad P S t (ev a)) (evDLoad P S t (ev a)))
  | .store t a x => mapAns (fun S' => [(.val undef, S')]) (evLStore P S t (ev a) (ev x))
  | .makeSlice t l c => evLMake P S t (ev l) (ev c)
  | .fieldAddr t a f => mapAns (fun p => [p]) (evLField P S t (ev a) f)
  | .indexAddr t x i => orS (evLAddr P S t (ev x) (ev i)) (orS (evDAddr P S t (ev x) (ev i)) (evSplitAddr P S t (ev x) (ev i)))
  | .index t x i => evSIdx P S t (ev x) (ev i)
  | .slice t x lo hi mx => evSSub P S t (ev x) (lo.map ev) (hi.map ev) (mx.map ev)
  | .call c => match callOf ev o with
    | some (f, args) => mapAns (fun p => [p]) (evExt X S f args)
    | none => match c with
      | { callee := .builtin b, args, argTypes } => match b, args.toList, argTypes.toList with
        | .len, [x], [t] => orS (mapAns (fun p => [p]) (evLLen P S t (ev x))) (orS (mapAns (fun p => [p]) (evDLen P S t (ev x))) (mapAns (fun p => [p]) (evSLen P S t (ev x))))
        | .append, [s, x], [t, xt] => evLAppend P S t xt (ev s) (ev x)
        | .max, [x, y], _ => orS (evMinMax S true (ev x) (ev y)) (evFMin S true (ev x) (ev y))
        | .min, [x, y], _ => orS (evMinMax S false (ev x) (ev y)) (evFMin S false (ev x) (ev y))
        | _, _, _ => none
      | _ => none
  | _ => none
def evIv (P : Program) (X : List (Nat × ExtOp)) (S : St) (ev : Operand → SV) (o : Oper) : Option (List (SV × St)) :=
  match o.op with
  | .binOp op _ x y _ => orS (mapAns (fun v => [(v, S)]) (evSelf S op (ev x) (ev y))) (orS (evIvQuo S op (ev x) (ev y)) (mapAns (fun p => [p]) (evIvBin S op (ev x) (ev y))))
  | .unOp op _ x => mapAns (fun p => [p]) (evIvUn S op (ev x))
  | .convert src dst x => mapAns (fun p => [p]) (evIvConv P S src dst (ev x))
  | .call _ => match callOf ev o with
    | some (f, args) => evIvExt X S f args
    | none => none
  | _ => none
def evDo (P : Program) (X : List (Nat × ExtOp)) (G : Nat) (S : St) (ev : Operand → SV) (o : Oper) : Option (List (SV × St)) :=
  match evQuiet P S ev o with
  | some v => some [(v, S)]
  | none => match evFact S ev o with
    | some v => some [(v, S)]
    | none => match evMem P G S ev o with
      | some r => some r
      | none => match evPoint P S ev o with
        | some v => some [(v, S)]
        | none => match evIv P X S ev o with
          | some r => some r
          | none => evOpen P X S ev o
def DoesN (B G : Nat) (w0 : Start) (P : Program) (E : Env) (sv : SV) (S' : St) (m : Sem Next) (w : World) : Prop :=
  ∃ (F : Env) (v : Value) (w' : World), E.le F ∧ Rel B G w0 F S' w' ∧ sv.den F = some v ∧ (m.run P w = .ok (.value v) w' ∨ (v = undef ∧ m.run P w = .ok .skip w'))
theorem Does.next {sv : SV} {S' : St} {m : Sem Value} (h : Does B G w0 P E sv S' m w) : DoesN B G w0 P E sv S' (do pure (.value (← m))) w :=
  let ⟨F, v, w', h1, h2, h3, h4⟩ := h; ⟨F, v, w', h1, h2, h3, .inl (by simp [h4])⟩
theorem DoesN.skip {S' : St} {m : Sem Unit} {w' : World} (hr : Rel B G w0 E S' w') (h : m.run P w = .ok () w') : DoesN B G w0 P E (.val undef) S' (do m; pure .skip) w :=
  ⟨E, undef, w', E.le_refl, hr, by simp only [SV.den], .inr ⟨rfl, by simp [h]⟩⟩
theorem evMem_ok (hr : Rel B G w0 E S w) {ev : Operand → SV} {o : Oper} {rs : List (SV × St)} (h : evMem P G S ev o = some rs) {evr : Operand → Value} (he : ∀ x, (ev x).den E = some (evr x)) :
    ∃ p ∈ rs, DoesN B G w0 P E p.1 p.2 (execOp evr o) w := by
  have parts : ∀ ps : Array (Nat × Operand), ((ps.map fun p => (p.1, evr p.2)).toList.map (·.1) = (ps.toList.map fun p => (p.1, ev p.2)).map (·.1)) ∧
      SV.denL E ((ps.toList.map fun p => (p.1, ev p.2)).map (·.2)) = some ((ps.map fun p => (p.1, evr p.2)).toList.map (·.2)) := fun ps => by
    refine ⟨by simp, ?_⟩
    have := denL_map he (ps.toList.map (·.2))
    simpa [List.map_map, Function.comp_def] using this
  have arr1 : ∀ {α : Type} {a : Array α} {x : α}, a.toList = [x] → a = #[x] := fun {α a x} h => by rw [← Array.toArray_toList (xs := a), h]
  have arr2 : ∀ {α : Type} {a : Array α} {x y : α}, a.toList = [x, y] → a = #[x, y] := fun {α a x y} h => by rw [← Array.toArray_toList (xs := a), h]
  unfold evMem at h
  split at h
  · rename_i c a b ho
    obtain ⟨l, hl, rfl⟩ := mapAns_some h
    obtain ⟨p, hp, hv, hrel⟩ := dec_ok hl hr (he c)
    refine ⟨_, List.mem_map.2 ⟨p, hp, rfl⟩, ?_⟩
    cases hb : p.1 with
    | true => exact ⟨E, evr a, w, E.le_refl, hrel, he a, .inl (by simp [execOp, ho, hv, hb, asBool])⟩
    | false => exact ⟨E, evr b, w, E.le_refl, hrel, he b, .inl (by simp [execOp, ho, hv, hb, asBool])⟩
  · rename_i op t x y yt ho
    rcases orS_cases h with h | h
    · obtain ⟨p, hp, hrel, hq⟩ := evFork_ok (P := P) (t := t) (ox := x) (oy := y) hr h (he x) (he y)
      refine ⟨p, hp, ?_⟩
      have := (hq.does hrel).next
      simpa only [execOp, ho] using this
    · obtain ⟨p, hp, rfl⟩ := mapAns_some h
      refine ⟨_, List.mem_cons_self, ?_⟩
      have := (evNanArith_ok (P := P) (t := t) (ox := x) (oy := y) hr (sv := p.1) (S' := p.2) hp (he x) (he y)).next
      simpa only [execOp, ho] using this
  · rename_i t a ho
    have key : ∃ x, rs = [(x, S)] ∧ ∃ v, x.den E = some v ∧ (Instr.loadAt t (evr a)).run P w = .ok v w := by
      rcases orS_cases h with h | h
      · obtain ⟨x, hx, rfl⟩ := mapAns_some h
        exact ⟨x, rfl, evLoad_ok (P := P) hr hx (he a)⟩
      · obtain ⟨x, hx, rfl⟩ := mapAns_some h
        exact ⟨x, rfl, evRoLoad_ok (P := P) hr hx (he a)⟩
    obtain ⟨x, rfl, v, h1, h2⟩ := key
    refine ⟨_, List.mem_cons_self, ?_⟩
    have := (Does.here (P := P) hr h1 h2).next
    simpa only [execOp, ho] using this
  · rename_i t x i ho
    obtain ⟨p, hp, rfl⟩ := mapAns_some h
    refine ⟨_, List.mem_cons_self, ?_⟩
    have := (evRoAddr_ok (P := P) hr (sv := p.1) (S' := p.2) hp (he x) (he i)).next
    simpa only [execOp, ho] using this
  · rename_i t a x ho
    obtain ⟨S', hS, rfl⟩ := mapAns_some h
    obtain ⟨w', h1, h2⟩ := evStore_ok (P := P) hr hS (norm_den hr.env (he a)) (he x)
    refine ⟨_, List.mem_cons_self, ?_⟩
    have := DoesN.skip (P := P) h2 h1
    simpa only [execOp, ho] using this
  · rename_i e ho
    obtain ⟨p, hp, rfl⟩ := mapAns_some h
    refine ⟨_, List.mem_cons_self, ?_⟩
    have := (evAlloc_ok (P := P) hr (sv := p.1) (S' := p.2) hp).next
    simpa only [execOp, ho] using this
  · rename_i e x ho
    obtain ⟨p, hp, rfl⟩ := mapAns_some h
    refine ⟨_, List.mem_cons_self, ?_⟩
    have := (evBox_ok (P := P) hr (sv := p.1) (S' := p.2) hp (he x)).next
    simpa only [execOp, ho] using this
  · rename_i t n ps ho
    obtain ⟨p, hp, rfl⟩ := mapAns_some h
    refine ⟨_, List.mem_cons_self, ?_⟩
    have := (evBuildSlice_ok (P := P) hr (sv := p.1) (S' := p.2) hp (vparts := ps.map fun p => (p.1, evr p.2)) (parts ps).1 (parts ps).2).next
    simpa only [execOp, ho] using this
  · rename_i t ho
    simp only [Option.some.injEq] at h; subst h
    refine ⟨_, List.mem_cons_self, ?_⟩
    have := (evMakeMap_ok (P := P) hr (t := t) (r := none) rfl).next
    simpa only [execOp, ho, Option.map_none] using this
  · rename_i t l c ho
    obtain ⟨p, hp, rfl⟩ := mapAns_some h
    refine ⟨_, List.mem_cons_self, ?_⟩
    have := (evMakeSlice_ok (P := P) hr (sv := p.1) (S' := p.2) hp (he l) (he c)).next
    simpa only [execOp, ho] using this
  · rename_i t x k ok ho
    rcases orS_cases h with h | h
    · obtain ⟨y, hy, rfl⟩ := mapAns_some h
      refine ⟨_, List.mem_cons_self, ?_⟩
      have := (evLookup_ok (P := P) hr hy (he x) (he k)).next
      simpa only [execOp, ho] using this
    · obtain ⟨p, hp, hd⟩ := evLookupFork_ok (P := P) hr h (he x) (he k)
      refine ⟨p, hp, ?_⟩
      have := hd.next
      simpa only [execOp, ho] using this
  · rename_i t m k x ho
    obtain ⟨S', hS, rfl⟩ := mapAns_some h
    obtain ⟨w', h1, h2⟩ := evMapUpdate_ok (P := P) hr hS (he m) (he k) (he x)
    refine ⟨_, List.mem_cons_self, ?_⟩
    have := DoesN.skip (P := P) h2 h1
    simpa only [execOp, ho] using this
  · rename_i t m k x ho
    obtain ⟨S', hS, rfl⟩ := mapAns_some h
    obtain ⟨w', h1, h2⟩ := evMapUpdate_ok (P := P) hr hS (he m) (he k) (he x)
    refine ⟨_, List.mem_cons_self, ?_⟩
    have := DoesN.skip (P := P) h2 h1
    simpa only [execOp, ho] using this
  · rename_i t x ho
    obtain ⟨p, hp, rfl⟩ := mapAns_some h
    refine ⟨_, List.mem_cons_self, ?_⟩
    have := (evRange_ok (P := P) hr (sv := p.1) (S' := p.2) hp (he x)).next
    simpa only [execOp, ho] using this
  · rename_i it s ho
    obtain ⟨p, hp, hd⟩ := evNext_ok (P := P) (ty := o.type) hr h (he it)
    refine ⟨p, hp, ?_⟩
    have := hd.next
    simpa only [execOp, ho] using this
  · rename_i it ho
    obtain ⟨y, hy, rfl⟩ := mapAns_some h
    refine ⟨_, List.mem_cons_self, ?_⟩
    have := (evEntry_ok (P := P) hr hy (he it)).next
    simpa only [execOp, ho] using this
  · rename_i src dst x ho
    obtain ⟨p, hp, rfl⟩ := mapAns_some h
    refine ⟨_, List.mem_cons_self, ?_⟩
    have := (evConvert_ok (P := P) hr (sv := p.1) (S' := p.2) hp (he x)).next
    simpa only [execOp, ho] using this
  · rename_i b args argTypes ho
    split at h
    · rename_i x t ha ht
      rcases orS_cases h with h | h
      · obtain ⟨y, hy, rfl⟩ := mapAns_some h
        refine ⟨_, List.mem_cons_self, ?_⟩
        have := (evLen_ok (P := P) (ty := o.type) hr hy (he x)).next
        obtain ⟨F, v, w', k1, k2, k3, k4⟩ := this
        refine ⟨F, v, w', k1, k2, k3, ?_⟩
        simpa [execOp, ho, resolve, invoke, builtin, arr1 ha, arr1 ht] using k4
      · obtain ⟨y, hy, rfl⟩ := mapAns_some h
        refine ⟨_, List.mem_cons_self, ?_⟩
        have := ((evRoLen_ok (P := P) (ty := o.type) hr hy (he x)).does hr).next
        obtain ⟨F, v, w', k1, k2, k3, k4⟩ := this
        refine ⟨F, v, w', k1, k2, k3, ?_⟩
        simpa [execOp, ho, resolve, invoke, builtin, arr1 ha, arr1 ht] using k4
    · rename_i s x t xt ha ht
      obtain ⟨p, hp, rfl⟩ := mapAns_some h
      refine ⟨_, List.mem_cons_self, ?_⟩
      have := (evAppend_ok (P := P) (ty := o.type) hr (sv := p.1) (S' := p.2) hp (he s) (he x)).next
      obtain ⟨F, v, w', k1, k2, k3, k4⟩ := this
      refine ⟨F, v, w', k1, k2, k3, ?_⟩
      simpa [execOp, ho, resolve, invoke, builtin, arr2 ha, arr2 ht] using k4
    · rename_i d x t xt ha ht
      obtain ⟨p, hp, rfl⟩ := mapAns_some h
      refine ⟨_, List.mem_cons_self, ?_⟩
      have := (evCopy_ok (P := P) (ty := o.type) (xt := xt) hr (sv := p.1) (S' := p.2) hp (he d) (he x)).next
      obtain ⟨F, v, w', k1, k2, k3, k4⟩ := this
      refine ⟨F, v, w', k1, k2, k3, ?_⟩
      simpa [execOp, ho, resolve, invoke, builtin, arr2 ha, arr2 ht] using k4
    · rename_i m k t xt ha ht
      obtain ⟨S', hS, rfl⟩ := mapAns_some h
      obtain ⟨w', h1, h2⟩ := evDelete_ok (P := P) (ty := o.type) (xt := xt) hr hS (he m) (he k)
      refine ⟨_, List.mem_cons_self, E, .tuple #[], w', E.le_refl, h2, by simp only [SV.den], .inl ?_⟩
      simp [execOp, ho, resolve, invoke, builtin, arr2 ha, arr2 ht, h1]
    · cases h
  · cases h
def DoesBN (B G : Nat) (w0 : Start) (P : Program) (E : Env) (rs : List (SV × St)) (m : Sem Next) (w : World) : Prop :=
  ∃ p ∈ rs, ∃ (F : Env) (w' : World), E.le F ∧ Rel B G w0 F p.2 w' ∧ (p.2.bad = true ∨ ∃ v : Value, p.1.den F = some v ∧ (m.run P w = .ok (.value v) w' ∨ (v = undef ∧ m.run P w = .ok .skip w')))
theorem DoesB.next {rs : List (SV × St)} {m : Sem Value} (h : DoesB B G w0 P E rs m w) : DoesBN B G w0 P E rs (do pure (.value (← m))) w := by
  obtain ⟨p, hp, h⟩ := h
  rcases h with ⟨hb, F, h1, h2⟩ | ⟨F, v, w', h1, h2, h3, h4⟩
  · exact ⟨p, hp, F, w, h1, h2, .inl hb⟩
  · exact ⟨p, hp, F, w', h1, h2, .inr ⟨v, h3, .inl (by simp [h4])⟩⟩
theorem DoesN.bn {sv : SV} {S' : St} {m : Sem Next} {rs : List (SV × St)} (hm : (sv, S') ∈ rs) (h : DoesN B G w0 P E sv S' m w) : DoesBN B G w0 P E rs m w :=
  let ⟨F, v, w', h1, h2, h3, h4⟩ := h; ⟨_, hm, F, w', h1, h2, .inr ⟨v, h3, h4⟩⟩
theorem evOpen_ok {X : List (Nat × ExtOp)} (hX : ∀ p ∈ X, ExtAt P p.1 p.2) (hr : Rel B G w0 E S w) {ev : Operand → SV} {o : Oper} {rs : List (SV × St)} (h : evOpen P X S ev o = some rs) {evr : Operand → Value} (he : ∀ x, (ev x).den E = some (evr x)) :
    DoesBN B G w0 P E rs (execOp evr o) w := by
  have arr1 : ∀ {α : Type} {a : Array α} {x : α}, a.toList = [x] → a = #[x] := fun {α a x} h => by rw [← Array.toArray_toList (xs := a), h]
  have arr2 : ∀ {α : Type} {a : Array α} {x y : α}, a.toList = [x, y] → a = #[x, y] := fun {α a x y} h => by rw [← Array.toArray_toList (xs := a), h]
  unfold evOpen at h
  split at h
  · rename_i op t x y yt ho
    have : DoesB B G w0 P E rs (do eqGuard op t x y (evr x) (evr y); binOp op t (evr x) (evr y)) w := by
      rcases orS_cases h with h | h
      · exact evOpenBin_ok (P := P) (ox := x) (oy := y) hr h (he x) (he y)
      · exact evEqAgg_ok (P := P) (ox := x) (oy := y) hr h (he x) (he y)
    have := this.next
    simpa only [execOp, ho] using this
  · rename_i op t x ho
    obtain ⟨p, hp, rfl⟩ := mapAns_some h
    have := (evOpenUn_ok (P := P) hr (sv := p.1) (S' := p.2) hp (he x)).next
    exact DoesN.bn List.mem_cons_self (by simpa only [execOp, ho] using this)
  · rename_i src dst x ho
    obtain ⟨p, hp, rfl⟩ := mapAns_some h
    have := (evOpenConv_ok (P := P) hr (sv := p.1) (S' := p.2) hp (he x)).next
    exact DoesN.bn List.mem_cons_self (by simpa only [execOp, ho] using this)
  · rename_i t a ho
    obtain ⟨p, hp, rfl⟩ := mapAns_some h
    rcases orS_cases hp with hp | hp
    · have := (evLLoad_ok (P := P) hr (sv := p.1) (S' := p.2) hp (he a)).next
      exact DoesN.bn List.mem_cons_self (by simpa only [execOp, ho] using this)
    · have := (evDLoad_ok (P := P) hr (sv := p.1) (S' := p.2) hp (he a)).next
      exact DoesN.bn List.mem_cons_self (by simpa only [execOp, ho] using this)
  · rename_i t a x ho
    obtain ⟨S', hS, rfl⟩ := mapAns_some h
    obtain ⟨F, w', h1, h2, h3⟩ := evLStore_ok (P := P) hr hS (he a) (he x)
    refine ⟨_, List.mem_cons_self, F, w', h1, h3, .inr ⟨undef, by simp only [SV.den], .inr ⟨rfl, ?_⟩⟩⟩
    simp [execOp, ho, h2]
  · rename_i t l c ho
    have := (evLMake_ok (P := P) hr h (he l) (he c)).next
    simpa only [execOp, ho] using this
  · rename_i t a f ho
    obtain ⟨p, hp, rfl⟩ := mapAns_some h
    have := (evLField_ok (P := P) hr (sv := p.1) (S' := p.2) hp (he a)).next
    exact DoesN.bn List.mem_cons_self (by simpa only [execOp, ho] using this)
  · rename_i t x i ho
    rcases orS_cases h with h | h
    · have := (evLAddr_ok (P := P) hr h (he x) (he i)).next
      simpa only [execOp, ho] using this
    · rcases orS_cases h with h | h
      · have := (evDAddr_ok (P := P) hr h (he x) (he i)).next
        simpa only [execOp, ho] using this
      · have := (evSplitAddr_ok (P := P) hr h (he x) (he i)).next
        simpa only [execOp, ho] using this
  · rename_i t x i ho
    have := (evSIdx_ok (P := P) hr h (he x) (he i)).next
    simpa only [execOp, ho] using this
  · rename_i t x lo hi mx ho
    have mp : ∀ (z : Option Operand) (y : SV), z.map ev = some y → ∃ v, z.map evr = some v ∧ y.den E = some v := fun z y e => by
      cases z with
      | none => cases e
      | some q => simp only [Option.map_some, Option.some.injEq] at e; subst e; exact ⟨_, rfl, he q⟩
    have nn : ∀ z : Option Operand, z.map ev = none → z.map evr = none := fun z e => by cases z <;> simp_all
    have := (evSSub_ok (P := P) hr h (he x) (vlo := lo.map evr) (vhi := hi.map evr) (vmx := mx.map evr) (mp lo) (nn lo) (mp hi) (nn hi) (nn mx)).next
    simpa only [execOp, ho] using this
  · rename_i c ho
    split at h
    · rename_i f args hc
      obtain ⟨p, hp, rfl⟩ := mapAns_some h
      obtain ⟨vs, hvs, hex⟩ := callOf_ok hc he
      obtain ⟨F, v, w', h1, h2, h3, h4⟩ := evExt_ok (P := P) hr hX (sv := p.1) (S' := p.2) hp hvs
      exact ⟨_, List.mem_cons_self, F, w', h1, h2, .inr ⟨v, h3, .inl (by rw [hex]; exact h4)⟩⟩
    · split at h
      · rename_i b args argTypes
        split at h
        · rename_i x t ha ht
          have key : ∀ (p : SV × St), Does B G w0 P E p.1 p.2 (Builtin.len_ #[t] o.type #[evr x]) w → DoesBN B G w0 P E [p] (execOp evr o) w := fun p hd => by
            refine DoesN.bn List.mem_cons_self ?_
            have := hd.next
            obtain ⟨F, v, w', k1, k2, k3, k4⟩ := this
            refine ⟨F, v, w', k1, k2, k3, ?_⟩
            simpa [execOp, ho, resolve, invoke, builtin, arr1 ha, arr1 ht] using k4
          rcases orS_cases h with h | h
          · obtain ⟨p, hp, rfl⟩ := mapAns_some h
            exact key p (evLLen_ok (P := P) (ty := o.type) hr (sv := p.1) (S' := p.2) hp (he x))
          · rcases orS_cases h with h | h
            · obtain ⟨p, hp, rfl⟩ := mapAns_some h
              exact key p (evDLen_ok (P := P) (ty := o.type) hr (sv := p.1) (S' := p.2) hp (he x))
            · obtain ⟨p, hp, rfl⟩ := mapAns_some h
              exact key p (evSLen_ok (P := P) (ty := o.type) hr (sv := p.1) (S' := p.2) hp (he x))
        · rename_i s x t xt ha ht
          have := (evLAppend_ok (P := P) (ty := o.type) hr h (he s) (he x)).next
          obtain ⟨p, hp, F, w', k1, k2, k3⟩ := this
          refine ⟨p, hp, F, w', k1, k2, k3.imp id fun ⟨v, k4, k5⟩ => ⟨v, k4, ?_⟩⟩
          simpa [execOp, ho, resolve, invoke, builtin, arr2 ha, arr2 ht] using k5
        · rename_i x y ha
          rcases orS_cases h with h | h
          · obtain ⟨p, hp, hd⟩ := evMinMax_ok (P := P) (ty := o.type) (tys := argTypes) hr h (he x) (he y)
            obtain ⟨F, v, w', k1, k2, k3, k4⟩ := hd.next
            refine ⟨p, hp, F, w', k1, k2, .inr ⟨v, k3, ?_⟩⟩
            simpa [execOp, ho, resolve, invoke, builtin, arr2 ha] using k4
          · obtain ⟨p, hp, F, w', k1, k2, k3⟩ := (evFMin_ok (P := P) (ty := o.type) (tys := argTypes) hr h (he x) (he y)).next
            refine ⟨p, hp, F, w', k1, k2, k3.imp id fun ⟨v, k4, k5⟩ => ⟨v, k4, ?_⟩⟩
            simpa [execOp, ho, resolve, invoke, builtin, arr2 ha] using k5
        · rename_i x y ha
          rcases orS_cases h with h | h
          · obtain ⟨p, hp, hd⟩ := evMinMax_ok (P := P) (ty := o.type) (tys := argTypes) hr h (he x) (he y)
            obtain ⟨F, v, w', k1, k2, k3, k4⟩ := hd.next
            refine ⟨p, hp, F, w', k1, k2, .inr ⟨v, k3, ?_⟩⟩
            simpa [execOp, ho, resolve, invoke, builtin, arr2 ha] using k4
          · obtain ⟨p, hp, F, w', k1, k2, k3⟩ := (evFMin_ok (P := P) (ty := o.type) (tys := argTypes) hr h (he x) (he y)).next
            refine ⟨p, hp, F, w', k1, k2, k3.imp id fun ⟨v, k4, k5⟩ => ⟨v, k4, ?_⟩⟩
            simpa [execOp, ho, resolve, invoke, builtin, arr2 ha] using k5
        · cases h
      · cases h
  · cases h
theorem evIv_ok {X : List (Nat × ExtOp)} (hX : ∀ p ∈ X, ExtAt P p.1 p.2) (hr : Rel B G w0 E S w) {ev : Operand → SV} {o : Oper} {rs : List (SV × St)} (h : evIv P X S ev o = some rs) {evr : Operand → Value} (he : ∀ x, (ev x).den E = some (evr x)) :
    DoesBN B G w0 P E rs (execOp evr o) w := by
  unfold evIv at h
  split at h
  · rename_i op t x y yt ho
    rcases orS_cases h with h | h
    · obtain ⟨v, hv, rfl⟩ := mapAns_some h
      have := (evSelf_ok (P := P) (t := t) (ox := x) (oy := y) hr hv (he x) (he y)).next
      exact DoesN.bn List.mem_cons_self (by simpa only [execOp, ho] using this)
    rcases orS_cases h with h | h
    · have := (evIvQuo_ok (P := P) (t := t) (ox := x) (oy := y) hr h (he x) (he y)).next
      simpa only [execOp, ho] using this
    obtain ⟨p, hp, rfl⟩ := mapAns_some h
    have := (evIvBin_ok (P := P) (t := t) (ox := x) (oy := y) hr (sv := p.1) (S' := p.2) hp (he x) (he y)).next
    exact DoesN.bn List.mem_cons_self (by simpa only [execOp, ho] using this)
  · rename_i op t x ho
    obtain ⟨p, hp, rfl⟩ := mapAns_some h
    have := (evIvUn_ok (P := P) hr (sv := p.1) (S' := p.2) hp (he x)).next
    exact DoesN.bn List.mem_cons_self (by simpa only [execOp, ho] using this)
  · rename_i src dst x ho
    obtain ⟨p, hp, rfl⟩ := mapAns_some h
    have := (evIvConv_ok (P := P) hr (sv := p.1) (S' := p.2) hp (he x)).next
    exact DoesN.bn List.mem_cons_self (by simpa only [execOp, ho] using this)
  · rename_i c ho
    split at h
    · rename_i f args hc
      obtain ⟨vs, hvs, hex⟩ := callOf_ok hc he
      obtain ⟨p, hp, F, v, w', h1, h2, h3, h4⟩ := evIvExt_ok (P := P) hr hX h hvs
      exact ⟨p, hp, F, w', h1, h2, .inr ⟨v, h3, .inl (by rw [hex]; exact h4)⟩⟩
    · cases h
  · cases h
theorem evDo_ok {X : List (Nat × ExtOp)} (hX : ∀ p ∈ X, ExtAt P p.1 p.2) (hP : w0.P = P) : OpOK B G w0 P (evDo P X G) := by
  intro S ev o rs h E evr w hr he
  unfold evDo at h
  split at h
  · rename_i v hv
    simp only [Option.some.injEq] at h; subst h
    obtain ⟨u, h1, h2⟩ := evQuiet_ok hr.env hv he
    exact ⟨_, List.mem_cons_self, E, w, E.le_refl, hr, .inr ⟨u, h1, .inl (h2 w)⟩⟩
  · split at h
    · rename_i v hv
      simp only [Option.some.injEq] at h; subst h
      obtain ⟨u, h1, h2⟩ := evFact_ok hP hr hv he
      exact ⟨_, List.mem_cons_self, E, w, E.le_refl, hr, .inr ⟨u, h1, .inl h2⟩⟩
    · split at h
      · rename_i r hm
        simp only [Option.some.injEq] at h; subst h
        obtain ⟨p, hp, hd⟩ := evMem_ok (P := P) hr hm he
        exact DoesN.bn hp hd
      · split at h
        · rename_i v hp
          simp only [Option.some.injEq] at h; subst h
          obtain ⟨u, h1, h2⟩ := evPoint_ok hr hp he
          exact ⟨_, List.mem_cons_self, E, w, E.le_refl, hr, .inr ⟨u, h1, .inl (h2 w)⟩⟩
        · split at h
          · rename_i r hi
            simp only [Option.some.injEq] at h; subst h
            exact evIv_ok hX hr hi he
          · exact evOpen_ok hX hr h he
end
end Go.Ev
