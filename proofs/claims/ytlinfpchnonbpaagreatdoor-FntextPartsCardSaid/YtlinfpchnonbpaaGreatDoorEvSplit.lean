/- Operations on unknown numbers, texts and truths: a new unknown, and a fact of what it is. -/
import Derived.Test.YtlinfpchnonbpaaGreatDoorEvFact
import Derived.Laws.Externs
import Derived.DataElems
import Derived.Maps.AppendAt
namespace Go.Ev
open Go.RowKit (Below)
def freshS (S : St) (srt : Sort_) (op : SOp) (args : List SV) : SV × St :=
  (.sym S.nsym, { S with nsym := S.nsym + 1, sorts := (S.nsym, srt) :: S.sorts, facts := ⟨op, args, .sym S.nsym⟩ :: S.facts })
section
variable {B G : Nat} {w0 : Start} {E : Env} {S : St} {w : World} {P : Program}
theorem fresh_ok (hr : Rel B G w0 E S w) {srt : Sort_} {op : SOp} {args : List SV} {vs : List Value} {v : Value} (ha : SV.denL E args = some vs) (hs : srt.fits v) (hf : op.rel w0 vs v) :
    E.le (E.unk S.nsym v) ∧ Rel B G w0 (E.unk S.nsym v) (freshS S srt op args).2 w ∧ (freshS S srt op args).1.den (E.unk S.nsym v) = some v := by
  obtain ⟨k1, k2⟩ := hr.newSym v
  refine ⟨k1, ?_, by simp only [freshS, SV.den]; exact Env.unk_self _ _ _⟩
  exact
  { k2 with
    sorts := fun i s hi => by
      by_cases e : i = S.nsym
      · subst e
        simp only [freshS] at hi
        rw [find_cons_self] at hi; cases hi
        exact ⟨_, Env.unk_self _ _ _, hs⟩
      · simp only [freshS] at hi
        rw [find_cons_ne e] at hi
        exact k2.sorts i s hi
    facts := fun q hq => by
      simp only [freshS, List.mem_cons] at hq
      rcases hq with rfl | hq
      · exact ⟨vs, v, SV.denL_mono k1 _ _ ha, by simp only [SV.den]; exact Env.unk_self _ _ _, hf⟩
      · exact k2.facts q hq }
inductive KindS where
  | int (k : IntKind) | float (k : FloatKind) | str | bool
def kindS (S : St) : SV → Option KindS
  | .val (.int k _) => some (.int k)
  | .val (.float k _) => some (.float k)
  | .val (.string _) => some .str
  | .val (.bool _) => some .bool
  | .sym n => match find n S.sorts with
    | some (.int k) => some (.int k)
    | some (.intIn k _ _) => some (.int k)
    | some (.is (.int k _)) => some (.int k)
    | some (.float k) => some (.float k)
    | some (.is (.float k _)) => some (.float k)
    | some .nan64 => some (.float .f64)
    | some .str => some .str
    | some (.strNot _) => some .str
    | some (.is (.string _)) => some .str
    | some .bool => some .bool
    | some (.is (.bool _)) => some .bool
    | _ => none
  | _ => none
def KindS.fits : KindS → Value → Prop
  | .int k, v => ∃ n, v = .int k n
  | .float k, v => ∃ b, v = .float k b
  | .str, v => ∃ s, v = .string s
  | .bool, v => ∃ b, v = .bool b
theorem kindS_ok (hr : ERel E S) {x : SV} {k : KindS} {v : Value} (h : kindS S x = some k) (hx : x.den E = some v) : k.fits v := by
  unfold kindS at h
  split at h
  · simp only [SV.den, Option.some.injEq] at hx h; subst hx h; exact ⟨_, rfl⟩
  · simp only [SV.den, Option.some.injEq] at hx h; subst hx h; exact ⟨_, rfl⟩
  · simp only [SV.den, Option.some.injEq] at hx h; subst hx h; exact ⟨_, rfl⟩
  · simp only [SV.den, Option.some.injEq] at hx h; subst hx h; exact ⟨_, rfl⟩
  · rename_i n
    simp only [SV.den] at hx
    split at h <;> (first | (rename_i hf; simp only [Option.some.injEq] at h; subst h; obtain ⟨u, hu, hs⟩ := hr.sorts _ _ hf; rw [hu] at hx; cases hx) | cases h)
    · exact hs
    · obtain ⟨b, rfl, _⟩ := hs; exact ⟨_, rfl⟩
    · cases hs; exact ⟨_, rfl⟩
    · exact hs
    · cases hs; exact ⟨_, rfl⟩
    · obtain ⟨b, rfl, _⟩ := hs; exact ⟨_, rfl⟩
    · exact hs
    · obtain ⟨b, rfl, _⟩ := hs; exact ⟨_, rfl⟩
    · cases hs; exact ⟨_, rfl⟩
    · exact hs
    · cases hs; exact ⟨_, rfl⟩
  · cases h
def KindS.sort : KindS → Sort_
  | .int k => .int k
  | .float k => .float k
  | .str => .str
  | .bool => .bool
theorem KindS.sort_fits {k : KindS} {v : Value} (h : k.fits v) : k.sort.fits v := by cases k <;> exact h
def known (S : St) (srt : Sort_) (op : SOp) (args : List SV) : SV × St :=
  match lookFact op args S.facts with
  | some x => (x, S)
  | none => freshS S srt op args
def Bound (op : SOp) : Prop := ∀ (w0 : Start) vs v u, op.rel w0 vs v → op.rel w0 vs u → v = u
theorem bound_fun {op : SOp} (h : ∀ (w0 : Start) vs v, op.rel w0 vs v = (sopFun op vs = some v)) : Bound op := fun w0 vs v u h1 h2 => by
  rw [h] at h1 h2
  rw [h1] at h2
  exact Option.some.inj h2
theorem known_ok (hr : Rel B G w0 E S w) {srt : Sort_} {op : SOp} {args : List SV} {vs : List Value} {v : Value} (hb : Bound op) (ha : SV.denL E args = some vs) (hs : srt.fits v) (hf : op.rel w0 vs v) :
    ∃ F, E.le F ∧ Rel B G w0 F (known S srt op args).2 w ∧ (known S srt op args).1.den F = some v := by
  unfold known
  split
  · rename_i x hx
    obtain ⟨u, h1, h2⟩ := fact_at hr hx ha
    rw [hb w0 vs u v h2 hf] at h1
    exact ⟨E, E.le_refl, hr, h1⟩
  · exact ⟨_, fresh_ok hr ha hs hf⟩
def isCmp : BinOp → Bool
  | .eql | .neq | .lss | .leq | .gtr | .geq => true
  | _ => false
def isArith : BinOp → Bool
  | .add | .sub | .mul | .and | .or | .xor | .andNot => true
  | _ => false
def isFar : BinOp → Bool
  | .add | .sub | .mul | .quo => true
  | _ => false
def isShift : BinOp → Bool
  | .shl | .shr => true
  | _ => false
def badS (S : St) : St := { S with bad := true }
def need (S : St) (x : SV) (want : Bool) : Option (St × List St) :=
  match x with
  | .val (.bool b) => bif b == want then some (S, []) else none
  | .sym n => match find n S.pc with
    | some b => bif b == want then some (S, []) else none
    | none => match find n S.sorts with
      | some .bool => some ({ S with pc := (n, want) :: S.pc }, [{ S with pc := (n, !want) :: S.pc, bad := true }])
      | _ => none
  | _ => none
theorem Rel.badly (h : Rel B G w0 E S w) : Rel B G w0 E { S with bad := true } w := { h with }
theorem need_ok (hr : Rel B G w0 E S w) {x : SV} {want : Bool} {S' : St} {bads : List St} (h : need S x want = some (S', bads)) {v : Value} (hx : x.den E = some v) :
    (v = .bool want ∧ Rel B G w0 E S' w) ∨ ∃ T ∈ bads, T.bad = true ∧ Rel B G w0 E T w := by
  unfold need at h
  split at h
  · rename_i b
    cases hb : b == want with
    | false => rw [hb] at h; cases h
    | true =>
      rw [hb] at h
      simp only [cond_true, Option.some.injEq, Prod.mk.injEq] at h
      obtain ⟨rfl, rfl⟩ := h
      simp only [beq_iff_eq] at hb; subst hb
      simp only [SV.den, Option.some.injEq] at hx
      exact .inl ⟨hx.symm, hr⟩
  · rename_i n
    simp only [SV.den] at hx
    split at h
    · rename_i b hb
      cases hbw : b == want with
      | false => rw [hbw] at h; cases h
      | true =>
        rw [hbw] at h
        simp only [cond_true, Option.some.injEq, Prod.mk.injEq] at h
        obtain ⟨rfl, rfl⟩ := h
        simp only [beq_iff_eq] at hbw; subst hbw
        have := hr.pc n b (find_mem hb)
        rw [this] at hx; cases hx
        exact .inl ⟨rfl, hr⟩
    · split at h
      · rename_i hs
        simp only [Option.some.injEq, Prod.mk.injEq] at h
        obtain ⟨rfl, rfl⟩ := h
        obtain ⟨u, hu, b, rfl⟩ := hr.sorts _ _ hs
        rw [hu] at hx; cases hx
        by_cases hbw : b = want
        · subst hbw; exact .inl ⟨rfl, hr.withPc hu⟩
        · have : b = !want := by cases b <;> cases want <;> simp_all
          subst this
          exact .inr ⟨_, List.mem_cons_self, rfl, (hr.withPc hu).badly⟩
      · cases h
  · cases h
def bads (l : List St) : List (SV × St) := l.map fun T => (.val undef, T)
theorem need_bad {l : List St} {S' : St} {sv : SV} (h : ∃ T ∈ l, T.bad = true ∧ Rel B G w0 E T w) :
    ∃ p ∈ (sv, S') :: bads l, p.2.bad = true ∧ Rel B G w0 E p.2 w := by
  obtain ⟨T, h1, h2, h3⟩ := h
  exact ⟨(.val undef, T), List.mem_cons_of_mem _ (List.mem_map.2 ⟨T, h1, rfl⟩), h2, h3⟩
def DoesB (B G : Nat) (w0 : Start) (P : Program) (E : Env) (rs : List (SV × St)) (m : Sem Value) (w : World) : Prop :=
  ∃ p ∈ rs, (p.2.bad = true ∧ ∃ F, E.le F ∧ Rel B G w0 F p.2 w) ∨ Does B G w0 P E p.1 p.2 m w
theorem doesB_bad {E' : Env} (hE : E.le E') {l : List St} {S' : St} {sv : SV} {m : Sem Value} (h : ∃ T ∈ l, T.bad = true ∧ Rel B G w0 E' T w) : DoesB B G w0 P E ((sv, S') :: bads l) m w := by
  obtain ⟨p, h1, h2, h3⟩ := need_bad (sv := sv) (S' := S') h
  exact ⟨p, h1, .inl ⟨h2, E', hE, h3⟩⟩
def evOpenBin (P : Program) (S : St) (op : BinOp) (t : TypeId) (x y : SV) : Option (List (SV × St)) :=
  match kindS S x, kindS S y with
  | some (.int k), some (.int k') =>
    bif isShift op then
      (match y with
      | .val (.int _ (.ofNat _)) => some [known S (.int k) (.int op k) [x, y]]
      | .sym n =>
        let z := known S .bool (.int .lss k') [.sym n, .val (.int k' 0)]
        match need z.2 z.1 false with
        | some (S', l) => some (known S' (.int k) (.int op k) [x, .sym n] :: bads l)
        | none => none
      | _ => none)
    else bif decide (k = k') then
      (bif isCmp op then some [known S .bool (.int op k) [x, y]]
      else bif isArith op then some [known S (.int k) (.int op k) [x, y]]
      else match op, y with
        | .quo, .val (.int _ n) | .rem, .val (.int _ n) => bif decide (n = 0) then none else some [known S (.int k) (.int op k) [x, y]]
        | .quo, y | .rem, y =>
          let z := known S .bool (.int .eql k) [y, .val (.int k 0)]
          match need z.2 z.1 false with
          | some (S', l) => some (known S' (.int k) (.int op k) [x, y] :: bads l)
          | none => none
        | _, _ => none)
    else none
  | some (.float k), some (.float k') => bif decide (k = k') && decide (k = .f64) then
      (bif isCmp op then some [known S .bool (.fcmp op) [x, y]]
      else bif isFar op then some [freshS S (.float k) (.far op) [x, y]] else none)
    else none
  | some .str, some .str => bif isCmp op then some [known S .bool (.str op) [x, y]] else
      (match op with
      | .add => some [known S .str (.str .add) [x, y], ((.val undef, badS (freshS S .bool .strBig [x, y]).2))]
      | _ => none)
  | some .bool, some .bool => match P.underlying t with
    | some .bool => (match op with
      | .eql | .neq => some [known S .bool (.boo op) [x, y]]
      | _ => none)
    | _ => none
  | _, _ => none
theorem bound_int (op : BinOp) (k : IntKind) : Bound (.int op k) := bound_fun fun _ _ _ => rfl
theorem rel_int {w0 : Start} {op : BinOp} {k k' : IntKind} {a b : Int} {v : Value} (h : intV op k a k' b = some v) : (SOp.int op k).rel w0 [.int k a, .int k' b] v := by
  show (if k = k then intV op k a k' b else none) = some v
  rw [if_pos rfl]; exact h
theorem bound_fcmp (op : BinOp) : Bound (.fcmp op) := bound_fun fun _ _ _ => rfl
theorem bound_str (op : BinOp) : Bound (.str op) := bound_fun fun _ _ _ => rfl
theorem bound_boo (op : BinOp) : Bound (.boo op) := bound_fun fun _ _ _ => rfl
theorem bound_un (op : UnOp) : Bound (.un op) := bound_fun fun _ _ _ => rfl
theorem int_cmp_run {op : BinOp} (h : isCmp op = true) {t : TypeId} {k : IntKind} {a b : Int} {ox oy : Operand} :
    ∃ c, intV op k a k b = some (.bool c) ∧ ∀ w, (do eqGuard op t ox oy (.int k a) (.int k b); binOp op t (.int k a) (.int k b) : Sem Value).run P w = .ok (.bool c) w := by
  cases op <;> simp only [isCmp, Bool.false_eq_true] at h <;> refine ⟨_, by simp only [intV, if_true, ibin]; rfl, fun w => ?_⟩ <;> simp [eqGuard, binOp, Op.intCmp]
theorem int_arith_run {op : BinOp} (h : isArith op = true) {t : TypeId} {k : IntKind} {a b : Int} {ox oy : Operand} :
    ∃ c, intV op k a k b = some (.int k c) ∧ ∀ w, (do eqGuard op t ox oy (.int k a) (.int k b); binOp op t (.int k a) (.int k b) : Sem Value).run P w = .ok (.int k c) w := by
  cases op <;> simp only [isArith, Bool.false_eq_true] at h <;> refine ⟨_, by simp only [intV, if_true, ibin]; rfl, fun w => ?_⟩ <;> simp [eqGuard, binOp, Op.intArith, Op.intBits]
theorem int_div_run {op : BinOp} (h : op = .quo ∨ op = .rem) {t : TypeId} {k : IntKind} {a b : Int} (hb : b ≠ 0) {ox oy : Operand} :
    ∃ c, intV op k a k b = some (.int k c) ∧ ∀ w, (do eqGuard op t ox oy (.int k a) (.int k b); binOp op t (.int k a) (.int k b) : Sem Value).run P w = .ok (.int k c) w := by
  rcases h with rfl | rfl <;> refine ⟨_, by simp only [intV, if_true, ibin, hb, if_false]; rfl, fun w => ?_⟩ <;> simp [eqGuard, binOp, Op.intDiv, hb]
theorem int_shift_run {op : BinOp} (h : isShift op = true) {t : TypeId} {k k' : IntKind} {a : Int} {n : Nat} {ox oy : Operand} :
    ∃ c, intV op k a k' (.ofNat n) = some (.int k c) ∧ ∀ w, (do eqGuard op t ox oy (.int k a) (.int k' (.ofNat n)); binOp op t (.int k a) (.int k' (.ofNat n)) : Sem Value).run P w = .ok (.int k c) w := by
  have hn : ¬ (Int.ofNat n < 0) := by simp
  have hn' : ¬ ((n : Int) < 0) := by omega
  cases op <;> simp only [isShift, Bool.false_eq_true] at h <;> refine ⟨_, by simp only [intV, ishift, hn, if_false]; rfl, fun w => ?_⟩ <;> simp [eqGuard, binOp, Op.shift, hn']
theorem float_cmp_run {op : BinOp} (h : isCmp op = true) {t : TypeId} {k : FloatKind} {a b : Nat} {ox oy : Operand} :
    ∃ c, fcmpV op k a b = some (.bool c) ∧ ∀ w, (do eqGuard op t ox oy (.float k a) (.float k b); binOp op t (.float k a) (.float k b) : Sem Value).run P w = .ok (.bool c) w := by
  cases op <;> simp only [isCmp, Bool.false_eq_true] at h <;> refine ⟨_, by simp only [fcmpV]; rfl, fun w => ?_⟩ <;> simp [eqGuard, binOp, Op.floatCmp]
theorem str_cmp_run {op : BinOp} (h : isCmp op = true) {t : TypeId} {a b : ByteArray} {ox oy : Operand} :
    ∃ c, strV op a b = some (.bool c) ∧ ∀ w, (do eqGuard op t ox oy (.string a) (.string b); binOp op t (.string a) (.string b) : Sem Value).run P w = .ok (.bool c) w := by
  cases op <;> simp only [isCmp, Bool.false_eq_true] at h <;> refine ⟨_, by simp only [strV]; rfl, fun w => ?_⟩ <;> simp [eqGuard, binOp, Op.stringOp]
theorem far_run {op : BinOp} (h : isFar op = true) {t : TypeId} {a b : Nat} {ox oy : Operand} (w : World) :
    ∃ v w', (do eqGuard op t ox oy (.float .f64 a) (.float .f64 b); binOp op t (.float .f64 a) (.float .f64 b) : Sem Value).run P w = .ok v w' ∧ (w' = w ∨ w' = { w with drawn := w.drawn + 1 }) ∧
      farRel op [.float .f64 a, .float .f64 b] v ∧ ∃ c, v = .float .f64 c := by
  generalize hk : FloatKind.f64 = k
  have key : ∀ r, farV op k a b = some r → (binOp op t (.float k a) (.float k b) : Sem Value) = (match r with
      | some r => (pure (.float k r) : Sem Value)
      | none => do pure (.float k (← choose (.nanBits k a b)))) → ∃ v w', (do eqGuard op t ox oy (.float k a) (.float k b); binOp op t (.float k a) (.float k b) : Sem Value).run P w = .ok v w' ∧ (w' = w ∨ w' = { w with drawn := w.drawn + 1 }) ∧
      farRel op [.float k a, .float k b] v ∧ ∃ c, v = .float k c := fun r hr he => by
    have hg : eqGuard op t ox oy (.float k a) (.float k b) = pure () := by cases op <;> rfl
    rw [hg, he]
    cases r with
    | some r => subst hk; exact ⟨.float .f64 r, w, by simp, .inl rfl, ⟨_, hr, .inl ⟨r, rfl, rfl⟩⟩, r, rfl⟩
    | none =>
      subst hk
      exact ⟨.float .f64 ((Question.nanBits .f64 a b).cut (w.tape w.drawn (.nanBits .f64 a b))), { w with drawn := w.drawn + 1 }, by simp [Question.forced], .inr rfl, ⟨_, hr, .inr ⟨rfl, _, rfl, nan_answer _⟩⟩, _, rfl⟩
  cases op <;> simp only [isFar, Bool.false_eq_true] at h <;> refine key _ rfl ?_ <;> simp only [binOp, ne_eq, not_true_eq_false, if_false, Op.floatArith, pure_bind] <;> rfl
theorem doesB_one {sv : SV} {S' : St} {m : Sem Value} (h : Does B G w0 P E sv S' m w) : DoesB B G w0 P E [(sv, S')] m w := ⟨_, List.mem_cons_self, .inr h⟩
theorem known_does (hr : Rel B G w0 E S w) {srt : Sort_} {op : SOp} {args : List SV} {vs : List Value} {v : Value} {m : Sem Value} (hb : Bound op) (ha : SV.denL E args = some vs) (hs : srt.fits v) (hf : op.rel w0 vs v)
    (hm : m.run P w = .ok v w) : Does B G w0 P E (known S srt op args).1 (known S srt op args).2 m w := by
  obtain ⟨F, h1, h2, h3⟩ := known_ok hr hb ha hs hf
  exact ⟨F, v, w, h1, h2, h3, hm⟩
theorem eqIn_bool2 (d : Nat) {t : TypeId} (a b : Bool) (hu : P.underlying t = some TypeDesc.bool) (w : World) : (Op.equalIn (d + 1) t (.bool a) (.bool b)).run P w = .ok (a == b) w := by simp [Op.equalIn, run_underlying hu]
theorem evOpenBin_ok (hr : Rel B G w0 E S w) {op : BinOp} {t : TypeId} {x y : SV} {rs : List (SV × St)} {ox oy : Operand} {vx vy : Value} (h : evOpenBin P S op t x y = some rs) (hx : x.den E = some vx) (hy : y.den E = some vy) :
    DoesB B G w0 P E rs (do eqGuard op t ox oy vx vy; binOp op t vx vy) w := by
  have ha : SV.denL E [x, y] = some [vx, vy] := denL_mk hx (denL_mk hy (r := []) rfl)
  unfold evOpenBin at h
  split at h
  · rename_i k k' h1 h2
    obtain ⟨a, rfl⟩ := kindS_ok hr.env h1 hx
    obtain ⟨b, rfl⟩ := kindS_ok hr.env h2 hy
    cases hsh : isShift op with
    | true =>
      rw [hsh] at h
      simp only [cond_true] at h
      split at h
      · rename_i j n
        simp only [Option.some.injEq] at h; subst h
        simp only [SV.den, Option.some.injEq, Value.int.injEq] at hy
        obtain ⟨rfl, rfl⟩ := hy
        obtain ⟨c, e1, e2⟩ := int_shift_run (P := P) hsh (t := t) (k := k) (k' := j) (a := a) (n := n) (ox := ox) (oy := oy)
        exact doesB_one (known_does hr (bound_int op _) ha ⟨c, rfl⟩ (rel_int e1) (e2 w))
      · rename_i n
        split at h
        · rename_i S' l hn
          simp only [Option.some.injEq] at h; subst h
          have ha' : SV.denL E [.sym n, .val (.int k' 0)] = some [.int k' b, .int k' 0] := denL_mk hy (denL_mk (by simp only [SV.den]) (r := []) rfl)
          obtain ⟨F, f1, f2, f3⟩ := known_ok hr (srt := .bool) (op := .int .lss k') (v := .bool (b < 0)) (bound_int _ _) ha' ⟨_, rfl⟩ (rel_int (by simp only [intV, if_true, ibin]))
          rcases need_ok f2 hn f3 with ⟨e, hr'⟩ | hb
          · have hb0 : ¬ b < 0 := by simpa using e
            obtain ⟨m, rfl⟩ : ∃ m : Nat, b = Int.ofNat m := ⟨b.toNat, by simp only [Int.ofNat_eq_natCast]; omega⟩
            obtain ⟨c, e1, e2⟩ := int_shift_run (P := P) hsh (t := t) (k := k) (k' := k') (a := a) (n := m) (ox := ox) (oy := oy)
            obtain ⟨F', g1, g2, g3⟩ := known_ok hr' (srt := .int k) (bound_int op k) (SV.denL_mono f1 _ _ ha) ⟨c, rfl⟩ (rel_int e1)
            exact ⟨_, List.mem_cons_self, .inr ⟨F', _, w, Env.le_trans f1 g1, g2, g3, e2 w⟩⟩
          · exact doesB_bad f1 hb
        · cases h
      · cases h
    | false =>
    rw [hsh] at h
    cases hk : decide (k = k') with
    | false => rw [hk] at h; cases h
    | true =>
    rw [hk] at h
    simp only [decide_eq_true_eq] at hk; subst hk
    simp only [cond_true, cond_false] at h
    cases hc : isCmp op with
    | true =>
      rw [hc] at h
      simp only [cond_true, Option.some.injEq] at h; subst h
      obtain ⟨c, e1, e2⟩ := int_cmp_run (P := P) hc (t := t) (k := k) (a := a) (b := b) (ox := ox) (oy := oy)
      exact doesB_one (known_does hr (bound_int op _) ha ⟨c, rfl⟩ (rel_int e1) (e2 w))
    | false =>
    rw [hc] at h
    cases har : isArith op with
    | true =>
      rw [har] at h
      simp only [cond_true, cond_false, Option.some.injEq] at h; subst h
      obtain ⟨c, e1, e2⟩ := int_arith_run (P := P) har (t := t) (k := k) (a := a) (b := b) (ox := ox) (oy := oy)
      exact doesB_one (known_does hr (bound_int op _) ha ⟨c, rfl⟩ (rel_int e1) (e2 w))
    | false =>
    rw [har] at h
    simp only [cond_false] at h
    have lit : ∀ j (n : Int), y = .val (.int j n) → (op = .quo ∨ op = .rem) → (bif decide (n = 0) then none else some [known S (.int k) (.int op k) [x, y]]) = some rs → DoesB B G w0 P E rs (do eqGuard op t ox oy (.int k a) (.int k b); binOp op t (.int k a) (.int k b)) w := fun j n hy' hop h => by
      cases hn : decide (n = 0) with
      | true => rw [hn] at h; cases h
      | false =>
        rw [hn] at h
        simp only [cond_false, Option.some.injEq] at h; subst h
        simp only [decide_eq_false_iff_not] at hn
        subst hy'
        simp only [SV.den, Option.some.injEq, Value.int.injEq] at hy
        obtain ⟨rfl, rfl⟩ := hy
        obtain ⟨c, e1, e2⟩ := int_div_run (P := P) hop (t := t) (k := j) (a := a) hn (ox := ox) (oy := oy)
        exact doesB_one (known_does hr (bound_int op _) ha ⟨c, rfl⟩ (rel_int e1) (e2 w))
    have unk : (op = .quo ∨ op = .rem) → (match need (known S .bool (.int .eql k) [y, .val (.int k 0)]).2 (known S .bool (.int .eql k) [y, .val (.int k 0)]).1 false with
        | some (S', l) => some (known S' (.int k) (.int op k) [x, y] :: bads l)
        | none => none) = some rs → DoesB B G w0 P E rs (do eqGuard op t ox oy (.int k a) (.int k b); binOp op t (.int k a) (.int k b)) w := fun hop h => by
      split at h
      · rename_i S' l hn
        simp only [Option.some.injEq] at h; subst h
        have ha' : SV.denL E [y, .val (.int k 0)] = some [.int k b, .int k 0] := denL_mk hy (denL_mk (by simp only [SV.den]) (r := []) rfl)
        obtain ⟨F, f1, f2, f3⟩ := known_ok hr (srt := .bool) (op := .int .eql k) (v := .bool (b == 0)) (bound_int _ _) ha' ⟨_, rfl⟩ (rel_int (by simp only [intV, if_true, ibin]))
        rcases need_ok f2 hn f3 with ⟨e, hr'⟩ | hb
        · have hb0 : b ≠ 0 := by simpa using e
          obtain ⟨c, e1, e2⟩ := int_div_run (P := P) hop (t := t) (k := k) (a := a) hb0 (ox := ox) (oy := oy)
          obtain ⟨F', g1, g2, g3⟩ := known_ok hr' (srt := .int k) (bound_int op k) (SV.denL_mono f1 _ _ ha) ⟨c, rfl⟩ (rel_int e1)
          exact ⟨_, List.mem_cons_self, .inr ⟨F', _, w, Env.le_trans f1 g1, g2, g3, e2 w⟩⟩
        · exact doesB_bad f1 hb
      · cases h
    split at h
    · exact lit _ _ rfl (.inl rfl) h
    · exact lit _ _ rfl (.inr rfl) h
    · exact unk (.inl rfl) h
    · exact unk (.inr rfl) h
    · cases h
  · rename_i k k' h1 h2
    obtain ⟨a, rfl⟩ := kindS_ok hr.env h1 hx
    obtain ⟨b, rfl⟩ := kindS_ok hr.env h2 hy
    cases hk : decide (k = k') && decide (k = .f64) with
    | false => rw [hk] at h; cases h
    | true =>
    rw [hk] at h
    simp only [Bool.and_eq_true, decide_eq_true_eq] at hk
    obtain ⟨rfl, rfl⟩ := hk
    simp only [cond_true] at h
    cases hc : isCmp op with
    | true =>
      rw [hc] at h
      simp only [cond_true, Option.some.injEq] at h; subst h
      obtain ⟨c, e1, e2⟩ := float_cmp_run (P := P) hc (t := t) (k := .f64) (a := a) (b := b) (ox := ox) (oy := oy)
      exact doesB_one (known_does hr (bound_fcmp op) ha ⟨c, rfl⟩ e1 (e2 w))
    | false =>
    rw [hc] at h
    cases hf : isFar op with
    | false => rw [hf] at h; cases h
    | true =>
    rw [hf] at h
    simp only [cond_true, cond_false, Option.some.injEq] at h; subst h
    obtain ⟨v, w', e1, e2, e3, c, e4⟩ := far_run (P := P) hf (t := t) (a := a) (b := b) (ox := ox) (oy := oy) w
    have hr' : Rel B G w0 E S w' := by
      rcases e2 with rfl | rfl
      · exact hr
      · exact rel_drew hr
    obtain ⟨g1, g2, g3⟩ := fresh_ok hr' (srt := .float .f64) (op := .far op) ha (v := v) ⟨c, e4⟩ e3
    exact doesB_one ⟨_, v, w', g1, g2, g3, e1⟩
  · rename_i h1 h2
    obtain ⟨a, rfl⟩ := kindS_ok hr.env h1 hx
    obtain ⟨b, rfl⟩ := kindS_ok hr.env h2 hy
    cases hc : isCmp op with
    | true =>
      rw [hc] at h
      simp only [cond_true, Option.some.injEq] at h; subst h
      obtain ⟨c, e1, e2⟩ := str_cmp_run (P := P) hc (t := t) (a := a) (b := b) (ox := ox) (oy := oy)
      exact doesB_one (known_does hr (bound_str op) ha ⟨c, rfl⟩ e1 (e2 w))
    | false =>
    rw [hc] at h
    simp only [cond_false] at h
    split at h
    · simp only [Option.some.injEq] at h; subst h
      by_cases hbig : ((a.size + b.size : Nat) : Int) > IntKind.i64.max
      · obtain ⟨g1, g2, g3⟩ := fresh_ok hr (srt := .bool) (op := .strBig) ha (v := .bool true) ⟨true, rfl⟩ (by show sopFun .strBig _ = _; simp only [sopFun, hbig, if_true])
        exact ⟨_, List.mem_cons_of_mem _ List.mem_cons_self, .inl ⟨rfl, _, g1, g2.badly⟩⟩
      · refine ⟨_, List.mem_cons_self, .inr (known_does hr (bound_str _) ha ⟨_, rfl⟩ (v := .string (a ++ b)) (by show strV .add a b = _; simp only [strV, hbig, if_false]) ?_)⟩
        have hm : IntKind.i64.max = 9223372036854775807 := rfl
        have hle : (a.size : Int) + b.size ≤ 9223372036854775807 := by rw [hm] at hbig; omega
        simp [eqGuard, binOp, Op.stringOp, hle]
    · cases h
  · rename_i h1 h2
    obtain ⟨a, rfl⟩ := kindS_ok hr.env h1 hx
    obtain ⟨b, rfl⟩ := kindS_ok hr.env h2 hy
    split at h
    · rename_i hu
      have heq : ∀ w, (Op.equal t (.bool a) (.bool b)).run P w = .ok (a == b) w := fun w => by
        exact eqIn_bool2 9999 a b hu w
      split at h
      · simp only [Option.some.injEq] at h; subst h
        exact doesB_one (known_does hr (bound_boo _) ha ⟨_, rfl⟩ (v := .bool (a == b)) rfl (by simp [eqGuard, binOp, heq w]))
      · simp only [Option.some.injEq] at h; subst h
        exact doesB_one (known_does hr (bound_boo _) ha ⟨_, rfl⟩ (v := .bool (!(a == b))) rfl (by simp [eqGuard, binOp, heq w]))
      · cases h
    · cases h
  · cases h
end
end Go.Ev
namespace Go.Ev
open Go.RowKit (Below)
section
variable {B G : Nat} {w0 : Start} {E : Env} {S : St} {w : World} {P : Program}
def evOpenUn (S : St) (op : UnOp) (x : SV) : Option (SV × St) :=
  match op, kindS S x with
  | .neg, some (.int k) => some (known S (.int k) (.un .neg) [x])
  | .neg, some (.float k) => some (known S (.float k) (.un .neg) [x])
  | .not, some .bool => some (known S .bool (.un .not) [x])
  | _, _ => none
theorem evOpenUn_ok (hr : Rel B G w0 E S w) {op : UnOp} {x sv : SV} {S' : St} {vx : Value} (h : evOpenUn S op x = some (sv, S')) (hx : x.den E = some vx) : Does B G w0 P E sv S' (Op.unary op vx) w := by
  have ha : SV.denL E [x] = some [vx] := denL_mk hx (r := []) rfl
  unfold evOpenUn at h
  split at h
  · rename_i k hk
    obtain ⟨n, rfl⟩ := kindS_ok hr.env hk hx
    simp only [Option.some.injEq] at h
    have := known_does (P := P) (m := Op.unary .neg (.int k n)) hr (bound_un .neg) ha (srt := .int k) (v := .int k (k.wrap (0 - n))) ⟨_, rfl⟩ rfl (by simp [Op.unary, Op.intArith])
    rw [h] at this; exact this
  · rename_i k hk
    obtain ⟨n, rfl⟩ := kindS_ok hr.env hk hx
    simp only [Option.some.injEq] at h
    have := known_does (P := P) (m := Op.unary .neg (.float k n)) hr (bound_un .neg) ha (srt := .float k) (v := .float k (Op.negFloat k n)) ⟨_, rfl⟩ rfl (by simp [Op.unary])
    rw [h] at this; exact this
  · rename_i hk
    obtain ⟨n, rfl⟩ := kindS_ok hr.env hk hx
    simp only [Option.some.injEq] at h
    have := known_does (P := P) (m := Op.unary .not (.bool n)) hr (bound_un .not) ha (srt := .bool) (v := .bool !n) ⟨_, rfl⟩ rfl (by simp [Op.unary])
    rw [h] at this; exact this
  · cases h
theorem bound_i2i (k : IntKind) : Bound (.i2i k) := bound_fun fun _ _ _ => rfl
theorem bound_i2s : Bound .i2s := bound_fun fun _ _ _ => rfl
theorem bound_i2f (k : FloatKind) : Bound (.i2f k) := bound_fun fun _ _ _ => rfl
def evOpenConv (P : Program) (S : St) (src dst : TypeId) (x : SV) : Option (SV × St) :=
  match P.underlying src, P.underlying dst, kindS S x with
  | some _, some (.int k), some (.int _) => some (known S (.int k) (.i2i k) [x])
  | some _, some (.float k), some (.int _) => some (known S (.float k) (.i2f k) [x])
  | some _, some (.int k), some (.float .f64) => some (freshS S (.int k) (.f2i k) [x])
  | some _, some (.float k), some (.float k') => bif decide (k = k') then some (x, S) else none
  | some _, some .string, some .str => some (x, S)
  | some _, some .string, some (.int _) => some (known S .str .i2s [x])
  | _, _, _ => none
theorem f2i_run {b : Nat} {k : IntKind} (w : World) :
    ∃ v w', (Conv.floatToInt .f64 b k).run P w = .ok v w' ∧ (w' = w ∨ w' = { w with drawn := w.drawn + 1 }) ∧ f2iRel k [.float .f64 b] v ∧ ∃ n, v = .int k n := by
  have any : (∀ n, (FloatKind.f64.decode b).toInt .zero = some n → ¬ (k.min ≤ n ∧ n ≤ k.max)) → ∃ v w', (do pure (.int k (k.wrap (← choose (.floatToInt .f64 b k)))) : Sem Value).run P w = .ok v w' ∧ (w' = w ∨ w' = { w with drawn := w.drawn + 1 }) ∧ f2iRel k [.float .f64 b] v ∧ ∃ n, v = .int k n := fun h =>
    ⟨.int k (k.wrap ((Question.floatToInt .f64 b k).cut (w.tape w.drawn (.floatToInt .f64 b k)))), { w with drawn := w.drawn + 1 }, by simp [Question.forced], .inr rfl, .inr ⟨h, _, rfl⟩, _, rfl⟩
  unfold Conv.floatToInt
  simp only
  split
  · rename_i n hn
    split
    · rename_i hin
      exact ⟨.int k n, w, by simp, .inl rfl, .inl ⟨n, hn, hin.1, hin.2, rfl⟩, n, rfl⟩
    · rename_i hin
      exact any fun m hm => by rw [hn] at hm; cases hm; exact hin
  · rename_i hn
    exact any fun m hm => by rw [hn] at hm; cases hm
theorem evOpenConv_ok (hr : Rel B G w0 E S w) {src dst : TypeId} {x sv : SV} {S' : St} {vx : Value} (h : evOpenConv P S src dst x = some (sv, S')) (hx : x.den E = some vx) : Does B G w0 P E sv S' (convert src dst vx) w := by
  have ha : SV.denL E [x] = some [vx] := denL_mk hx (r := []) rfl
  unfold evOpenConv at h
  split at h
  · rename_i ds k ki hs hd hk
    obtain ⟨n, rfl⟩ := kindS_ok hr.env hk hx
    simp only [Option.some.injEq] at h
    have := known_does (P := P) (m := convert src dst (.int ki n)) hr (bound_i2i k) ha (srt := .int k) (v := .int k (k.wrap n)) ⟨_, rfl⟩ rfl (by simp [convert, run_underlying hs, run_underlying hd, Conv.intToInt])
    rw [h] at this; exact this
  · rename_i ds k ki hs hd hk
    obtain ⟨n, rfl⟩ := kindS_ok hr.env hk hx
    simp only [Option.some.injEq] at h
    have := known_does (P := P) (m := convert src dst (.int ki n)) hr (bound_i2f k) ha (srt := .float k) (v := .float k (k.nearest n)) ⟨_, rfl⟩ rfl (by simp [convert, run_underlying hs, run_underlying hd, Conv.intToFloat])
    rw [h] at this; exact this
  · rename_i ds k hs hd hk
    obtain ⟨b, rfl⟩ := kindS_ok hr.env hk hx
    simp only [Option.some.injEq] at h
    obtain ⟨v, w', e1, e2, e3, e4⟩ := f2i_run (P := P) (b := b) (k := k) w
    have hr' : Rel B G w0 E S w' := by
      rcases e2 with rfl | rfl
      · exact hr
      · exact rel_drew hr
    obtain ⟨g1, g2, g3⟩ := fresh_ok hr' (srt := .int k) (op := .f2i k) ha (v := v) e4 e3
    rw [h] at g2 g3
    exact ⟨_, v, w', g1, g2, g3, by simp [convert, run_underlying hs, run_underlying hd, e1]⟩
  · rename_i ds k k' hs hd hk
    obtain ⟨b, rfl⟩ := kindS_ok hr.env hk hx
    cases hkk : decide (k = k') with
    | false => rw [hkk] at h; cases h
    | true =>
      rw [hkk] at h
      simp only [decide_eq_true_eq] at hkk; subst hkk
      simp only [cond_true, Option.some.injEq, Prod.mk.injEq] at h
      obtain ⟨rfl, rfl⟩ := h
      exact ⟨E, _, w, E.le_refl, hr, hx, by simp [convert, run_underlying hs, run_underlying hd, Conv.floatToFloat]⟩
  · rename_i ds hs hd hk
    obtain ⟨b, rfl⟩ := kindS_ok hr.env hk hx
    simp only [Option.some.injEq, Prod.mk.injEq] at h
    obtain ⟨rfl, rfl⟩ := h
    exact ⟨E, _, w, E.le_refl, hr, hx, by cases ds <;> simp [convert, run_underlying hs, run_underlying hd]⟩
  · rename_i ds ki hs hd hk
    obtain ⟨n, rfl⟩ := kindS_ok hr.env hk hx
    simp only [Option.some.injEq] at h
    have := known_does (P := P) (m := convert src dst (.int ki n)) hr bound_i2s ha (srt := .str) (v := .string (Utf8.encode n)) ⟨_, rfl⟩ rfl (by cases ds <;> simp [convert, run_underlying hs, run_underlying hd, Conv.intToString])
    rw [h] at this; exact this
  · cases h
def ExtOp.sem : ExtOp → Array Value → Sem Value
  | .fbits => Extern.MathFloatBits.float64bits
  | .ffrom => Extern.MathFloatBits.float64frombits
  | .floor => Extern.MathFloor.toIntegral "math.archFloor" .down
  | .ceil => Extern.MathFloor.toIntegral "math.archCeil" .up
  | .trunc => Extern.MathFloor.toIntegral "math.archTrunc" .zero
  | .sqrt => Extern.MathSqrt.sqrt
def ExtAt (P : Program) (f : Nat) (x : ExtOp) : Prop := ∀ (args : Array Value) (w : World), (callFunc f args).run P w = ((x.sem args).run P w).andThen fun v w' => .ok (.value v) w'
theorem extAt_of {f : Nat} {fn : Func} {x : ExtOp} (hf : P.funcs[f]? = some fn) (hname : (fn.name == "runtime.NumGoroutine") = false)
    (hb : fn.body.isNone = true) (hn : Extern.findNext fn = none) (he : Extern.find fn = some x.sem) : ExtAt P f x :=
  fun args w => run_callFunc_extern hf hname hb hn he args w
def extArg (S : St) (x : ExtOp) (a : SV) : Option Sort_ :=
  match x, kindS S a with
  | .fbits, some (.float .f64) => some (.int .u64)
  | .ffrom, some (.int .u64) => some (.float .f64)
  | .floor, some (.float .f64) => some (.float .f64)
  | .ceil, some (.float .f64) => some (.float .f64)
  | .trunc, some (.float .f64) => some (.float .f64)
  | .sqrt, some (.float .f64) => some (.float .f64)
  | _, _ => none
def isBits : ExtOp → Bool
  | .fbits | .ffrom => true
  | _ => false
def evExt (X : List (Nat × ExtOp)) (S : St) (f : Nat) (args : List SV) : Option (SV × St) :=
  match find f X, args with
  | some x, [a] => match extArg S x a with
    | some srt => bif isBits x then some (known S srt (.ext x) [a]) else some (freshS S srt (.ext x) [a])
    | none => none
  | _, _ => none
theorem bound_bits {x : ExtOp} (h : isBits x = true) : Bound (.ext x) := fun w0 vs v u h1 h2 => by
  cases x <;> simp only [isBits, Bool.false_eq_true] at h
  · match vs, h1, h2 with
    | [.float .f64 b], h1, h2 => exact h1.trans h2.symm
  · match vs, h1, h2 with
    | [.int .u64 b], h1, h2 => exact h1.trans h2.symm
theorem ext_run {x : ExtOp} {S : St} {a : SV} {srt : Sort_} {v : Value} (hr : ERel E S) (h : extArg S x a = some srt) (ha : a.den E = some v) (w : World) :
    ∃ u w', (x.sem #[v]).run P w = .ok u w' ∧ (w' = w ∨ w' = { w with drawn := w.drawn + 1 }) ∧ extRel x [v] u ∧ srt.fits u := by
  have integral : ∀ (name : String) (way : Ieee.Toward) (b : Nat), ∃ u w', (Extern.MathFloor.toIntegral name way #[.float .f64 b]).run P w = .ok u w' ∧ (w' = w ∨ w' = { w with drawn := w.drawn + 1 }) ∧ intgRel way b u := fun name way b => by
    have hu : Extern.MathFloor.toIntegral name way #[.float .f64 b] = (match FloatKind.f64.decode b with
      | .nan s t => if FloatKind.f64.format.quiet t = t then pure (.float .f64 b) else do
        let kept ← choose (.extern "math.Floor,Ceil,Trunc,RoundToEven.signallingNaN kept" 2)
        pure (.float .f64 (if kept == 1 then b else FloatKind.f64.encode (.nan s (FloatKind.f64.format.quiet t))))
      | d => pure (.float .f64 (FloatKind.f64.encode (d.integral way)))) := rfl
    rw [hu]
    split
    · rename_i s t hd
      split
      · exact ⟨_, w, by simp, .inl rfl, b, rfl, fun hn => absurd hd (hn s t)⟩
      · exact ⟨.float .f64 (if (Question.extern "math.Floor,Ceil,Trunc,RoundToEven.signallingNaN kept" 2).cut (w.tape w.drawn (.extern "math.Floor,Ceil,Trunc,RoundToEven.signallingNaN kept" 2)) == 1 then b else FloatKind.f64.encode (.nan s (FloatKind.f64.format.quiet t))), { w with drawn := w.drawn + 1 }, by simp [Question.forced], .inr rfl, _, rfl, fun hn => absurd hd (hn s t)⟩
    · exact ⟨_, w, by simp, .inl rfl, _, rfl, fun _ => rfl⟩
  unfold extArg at h
  split at h
  · rename_i hk
    simp only [Option.some.injEq] at h; subst h
    obtain ⟨b, rfl⟩ := kindS_ok hr hk ha
    exact ⟨.int .u64 b, w, rfl, .inl rfl, rfl, _, rfl⟩
  · rename_i hk
    simp only [Option.some.injEq] at h; subst h
    obtain ⟨b, rfl⟩ := kindS_ok hr hk ha
    exact ⟨.float .f64 b.toNat, w, rfl, .inl rfl, rfl, _, rfl⟩
  · rename_i hk
    simp only [Option.some.injEq] at h; subst h
    obtain ⟨b, rfl⟩ := kindS_ok hr hk ha
    obtain ⟨u, w', h1, h2, h3⟩ := integral "math.archFloor" .down b
    exact ⟨u, w', h1, h2, h3, h3.choose, h3.choose_spec.1⟩
  · rename_i hk
    simp only [Option.some.injEq] at h; subst h
    obtain ⟨b, rfl⟩ := kindS_ok hr hk ha
    obtain ⟨u, w', h1, h2, h3⟩ := integral "math.archCeil" .up b
    exact ⟨u, w', h1, h2, h3, h3.choose, h3.choose_spec.1⟩
  · rename_i hk
    simp only [Option.some.injEq] at h; subst h
    obtain ⟨b, rfl⟩ := kindS_ok hr hk ha
    obtain ⟨u, w', h1, h2, h3⟩ := integral "math.archTrunc" .zero b
    exact ⟨u, w', h1, h2, h3, h3.choose, h3.choose_spec.1⟩
  · rename_i hk
    simp only [Option.some.injEq] at h; subst h
    obtain ⟨b, rfl⟩ := kindS_ok hr hk ha
    have hu : ExtOp.sqrt.sem #[.float .f64 b] = (match FloatKind.f64.format.sqrt b with
      | some r => pure (.float .f64 r)
      | none => do pure (.float .f64 (← choose (.nanBits .f64 b b)))) := rfl
    rw [hu]
    split
    · rename_i r hs
      exact ⟨_, w, by simp, .inl rfl, ⟨r, rfl, fun r' h => by rw [hs] at h; exact Option.some.inj h⟩, r, rfl⟩
    · rename_i hs
      exact ⟨.float .f64 ((Question.nanBits .f64 b b).cut (w.tape w.drawn (.nanBits .f64 b b))), { w with drawn := w.drawn + 1 }, by simp [Question.forced], .inr rfl, ⟨_, rfl, fun r' h => by rw [hs] at h; cases h⟩, _, rfl⟩
  · cases h
theorem find_mem' {α : Type} {i : Nat} {l : List (Nat × α)} {x : α} (h : find i l = some x) : (i, x) ∈ l := find_mem h
theorem evExt_ok (hr : Rel B G w0 E S w) {X : List (Nat × ExtOp)} (hX : ∀ p ∈ X, ExtAt P p.1 p.2) {f : Nat} {args : List SV} {sv : SV} {S' : St} {vs : List Value} (h : evExt X S f args = some (sv, S')) (hv : SV.denL E args = some vs) :
    ∃ (F : Env) (v : Value) (w' : World), E.le F ∧ Rel B G w0 F S' w' ∧ sv.den F = some v ∧ (callFunc f vs.toArray).run P w = .ok (.value v) w' := by
  unfold evExt at h
  split at h
  · rename_i x a hx
    obtain ⟨v, l, ha, hl, rfl⟩ := denL_cons hv
    simp only [SV.denL, Option.some.injEq] at hl; subst hl
    split at h
    · rename_i srt hs
      obtain ⟨u, w', e1, e2, e3, e4⟩ := ext_run (P := P) hr.env hs ha w
      have hr' : Rel B G w0 E S w' := by
        rcases e2 with rfl | rfl
        · exact hr
        · exact rel_drew hr
      have hrun : (callFunc f [v].toArray).run P w = .ok (.value u) w' := by
        rw [hX _ (find_mem hx)]
        simp only [e1, Result.andThen_ok]
      cases hb : isBits x with
      | true =>
        rw [hb] at h
        simp only [cond_true, Option.some.injEq] at h
        obtain ⟨F, g1, g2, g3⟩ := known_ok hr' (bound_bits hb) hv e4 e3
        rw [h] at g2 g3
        exact ⟨F, u, w', g1, g2, g3, hrun⟩
      | false =>
        rw [hb] at h
        simp only [cond_false, Option.some.injEq] at h
        obtain ⟨g1, g2, g3⟩ := fresh_ok hr' (op := .ext x) hv e4 e3
        rw [h] at g2 g3
        exact ⟨_, u, w', g1, g2, g3, hrun⟩
    · cases h
  · cases h
theorem bound_slen : Bound .slen := bound_fun fun _ _ _ => rfl
theorem bound_sidx : Bound .sidx := bound_fun fun _ _ _ => rfl
def evSLen (P : Program) (S : St) (t : TypeId) (x : SV) : Option (SV × St) :=
  match kindS S x, P.underlying t with
  | some .str, some .string => some (known S (.intIn .i64 (some 0) none) .slen [x])
  | _, _ => none
theorem evSLen_ok (hr : Rel B G w0 E S w) {t ty : TypeId} {x sv : SV} {S' : St} {vx : Value} (h : evSLen P S t x = some (sv, S')) (hx : x.den E = some vx) : Does B G w0 P E sv S' (Builtin.len_ #[t] ty #[vx]) w := by
  unfold evSLen at h
  split at h
  · rename_i hk hu
    obtain ⟨s, rfl⟩ := kindS_ok hr.env hk hx
    simp only [Option.some.injEq] at h
    have := known_does (P := P) (m := Builtin.len_ #[t] ty #[.string s]) hr bound_slen (denL_mk hx (r := []) rfl) (srt := .intIn .i64 (some 0) none) (v := .int .i64 s.size)
      ⟨_, rfl, fun a e => by cases e; omega, fun b e => by cases e⟩ rfl (by simp [Builtin.len_, run_underlying hu]; rfl)
    rw [h] at this; exact this
  · cases h
end
end Go.Ev
namespace Go.Ev
open Go.RowKit (Below)
def LEnt.sz (l : LEnt) : Nat := l.lay.length
def listAt (n : Nat) : List LEnt → Option LEnt
  | [] => none
  | l :: r => bif Nat.beq n l.s then some l else listAt n r
theorem listAt_mem {n : Nat} : ∀ {ls : List LEnt} {l : LEnt}, listAt n ls = some l → l ∈ ls ∧ l.s = n
  | [], l, h => by cases h
  | m :: r, l, h => by
    simp only [listAt] at h
    cases e : Nat.beq n m.s with
    | true =>
      rw [e] at h
      simp only [cond_true, Option.some.injEq] at h; subst h
      exact ⟨List.mem_cons_self, (Nat.eq_of_beq_eq_true e).symm⟩
    | false =>
      rw [e] at h
      obtain ⟨h1, h2⟩ := listAt_mem h
      exact ⟨List.mem_cons_of_mem _ h1, h2⟩
section
variable {B G : Nat} {w0 : Start} {E : Env} {S : St} {w : World} {P : Program}
theorem LRel.slice {l : LEnt} {v : Value} {cells : Array Value} (h : LRel B w0 E w l v cells) (hr : Rel B G w0 E S w) :
    (v = .slice none 0 0 ∧ cells.size / l.lay.length = 0) ∨ ∃ a cap, v = .slice (some a) (cells.size / l.lay.length) cap ∧ ∀ (j : Nat) (c : Value), cells[j]? = some c → w.cell? (a.add j) = some c := by
  cases ho : l.own with
  | true =>
    have hown := h.own ho
    rcases hown.2 with ⟨rfl, hn⟩ | ⟨g, cap, cur, hv, _⟩
    · exact .inl ⟨rfl, hn⟩
    · refine .inr ⟨⟨g, 0, none⟩, cap, hv, fun j c hc => ?_⟩
      exact hown.cells (g := g) (by rw [hv]; rfl) j c (by simpa using hc)
  | false =>
    rcases h.old ho with ⟨rfl, rfl⟩ | ⟨a, cap, hv, hb, hc⟩
    · exact .inl ⟨rfl, by simp⟩
    · refine .inr ⟨a, cap, hv, fun j c hj => ?_⟩
      have h1 := hc j c hj
      rw [← h1]
      refine World.cell?_of_block (hr.below.block _ ?_)
      rw [addr_add_block]; exact hb
theorem bound_len (sz : Nat) : Bound (.len sz) := bound_fun fun _ _ _ => rfl
theorem bound_get (sz off : Nat) : Bound (.get sz off) := bound_fun fun _ _ _ => rfl
theorem bound_addr (sz off : Nat) : Bound (.addr sz off) := bound_fun fun _ _ _ => rfl
theorem bound_inb (sz : Nat) : Bound (.inb sz) := bound_fun fun _ _ _ => rfl
theorem bound_catc : Bound .catc := bound_fun fun _ _ _ => rfl
theorem bound_cat : Bound .cat := bound_fun fun _ _ _ => rfl
def lenSort : Sort_ := .intIn .i64 (some 0) (some 140737488355328)
def lenL (S : St) (l : LEnt) : SV × St := known S lenSort (.len l.lay.length) [.sym l.x]
theorem lenL_ok (hr : Rel B G w0 E S w) {l : LEnt} {v : Value} {cells : Array Value} (h : LRel B w0 E w l v cells) :
    ∃ F, E.le F ∧ Rel B G w0 F (lenL S l).2 w ∧ (lenL S l).1.den F = some (.int .i64 ((cells.size / l.lay.length : Nat) : Int)) :=
  known_ok hr (vs := [.agg cells]) (bound_len _) (denL_mk (x := .sym l.x) (by simp only [SV.den]; exact h.x) (r := []) rfl)
    ⟨_, rfl, fun a e => by cases e; exact Int.natCast_nonneg _, fun b e => by cases e; exact Int.ofNat_le.2 h.few⟩ rfl
def evLLen (P : Program) (S : St) (t : TypeId) (x : SV) : Option (SV × St) :=
  match x with
  | .sym n => match listAt n S.lists, P.underlying t with
    | some l, some (.slice _) => some (lenL S l)
    | _, _ => none
  | _ => none
theorem evLLen_ok (hr : Rel B G w0 E S w) {t ty : TypeId} {x sv : SV} {S' : St} {vx : Value} (h : evLLen P S t x = some (sv, S')) (hx : x.den E = some vx) : Does B G w0 P E sv S' (Builtin.len_ #[t] ty #[vx]) w := by
  unfold evLLen at h
  split at h
  · rename_i n
    split at h
    · rename_i l e hl hu
      simp only [Option.some.injEq] at h
      obtain ⟨hm, rfl⟩ := listAt_mem hl
      obtain ⟨v, cells, hL⟩ := hr.lists l hm
      simp only [SV.den] at hx
      rw [hL.s] at hx; cases hx
      obtain ⟨F, f1, f2, f3⟩ := lenL_ok hr hL
      rw [h] at f2 f3
      refine ⟨F, _, w, f1, f2, f3, ?_⟩
      rcases hL.slice hr with ⟨rfl, e0⟩ | ⟨a, cap, rfl, _⟩
      · simp [Builtin.len_, run_underlying hu, e0]; rfl
      · simp [Builtin.len_, run_underlying hu]; rfl
    · cases h
  · cases h
def notNeg (S : St) (i : SV) : Option (St × List St) :=
  match intOf S i with
  | some (_, some lo, _) => bif decide (0 ≤ lo) then some (S, []) else
    (let z := known S .bool (.int .lss .i64) [i, .val (.int .i64 0)]
    need z.2 z.1 false)
  | some (.i64, _, _) =>
    let z := known S .bool (.int .lss .i64) [i, .val (.int .i64 0)]
    need z.2 z.1 false
  | _ => none
theorem notNeg_ok (hr : Rel B G w0 E S w) {i : SV} {n : Int} (hi : i.den E = some (.int .i64 n)) {S' : St} {l : List St} (h : notNeg S i = some (S', l)) :
    ∃ F, E.le F ∧ ((0 ≤ n ∧ Rel B G w0 F S' w) ∨ ∃ T ∈ l, T.bad = true ∧ Rel B G w0 F T w) := by
  have asked : ∀ {S' : St} {l : List St}, need (known S .bool (.int .lss .i64) [i, .val (.int .i64 0)]).2 (known S .bool (.int .lss .i64) [i, .val (.int .i64 0)]).1 false = some (S', l) →
      ∃ F, E.le F ∧ ((0 ≤ n ∧ Rel B G w0 F S' w) ∨ ∃ T ∈ l, T.bad = true ∧ Rel B G w0 F T w) := fun {S' l} h => by
    obtain ⟨F, f1, f2, f3⟩ := known_ok hr (srt := .bool) (op := .int .lss .i64) (v := .bool (n < 0)) (vs := [.int .i64 n, .int .i64 0]) (bound_int _ _) (denL_mk hi (denL_mk (x := .val (.int .i64 0)) (by simp only [SV.den]) (r := []) rfl)) ⟨_, rfl⟩ (rel_int (by simp only [intV, if_true, ibin]))
    rcases need_ok f2 h f3 with ⟨e, hr'⟩ | hb
    · refine ⟨F, f1, .inl ⟨?_, hr'⟩⟩
      have : ¬ n < 0 := by simpa using e
      omega
    · exact ⟨F, f1, .inr hb⟩
  unfold notNeg at h
  split at h
  · rename_i k lo hi' hio
    obtain ⟨m, e1, e2, _⟩ := intOf_ok hr.env hio hi
    cases e1
    cases hlo : decide (0 ≤ lo) with
    | true =>
      rw [hlo] at h
      simp only [cond_true, Option.some.injEq, Prod.mk.injEq] at h
      obtain ⟨rfl, rfl⟩ := h
      simp only [decide_eq_true_eq] at hlo
      have := e2 lo rfl
      exact ⟨E, E.le_refl, .inl ⟨by omega, hr⟩⟩
    | false => rw [hlo] at h; exact asked h
  · exact asked h
  · cases h
def evLAddr (P : Program) (S : St) (t : TypeId) (x i : SV) : Option (List (SV × St)) :=
  match x with
  | .sym n => match listAt n S.lists, P.underlying t, intOf S i with
    | some l, some (.slice e), some (.i64, _, _) => match (P.info? e).map (·.size) with
      | some sz => bif Nat.beq sz l.lay.length then
          match notNeg S i with
          | none => none
          | some (S1, b1) =>
            let ln := lenL S1 l
            let c := known ln.2 .bool (.int .lss .i64) [i, ln.1]
            match need c.2 c.1 true with
            | none => none
            | some (S2, b2) =>
              let p := known S2 .cell (.addr l.lay.length 0) [x, i]
              let q := known p.2 .bool (.inb l.lay.length) [.sym l.x, i]
              some ((p.1, q.2) :: bads (b1 ++ b2))
        else none
      | none => none
    | _, _, _ => none
  | _ => none
theorem doesB_more {E' : Env} (hE : E.le E') {l : List St} {S' : St} {sv : SV} {m : Sem Value} (h : ∃ T ∈ l, T.bad = true ∧ Rel B G w0 E' T w) {l' : List St} (hl : ∀ T ∈ l, T ∈ l') : DoesB B G w0 P E ((sv, S') :: bads l') m w := by
  obtain ⟨T, h1, h2, h3⟩ := h
  exact doesB_bad hE ⟨T, hl T h1, h2, h3⟩
theorem evLAddr_ok (hr : Rel B G w0 E S w) {t : TypeId} {x i : SV} {rs : List (SV × St)} {vx vi : Value} (h : evLAddr P S t x i = some rs) (hx : x.den E = some vx) (hi : i.den E = some vi) :
    DoesB B G w0 P E rs (Instr.indexAt t vx vi) w := by
  unfold evLAddr at h
  split at h
  case h_2 => cases h
  rename_i n
  split at h
  case h_2 => cases h
  rename_i l e lo hi' hl hu hio
  split at h
  case h_2 => cases h
  rename_i sz hsz
  cases hb : Nat.beq sz l.lay.length with
  | false => rw [hb] at h; cases h
  | true =>
  rw [hb] at h
  have hbe := Nat.eq_of_beq_eq_true hb
  simp only [cond_true] at h
  obtain ⟨k, rfl, _, _⟩ := intOf_ok hr.env hio hi
  split at h
  · cases h
  rename_i S1 b1 hn
  split at h
  · cases h
  rename_i S2 b2 hn2
  simp only [Option.some.injEq] at h; subst h
  obtain ⟨F, f1, f2⟩ := notNeg_ok hr hi hn
  rcases f2 with ⟨hk, hr1⟩ | hbad
  case inr => exact doesB_more f1 hbad fun T hT => List.mem_append_left _ hT
  obtain ⟨hm, rfl⟩ := listAt_mem hl
  obtain ⟨v, cells, hL0⟩ := hr.lists l hm
  have hL := hL0.mono f1
  simp only [SV.den] at hx
  rw [hL0.s] at hx; cases hx
  obtain ⟨F2, g1, g2, g3⟩ := lenL_ok hr1 hL
  have hi2 := SV.den_mono (Env.le_trans f1 g1) _ _ hi
  obtain ⟨F3, k1, k2, k3⟩ := known_ok g2 (srt := .bool) (op := .int .lss .i64) (v := .bool (k < ((cells.size / l.lay.length : Nat) : Int))) (bound_int _ _) (denL_mk hi2 (denL_mk g3 (r := []) rfl)) ⟨_, rfl⟩ (rel_int (by simp only [intV, if_true, ibin]))
  rcases need_ok k2 hn2 k3 with ⟨e1, hr2⟩ | hbad
  case inr => exact doesB_more (Env.le_trans f1 (Env.le_trans g1 k1)) hbad fun T hT => List.mem_append_right _ hT
  have hlt : k < ((cells.size / l.lay.length : Nat) : Int) := by simpa using e1
  have hE3 := Env.le_trans f1 (Env.le_trans g1 k1)
  have hL3 := hL0.mono hE3
  rcases hL0.slice hr with ⟨rfl, e0⟩ | ⟨a, cap, rfl, hcells⟩
  · rw [e0] at hlt; omega
  have hx3 : (SV.sym l.s).den F3 = some (.slice (some a) (cells.size / l.lay.length) cap) := by simp only [SV.den]; exact hL3.s
  have hi3 := SV.den_mono hE3 _ _ hi
  obtain ⟨F4, m1, m2, m3⟩ := known_ok hr2 (srt := .cell) (op := .addr l.lay.length 0) (v := .pointer (some (a.add (k.toNat * l.lay.length + 0)))) (bound_addr _ _) (denL_mk hx3 (denL_mk hi3 (r := []) rfl)) rfl rfl
  have hX4 : (SV.sym l.x).den F4 = some (.agg cells) := by simp only [SV.den]; exact (hL3.mono m1).x
  obtain ⟨F5, n1, n2, n3⟩ := known_ok m2 (srt := .bool) (op := .inb l.lay.length) (v := .bool true) (bound_inb _) (denL_mk hX4 (denL_mk (SV.den_mono m1 _ _ hi3) (r := []) rfl)) ⟨_, rfl⟩ (by
    show (if 0 ≤ k ∧ k.toNat < cells.size / l.lay.length then some (Value.bool true) else none) = _
    rw [if_pos ⟨hk, by omega⟩])
  refine ⟨_, List.mem_cons_self, .inr ⟨F5, _, w, Env.le_trans hE3 (Env.le_trans m1 n1), n2, SV.den_mono n1 _ _ m3, ?_⟩⟩
  subst hbe
  simp only [Instr.indexAt, asIntOf, Sem.run_bind, Sem.run_pure, Result.andThen_ok, run_underlying hu]
  have h1 : (0 : Int) ≤ k ∧ k < ((cells.size / l.lay.length : Nat) : Int) := ⟨hk, hlt⟩
  simp only [h1, and_self, if_true, Sem.run_bind, run_sizeOf' hsz, Result.andThen_ok, Nat.add_zero, Sem.run_pure]
def placeOf (p : Nat) : List Fact_ → Option (Nat × Nat × SV × Nat)
  | [] => none
  | q :: r => match q with
    | ⟨.addr sz off, [.sym s, i], .sym p'⟩ => bif Nat.beq p p' then some (sz, s, i, off) else placeOf p r
    | _ => placeOf p r
theorem placeOf_mem {p : Nat} : ∀ {fs : List Fact_} {sz s : Nat} {i : SV} {off : Nat}, placeOf p fs = some (sz, s, i, off) → (⟨.addr sz off, [.sym s, i], .sym p⟩ : Fact_) ∈ fs
  | [], _, _, _, _, h => by cases h
  | q :: r, sz, s, i, off, h => by
    unfold placeOf at h
    split at h
    · rename_i sz' off' s' i' p'
      cases e : Nat.beq p p' with
      | true =>
        have := Nat.eq_of_beq_eq_true e
        subst this
        rw [e] at h
        simp only [cond_true, Option.some.injEq, Prod.mk.injEq] at h
        obtain ⟨rfl, rfl, rfl, rfl⟩ := h
        exact List.mem_cons_self
      | false => rw [e] at h; exact List.mem_cons_of_mem _ (placeOf_mem h)
    · exact List.mem_cons_of_mem _ (placeOf_mem h)
def getCells (x : Nat) (i : SV) (lay : List Sort_) : Nat → Nat → St → Option (List SV × St)
  | 0, _, S => some ([], S)
  | n + 1, off, S => match lay[off]? with
    | none => none
    | some t =>
      let c := known S t (.get lay.length off) [.sym x, i]
      match getCells x i lay n (off + 1) c.2 with
      | some (l, S') => some (c.1 :: l, S')
      | none => none
theorem getCells_ok {x : Nat} {i : SV} {lay : List Sort_} {cells : Array Value} {k : Int} (hlay : ∀ (j : Nat) (c : Value), cells[j]? = some c → ∃ t, lay[j % lay.length]? = some t ∧ t.fits c) (hk : k.toNat * lay.length + lay.length ≤ cells.size) :
    ∀ (n off : Nat) (S S' : St) (E : Env) (l : List SV), getCells x i lay n off S = some (l, S') → Rel B G w0 E S w → (SV.sym x).den E = some (.agg cells) → (∃ kd, i.den E = some (.int kd k)) → off + n ≤ lay.length →
      ∃ F vs, E.le F ∧ Rel B G w0 F S' w ∧ SV.denL F l = some vs ∧ vs = (cells.toList.drop (k.toNat * lay.length + off)).take n
  | 0, off, S, S', E, l, h, hr, _, _, _ => by
    simp only [getCells, Option.some.injEq, Prod.mk.injEq] at h
    obtain ⟨rfl, rfl⟩ := h
    exact ⟨E, [], E.le_refl, hr, rfl, by simp⟩
  | n + 1, off, S, S', E, l, h, hr, hx, hi, ho => by
    simp only [getCells] at h
    split at h
    · cases h
    · rename_i t ht
      split at h
      · rename_i l' S'' hg
        simp only [Option.some.injEq, Prod.mk.injEq] at h
        obtain ⟨rfl, rfl⟩ := h
        obtain ⟨kd, hi'⟩ := hi
        have hidx : k.toNat * lay.length + off < cells.size := by omega
        have hc : cells[k.toNat * lay.length + off]? = some cells[k.toNat * lay.length + off] := Array.getElem?_eq_getElem hidx
        obtain ⟨t', ht', hfit⟩ := hlay _ _ hc
        have hmod : (k.toNat * lay.length + off) % lay.length = off := by
          rw [Nat.mul_comm, Nat.mul_add_mod, Nat.mod_eq_of_lt (by omega)]
        rw [hmod, ht] at ht'
        cases ht'
        obtain ⟨F, f1, f2, f3⟩ := known_ok hr (srt := t) (op := .get lay.length off) (v := cells[k.toNat * lay.length + off]) (bound_get _ _) (denL_mk hx (denL_mk hi' (r := []) rfl)) hfit hc
        obtain ⟨F', vs, g1, g2, g3, g4⟩ := getCells_ok hlay hk n (off + 1) _ S'' F l' hg f2 (SV.den_mono f1 _ _ hx) ⟨kd, SV.den_mono f1 _ _ hi'⟩ (by omega)
        refine ⟨F', _, Env.le_trans f1 g1, g2, denL_mk (SV.den_mono g1 _ _ f3) g3, ?_⟩
        rw [g4]
        have hlt : k.toNat * lay.length + off < cells.toList.length := by simpa using hidx
        rw [List.drop_eq_getElem_cons hlt, List.take_succ_cons]
        simp only [Array.getElem_toList, Nat.add_assoc]
      · cases h
def evLLoad (P : Program) (S : St) (t : TypeId) (a : SV) : Option (SV × St) :=
  match a with
  | .sym p => match placeOf p S.facts with
    | some (sz, s, i, off) => match listAt s S.lists with
      | some l => bif Nat.beq sz l.lay.length then
          match lookFact (.inb sz) [.sym l.x, i] S.facts, P.underlying t with
          | some _, some d => bif isAggD d then
              match (P.info? t).map (·.size) with
              | none => none
              | some n => bif Nat.ble (off + n) sz then
                  match getCells l.x i l.lay n off S with
                  | some (cs, S') => some (.agg cs, S')
                  | none => none
                else none
            else bif Nat.blt off sz then
              match getCells l.x i l.lay 1 off S with
              | some ([c], S') => some (c, S')
              | _ => none
            else none
          | _, _ => none
        else none
      | none => none
    | none => none
  | _ => none
theorem inb_of {cells : Array Value} {sz : Nat} {k : Int} {kd : IntKind} {v : Value} (h : sopFun (.inb sz) [.agg cells, .int kd k] = some v) : 0 ≤ k ∧ k.toNat < cells.size / sz := by
  simp only [sopFun] at h
  split at h
  · assumption
  · cases h
theorem place_at (hr : Rel B G w0 E S w) {p sz s : Nat} {i : SV} {off : Nat} (h : placeOf p S.facts = some (sz, s, i, off)) {v : Value} (hp : E.σ p = some v) :
    ∃ a n cap kd k, E.σ s = some (.slice (some a) n cap) ∧ i.den E = some (.int kd k) ∧ v = .pointer (some (a.add (k.toNat * sz + off))) := by
  obtain ⟨vs, u, h1, h2, h3⟩ := hr.facts _ (placeOf_mem h)
  obtain ⟨v1, l1, e1, e2, rfl⟩ := denL_cons h1
  obtain ⟨v2, l2, e3, e4, rfl⟩ := denL_cons e2
  simp only [SV.denL, Option.some.injEq] at e4; subst e4
  simp only [SV.den] at h2 e1
  rw [hp] at h2; cases h2
  have h3' : sopFun (.addr sz off) [v1, v2] = some v := h3
  match v1, v2, h3' with
  | .slice (some a) n cap, .int kd k, h3' =>
    simp only [sopFun, Option.some.injEq] at h3'
    exact ⟨a, n, cap, kd, k, e1, e3, h3'.symm⟩
theorem loads_far {a : Addr} {n : Nat} {l : List Value} (hlen : l.length = n) (h : ∀ (j : Nat) (v : Value), l[j]? = some v → w.cell? (a.add j) = some v) : (loadCells a n).run P w = .ok l.toArray w := by
  subst hlen
  exact run_loadCells_list (P := P) w a l h
theorem evLLoad_ok (hr : Rel B G w0 E S w) {t : TypeId} {a sv : SV} {S' : St} {va : Value} (h : evLLoad P S t a = some (sv, S')) (ha : a.den E = some va) : Does B G w0 P E sv S' (Instr.loadAt t va) w := by
  unfold evLLoad at h
  split at h
  case h_2 => cases h
  rename_i p
  split at h
  case h_2 => cases h
  rename_i sz s i off hp
  split at h
  case h_2 => cases h
  rename_i l hl
  cases hb : Nat.beq sz l.lay.length with
  | false => rw [hb] at h; cases h
  | true =>
  rw [hb] at h
  have hbe := Nat.eq_of_beq_eq_true hb
  subst hbe
  simp only [cond_true] at h
  split at h
  case h_2 => cases h
  rename_i z d hz hd
  simp only [SV.den] at ha
  obtain ⟨a, n, cap, kd, k, e1, e2, rfl⟩ := place_at hr hp ha
  obtain ⟨hm, rfl⟩ := listAt_mem hl
  obtain ⟨v, cells, hL⟩ := hr.lists l hm
  have hX : (SV.sym l.x).den E = some (.agg cells) := by simp only [SV.den]; exact hL.x
  obtain ⟨u, hu1, hu2⟩ := fact_at hr hz (denL_mk hX (denL_mk e2 (r := []) rfl))
  obtain ⟨hk0, hk1⟩ := inb_of hu2
  have hs := hL.s
  rw [e1] at hs; cases hs
  have hcells : ∀ (j : Nat) (c : Value), cells[j]? = some c → w.cell? (a.add j) = some c := by
    rcases hL.slice hr with ⟨e, _⟩ | ⟨a', cap', e, hc⟩
    · cases e
    · cases e; exact hc
  have hwhole : k.toNat * l.lay.length + l.lay.length ≤ cells.size := by
    have h1 : (k.toNat + 1) * l.lay.length ≤ cells.size / l.lay.length * l.lay.length := Nat.mul_le_mul_right _ hk1
    rw [Nat.add_mul, Nat.one_mul] at h1
    have := hL.whole; omega
  have go : ∀ (m : Nat) (cs : List SV) (S'' : St), off + m ≤ l.lay.length → getCells l.x i l.lay m off S = some (cs, S'') →
      ∃ F vs, E.le F ∧ Rel B G w0 F S'' w ∧ SV.denL F cs = some vs ∧ vs.length = m ∧ ∀ (j : Nat) (c : Value), vs[j]? = some c → w.cell? ((a.add (k.toNat * l.lay.length + off)).add j) = some c := fun m cs S'' hom hg => by
    obtain ⟨F, vs, f1, f2, f3, f4⟩ := getCells_ok hL.lay hwhole m off S S'' E cs hg hr hX ⟨kd, e2⟩ hom
    refine ⟨F, vs, f1, f2, f3, by rw [f4]; simp; omega, fun j c hj => ?_⟩
    rw [Addr.add_add]
    refine hcells _ _ ?_
    rw [f4, List.getElem?_take] at hj
    split at hj
    · rw [List.getElem?_drop] at hj
      simpa using hj
    · cases hj
  cases hagg : isAggD d with
  | true =>
    rw [hagg] at h
    simp only [cond_true] at h
    split at h
    · cases h
    rename_i m hsz
    cases hle : Nat.ble (off + m) l.lay.length with
    | false => rw [hle] at h; cases h
    | true =>
    rw [hle] at h
    simp only [cond_true] at h
    split at h
    · rename_i cs S'' hg
      simp only [Option.some.injEq, Prod.mk.injEq] at h
      obtain ⟨rfl, rfl⟩ := h
      obtain ⟨F, vs, f1, f2, f3, f4, f5⟩ := go m cs S'' (Nat.le_of_ble_eq_true hle) hg
      refine ⟨F, .agg vs.toArray, w, f1, f2, by simp only [SV.den, f3], ?_⟩
      simp only [Instr.loadAt, Instr.sureAddr, loadVar, Sem.run_bind, Sem.run_pure, Result.andThen_ok, run_isAgg' hd, hagg, if_true, run_sizeOf' hsz, loads_far f4 f5]
    · cases h
  | false =>
    rw [hagg] at h
    simp only [cond_false] at h
    cases hlt : Nat.blt off l.lay.length with
    | false => rw [hlt] at h; cases h
    | true =>
    have hlt' : off < l.lay.length := Nat.le_of_ble_eq_true hlt
    rw [hlt] at h
    simp only [cond_true] at h
    split at h
    · rename_i c S'' hg
      simp only [Option.some.injEq, Prod.mk.injEq] at h
      obtain ⟨rfl, rfl⟩ := h
      obtain ⟨F, vs, f1, f2, f3, f4, f5⟩ := go 1 [c] S'' (by omega) hg
      obtain ⟨v1, l1, g1, g2, rfl⟩ := denL_cons f3
      simp only [SV.denL, Option.some.injEq] at g2; subst g2
      refine ⟨F, v1, w, f1, f2, g1, ?_⟩
      have hc := f5 0 v1 (by simp)
      simp only [Addr.add, if_true] at hc
      simp only [Instr.loadAt, Instr.sureAddr, loadVar, Sem.run_bind, Sem.run_pure, Result.andThen_ok, run_isAgg' hd, hagg, Bool.false_eq_true, if_false, run_load]
      simp only [Addr.add] at hc ⊢
      rw [hc]
    · cases h
def evLField (P : Program) (S : St) (t : TypeId) (a : SV) (f : Nat) : Option (SV × St) :=
  match a with
  | .sym p => match placeOf p S.facts with
    | some (sz, s, i, off) => match P.underlying t with
      | some (.struct fields) => match fields[f]? with
        | some fd => match (P.info? fd.type).map (·.size) with
          | some (_ + 1) => some (known S .cell (.addr sz (off + fd.offset)) [.sym s, i])
          | _ => none
        | none => none
      | _ => none
    | none => none
  | _ => none
theorem evLField_ok (hr : Rel B G w0 E S w) {t : TypeId} {a sv : SV} {S' : St} {f : Nat} {va : Value} (h : evLField P S t a f = some (sv, S')) (ha : a.den E = some va) : Does B G w0 P E sv S' (Instr.fieldAt t va f) w := by
  unfold evLField at h
  split at h
  case h_2 => cases h
  rename_i p
  split at h
  case h_2 => cases h
  rename_i sz s i off hp
  split at h
  case h_2 => cases h
  rename_i fields hu
  split at h
  case h_2 => cases h
  rename_i fd hfd
  split at h
  case h_2 => cases h
  rename_i n hsz
  simp only [Option.some.injEq] at h
  simp only [SV.den] at ha
  obtain ⟨a, n', cap, kd, k, e1, e2, rfl⟩ := place_at hr hp ha
  obtain ⟨F, f1, f2, f3⟩ := known_ok hr (srt := .cell) (op := .addr sz (off + fd.offset)) (vs := [.slice (some a) n' cap, .int kd k]) (v := .pointer (some (a.add (k.toNat * sz + (off + fd.offset))))) (bound_addr _ _)
    (denL_mk (x := .sym s) (by simp only [SV.den]; exact e1) (denL_mk e2 (r := []) rfl)) rfl rfl
  rw [h] at f2 f3
  refine ⟨F, _, w, f1, f2, f3, ?_⟩
  simp only [Instr.fieldAt, Sem.run_bind, run_underlying hu, Result.andThen_ok, hfd, Instr.sureAddr, Sem.run_pure, fieldPlace, run_sizeOf' hsz]
  simp [Addr.add_add, Nat.add_assoc]
end
end Go.Ev
namespace Go.Ev
open Go.RowKit (Below)
section
variable {B G : Nat} {w0 : Start} {E : Env} {S : St} {w : World} {P : Program}
def fitsS (S : St) (x : SV) : Sort_ → Bool
  | .any => true
  | .cell => oneS S x
  | .int k => match kindS S x with
    | some (.int k') => decide (k' = k)
    | _ => false
  | .float k => match kindS S x with
    | some (.float k') => decide (k' = k)
    | _ => false
  | .str => match kindS S x with
    | some .str => true
    | _ => false
  | .bool => match kindS S x with
    | some .bool => true
    | _ => false
  | _ => false
theorem fitsS_ok (hr : ERel E S) {x : SV} {t : Sort_} {v : Value} (h : fitsS S x t = true) (hx : x.den E = some v) : t.fits v := by
  cases t with
  | any => trivial
  | cell => exact oneS_ok hr h hx
  | int k =>
    simp only [fitsS] at h
    split at h
    · rename_i k' hk
      simp only [decide_eq_true_eq] at h; subst h
      exact kindS_ok hr hk hx
    · cases h
  | float k =>
    simp only [fitsS] at h
    split at h
    · rename_i k' hk
      simp only [decide_eq_true_eq] at h; subst h
      exact kindS_ok hr hk hx
    · cases h
  | str =>
    simp only [fitsS] at h
    split at h
    · rename_i hk; exact kindS_ok hr hk hx
    · cases h
  | bool =>
    simp only [fitsS] at h
    split at h
    · rename_i hk; exact kindS_ok hr hk hx
    · cases h
  | «is» u => cases h
  | strNot l => cases h
  | intIn k a b => cases h
  | nan64 => cases h
def oneSort : Sort_ → Bool
  | .any => false
  | .is _ => false
  | _ => true
theorem oneSort_ok {t : Sort_} {v : Value} (h : oneSort t = true) (hf : t.fits v) : v.oneCell' = true := by
  cases t with
  | any => cases h
  | «is» u => cases h
  | cell => exact hf
  | strNot l => obtain ⟨b, rfl, _⟩ := hf; rfl
  | intIn k lo hi => obtain ⟨b, rfl, _⟩ := hf; rfl
  | nan64 => obtain ⟨b, rfl, _⟩ := hf; rfl
  | bool => obtain ⟨b, rfl⟩ := hf; rfl
  | int k => obtain ⟨b, rfl⟩ := hf; rfl
  | float k => obtain ⟨b, rfl⟩ := hf; rfl
  | str => obtain ⟨b, rfl⟩ := hf; rfl
def fitsRows (S : St) (lay : List Sort_) : Nat → List SV → Bool
  | _, [] => true
  | j, x :: r => match lay[j % lay.length]? with
    | some t => bif fitsS S x t && oneSort t then fitsRows S lay (j + 1) r else false
    | none => false
theorem fitsRows_ok (hr : ERel E S) {lay : List Sort_} : ∀ {xs : List SV} {vs : List Value} (j : Nat), fitsRows S lay j xs = true → SV.denL E xs = some vs →
    ∀ (i : Nat) (v : Value), vs[i]? = some v → v.oneCell' = true ∧ ∃ t, lay[(j + i) % lay.length]? = some t ∧ t.fits v
  | [], vs, j, _, hv, i, v, hi => by simp only [SV.denL, Option.some.injEq] at hv; subst hv; simp at hi
  | x :: r, vs, j, h, hv, i, v, hi => by
    obtain ⟨u, l, h1, h2, rfl⟩ := denL_cons hv
    simp only [fitsRows] at h
    split at h
    · rename_i t ht
      cases hb : fitsS S x t && oneSort t with
      | false => rw [hb] at h; cases h
      | true =>
        rw [hb] at h
        simp only [Bool.and_eq_true] at hb
        cases i with
        | zero =>
          simp at hi; subst hi
          have := fitsS_ok hr hb.1 h1
          exact ⟨oneSort_ok hb.2 this, t, ht, this⟩
        | succ i =>
          simp at hi
          have := fitsRows_ok hr (j + 1) h h2 i v hi
          rwa [show j + 1 + i = j + (i + 1) by omega] at this
    · cases h
def dropList (n : Nat) : List LEnt → List LEnt
  | [] => []
  | l :: r => bif Nat.beq n l.s then dropList n r else l :: dropList n r
theorem dropList_mem {n : Nat} : ∀ {ls : List LEnt} {l : LEnt}, l ∈ dropList n ls → l ∈ ls ∧ l.s ≠ n
  | [], l, h => by cases h
  | m :: r, l, h => by
    simp only [dropList] at h
    cases e : Nat.beq n m.s with
    | true => rw [e] at h; obtain ⟨h1, h2⟩ := dropList_mem h; exact ⟨List.mem_cons_of_mem _ h1, h2⟩
    | false =>
      rw [e] at h
      simp only [cond_false, List.mem_cons] at h
      rcases h with rfl | h
      · exact ⟨List.mem_cons_self, fun h => by rw [h] at e; simp at e⟩
      · obtain ⟨h1, h2⟩ := dropList_mem h; exact ⟨List.mem_cons_of_mem _ h1, h2⟩
theorem Rel.relist (hr : Rel B G w0 E S w) {l l' : LEnt} (hl : l ∈ S.lists) (ho : l.own = true) {v v' : Value} {cells' : Array Value} (hv : E.σ l.s = some v) {w' : World} (hg : w.grownBy w' v.ownBlock)
    (hb : v'.ownBlock = v.ownBlock ∨ v'.ownBlock = some w.heap.size ∨ v'.ownBlock = none) (ho' : l'.own = true) (hL : LRel B w0 E w' l' v' cells') (hs' : ∀ m ∈ S.lists, m.s ≠ l.s → m.s ≠ l'.s) :
    Rel B G w0 E { S with lists := l' :: dropList l.s S.lists } w' := by
  obtain ⟨u, cells, hr0⟩ := hr.lists l hl
  have : u = v := by have := hr0.s; rw [hv] at this; cases this; rfl
  subst this
  have hrow : ∀ b, u.ownBlock = some b → B ≤ b ∧ b < w.heap.size := fun b hb => hr0.lt ho hb
  have far : ∀ k, k < w.heap.size → u.ownBlock ≠ some k → w'.heap[k]? = w.heap[k]? := fun k hk hne => hg.block k hk (fun e => hne e.symm)
  exact
  { hr with
    heap := fun id o hi => by
      obtain ⟨b, x, h1, h2, h3⟩ := hr.heap id o hi
      refine ⟨b, x, h1, ?_, h3⟩
      rw [far b (hr.dom id b h1) (fun e => (hr.apart l hl ho u hv b e).1 id o hi h1)]
      exact h2
    dom := fun i b hb => by have := hr.dom i b hb; have := hg.size; omega
    base := by have := hr.base; have := hg.size; omega
    below := hr.below.trans ⟨hg.os, hg.tape, hg.output, hg.size, fun i hi => far i (by have := hr.base; omega) (fun e => by have := (hrow i e).1; omega)⟩
    lists := fun m hm => by
      simp only [List.mem_cons] at hm
      rcases hm with rfl | hm
      · exact ⟨v', cells', hL⟩
      · obtain ⟨hm, hne⟩ := dropList_mem hm
        obtain ⟨x, c, hx⟩ := hr.lists m hm
        exact ⟨x, c, hx.keep fun hmo b hxb => far b (hx.lt hmo hxb).2 fun e => hne ((hr.apart l hl ho u hv b e).2 m hm hmo x hx.s hxb)⟩
    apart := fun m hm hmo x hx b hxb => by
      have hnew : ∀ b, v'.ownBlock = some b → (∀ id o, find id S.heap = some o → E.ρ id ≠ some b) ∧ ∀ m ∈ S.lists, m.own = true → m.s ≠ l.s → ∀ y, E.σ m.s = some y → y.ownBlock ≠ some b := fun b hvb => by
        rcases hb with e | e | e
        · rw [e] at hvb
          have ha := hr.apart l hl ho u hv b hvb
          exact ⟨ha.1, fun m hm hmo hne y hy hyb => hne (ha.2 m hm hmo y hy hyb)⟩
        · rw [e] at hvb; cases hvb
          exact ⟨fun id o hi h => by have := hr.dom id _ h; omega, fun m hm hmo hne y hy hyb => by
            obtain ⟨z, c, hz⟩ := hr.lists m hm
            have := hz.s; rw [hy] at this; cases this
            have := (hz.lt hmo hyb).2; omega⟩
        · rw [e] at hvb; cases hvb
      simp only [List.mem_cons] at hm
      rcases hm with rfl | hm
      · have := hL.s; rw [hx] at this; cases this
        refine ⟨(hnew b hxb).1, fun k hk hko y hy hyb => ?_⟩
        simp only [List.mem_cons] at hk
        rcases hk with rfl | hk
        · rfl
        · obtain ⟨hk, hne⟩ := dropList_mem hk
          exact absurd hyb ((hnew b hxb).2 k hk hko hne y hy)
      · obtain ⟨hm, hne⟩ := dropList_mem hm
        have ha := hr.apart m hm hmo x hx b hxb
        refine ⟨ha.1, fun k hk hko y hy hyb => ?_⟩
        simp only [List.mem_cons] at hk
        rcases hk with rfl | hk
        · have := hL.s; rw [hy] at this; cases this
          exact absurd hxb ((hnew b hyb).2 m hm hmo hne x hx)
        · exact ha.2 k (dropList_mem hk).1 hko y hy hyb }
def evLAppend (P : Program) (S : St) (t xt : TypeId) (s x : SV) : Option (List (SV × St)) :=
  match s, x with
  | .sym n, .slice id off len c => match listAt n S.lists, P.underlying t with
    | some l, some (.slice e) => match P.info? e with
      | none => none
      | some i => match i.zero with
        | none => none
        | some z =>
          bif l.own && (Nat.beq t xt && (Nat.beq e l.e && (Nat.beq i.size l.lay.length && (Nat.beq z.cells.size i.size && (Nat.blt 0 i.size && (Nat.blt 0 i.bytes && Nat.ble (len * i.bytes) 140737488355328)))))) then
            match srcCells S i.size (.slice id off len c) with
            | none => none
            | some (m, cs) => bif fitsRows S l.lay 0 cs then
                let ln := lenL S l
                let c := known ln.2 .bool (.int .leq .i64) [ln.1, .val (.int .i64 (((140737488355328 / i.bytes : Nat) : Int) - m))]
                match need c.2 c.1 true with
                | none => none
                | some (S2, b2) =>
                  let y := freshS S2 .any .catc (.sym l.x :: cs)
                  some ((.sym (S2.nsym + 1), { y.2 with nsym := S2.nsym + 2, sorts := (S2.nsym + 1, .cell) :: y.2.sorts, lists := { l with s := S2.nsym + 1, x := S2.nsym } :: dropList l.s y.2.lists }) :: bads b2)
              else none
          else none
    | _, _ => none
  | _, _ => none
theorem Rel.newCell (h : Rel B G w0 E S w) {v : Value} (hv : v.oneCell' = true) : E.le (E.unk S.nsym v) ∧ Rel B G w0 (E.unk S.nsym v) { S with nsym := S.nsym + 1, sorts := (S.nsym, .cell) :: S.sorts } w := by
  obtain ⟨k1, k2⟩ := h.newSym v
  refine ⟨k1, ?_⟩
  exact
  { k2 with
    sorts := fun i s hi => by
      by_cases e : i = S.nsym
      · subst e
        rw [find_cons_self] at hi; cases hi
        exact ⟨_, Env.unk_self _ _ _, hv⟩
      · rw [find_cons_ne e] at hi
        exact k2.sorts i s hi }
theorem ownsRow_one {w : World} {base e size n : Nat} {v : Value} {xs : List Value} (h : w.ownsRow base e size v n xs) : v.oneCell' = true := by
  rcases h.2 with ⟨rfl, _⟩ | ⟨g, cap, cur, rfl, _⟩ <;> rfl
theorem evLAppend_ok (hr : Rel B G w0 E S w) {t xt ty : TypeId} {s x : SV} {rs : List (SV × St)} {vs vx : Value} (h : evLAppend P S t xt s x = some rs) (hs : s.den E = some vs) (hx : x.den E = some vx) :
    DoesB B G w0 P E rs (Builtin.append_ #[t, xt] ty #[vs, vx]) w := by
  unfold evLAppend at h
  split at h
  case h_2 => cases h
  rename_i n id off len c
  split at h
  case h_2 => cases h
  rename_i l e hl hu
  split at h
  · cases h
  rename_i i hi
  split at h
  · cases h
  rename_i z hz
  cases hb : l.own && (Nat.beq t xt && (Nat.beq e l.e && (Nat.beq i.size l.lay.length && (Nat.beq z.cells.size i.size && (Nat.blt 0 i.size && (Nat.blt 0 i.bytes && Nat.ble (len * i.bytes) 140737488355328)))))) with
  | false => rw [hb] at h; cases h
  | true =>
  rw [hb] at h
  simp only [Bool.and_eq_true] at hb
  obtain ⟨ho, b1, b2, b3, b4, b5, b6, b7⟩ := hb
  have b1 := Nat.eq_of_beq_eq_true b1
  have b2 := Nat.eq_of_beq_eq_true b2
  have b3 := Nat.eq_of_beq_eq_true b3
  have b4 := Nat.eq_of_beq_eq_true b4
  have b5 : 0 < i.size := Nat.le_of_ble_eq_true b5
  have b6 : 0 < i.bytes := Nat.le_of_ble_eq_true b6
  have b7 := Nat.le_of_ble_eq_true b7
  subst b1 b2
  simp only [cond_true] at h
  split at h
  · cases h
  rename_i m cs hsrc
  cases hf : fitsRows S l.lay 0 cs with
  | false => rw [hf] at h; cases h
  | true =>
  rw [hf] at h
  simp only [cond_true] at h
  split at h
  · cases h
  rename_i S2 b2 hn2
  simp only [Option.some.injEq] at h; subst h
  obtain ⟨hm, rfl⟩ := listAt_mem hl
  obtain ⟨v, cells, hL⟩ := hr.lists l hm
  simp only [SV.den] at hs
  rw [hL.s] at hs; cases hs
  obtain ⟨b, cap, hρ, _, rfl⟩ := slice_den hx
  -- what is appended
  simp only [srcCells] at hsrc
  split at hsrc
  case h_2 => cases hsrc
  rename_i rc re rw_ rx hfd
  cases hle : Nat.ble (off + len * i.size) rc.length with
  | false => rw [hle] at hsrc; cases hsrc
  | true =>
  rw [hle] at hsrc
  have hle := Nat.le_of_ble_eq_true hle
  simp only [cond_true, Option.some.injEq, Prod.mk.injEq] at hsrc
  obtain ⟨rfl, rfl⟩ := hsrc
  obtain ⟨lr, rr, fz, hh, hlr, -, -, -⟩ := row_at hr hfd hρ
  have hlen := denL_length hlr
  have hden : SV.denL E ((rc.drop off).take (len * i.size)) = some ((lr.drop off).take (len * i.size)) := denL_take _ (denL_drop off hlr)
  have hfit := fitsRows_ok hr.env 0 hf hden
  -- how long
  obtain ⟨F, f1, f2, f3⟩ := lenL_ok hr hL
  obtain ⟨F2, g1, g2, g3⟩ := known_ok f2 (srt := .bool) (op := .int .leq .i64) (v := .bool (((cells.size / l.lay.length : Nat) : Int) ≤ ((140737488355328 / i.bytes : Nat) : Int) - len)) (vs := [.int .i64 ((cells.size / l.lay.length : Nat) : Int), .int .i64 (((140737488355328 / i.bytes : Nat) : Int) - len)])
    (bound_int _ _) (denL_mk f3 (denL_mk (x := .val (.int .i64 (((140737488355328 / i.bytes : Nat) : Int) - len))) (by simp only [SV.den]) (r := []) rfl)) ⟨_, rfl⟩ (rel_int (by simp only [intV, if_true, ibin]))
  rcases need_ok g2 hn2 g3 with ⟨e1, hr2⟩ | hbad
  case inr => exact doesB_bad (Env.le_trans f1 g1) hbad
  have hE2 := Env.le_trans f1 g1
  have hfew : cells.size / l.lay.length + len ≤ 140737488355328 / i.bytes := by
    have : ((cells.size / l.lay.length : Nat) : Int) ≤ ((140737488355328 / i.bytes : Nat) : Int) - len := by simpa using e1
    have h2 : ((cells.size / l.lay.length : Nat) : Int) + (len : Int) ≤ ((140737488355328 / i.bytes : Nat) : Int) := by omega
    exact_mod_cast h2
  have hbytes : (cells.size / l.lay.length + len) * i.bytes ≤ 140737488355328 := Nat.le_trans (Nat.mul_le_mul_right _ hfew) (Nat.div_mul_le_self _ _)
  have hsmall : cells.size / l.lay.length + len ≤ 140737488355328 := Nat.le_trans hfew (Nat.div_le_self _ _)
  have hown := hL.own ho
  have hnl : ((lr.drop off).take (len * i.size)).length = len * i.size := by simp; omega
  rw [← b3] at hown hsmall hbytes
  obtain ⟨v', w', hrun, hown', hg, _, hblk⟩ := run_append_own_at (P := P) w B t ty l.e i z i.size i.bytes hu hi hz rfl rfl b4 b5 vs _ _ hown ⟨b, off, none⟩ len cap ((lr.drop off).take (len * i.size))
    hnl (fun j u hj => by
      rw [add_at, cell_at hh]
      rw [List.getElem?_take] at hj
      split at hj
      · rw [List.getElem?_drop] at hj
        have hlt := (List.getElem?_eq_some_iff.1 hj).1
        simp only [List.getElem?_toArray]
        rw [List.getElem?_append_left hlt]; exact hj
      · cases hj) (fun u hu => by
      obtain ⟨j, hj⟩ := List.mem_iff_getElem?.1 hu
      exact (hfit j u hj).1) (by simp only [maxLen]; omega) hbytes hr.base
  refine ⟨_, List.mem_cons_self, .inr ?_⟩
  have hcs2 := SV.denL_mono hE2 _ _ hden
  have hX2 : (SV.sym l.x).den F2 = some (.agg cells) := by simp only [SV.den]; exact (hL.mono hE2).x
  -- the new unknowns
  obtain ⟨k1, k2, k3⟩ := fresh_ok hr2 (srt := .any) (op := .catc) (args := .sym l.x :: (rc.drop off).take (len * i.size)) (denL_mk hX2 hcs2) (v := .agg (cells ++ ((lr.drop off).take (len * i.size)).toArray)) trivial rfl
  obtain ⟨m1, m2⟩ := k2.newCell (v := v') (ownsRow_one hown')
  have hE4 := Env.le_trans hE2 (Env.le_trans k1 m1)
  have hsz : (cells ++ ((lr.drop off).take (len * i.size)).toArray).size = (cells.size / l.lay.length + len) * l.lay.length := by
    have := hL.whole
    simp only [Array.size_append, List.size_toArray, hnl]
    rw [Nat.add_mul, ← b3]
    rw [← b3] at this
    omega
  have hpos : 0 < l.lay.length := hL.some_
  have hdiv : (cells ++ ((lr.drop off).take (len * i.size)).toArray).size / l.lay.length = cells.size / l.lay.length + len := by rw [hsz, Nat.mul_div_cancel _ hpos]
  have hL' : LRel B w0 ((F2.unk S2.nsym (.agg (cells ++ ((lr.drop off).take (len * i.size)).toArray))).unk (S2.nsym + 1) v') w' { l with s := S2.nsym + 1, x := S2.nsym } v' (cells ++ ((lr.drop off).take (len * i.size)).toArray) :=
    { s := Env.unk_self _ _ _
      x := by show (Env.unk _ _ _).σ S2.nsym = _; rw [Env.unk_ne _ _ (by omega)]; exact Env.unk_self _ _ _
      some_ := hpos
      few := by show _ / l.lay.length ≤ _; rw [hdiv]; rw [← b3]; exact hsmall
      whole := by show _ = _ / l.lay.length * l.lay.length; rw [hdiv]; exact hsz
      lay := fun j c hj => by
        rw [Array.getElem?_append] at hj
        split at hj
        · exact hL.lay j c hj
        · rename_i hge
          obtain ⟨_, t', h1, h2⟩ := hfit (j - cells.size) c (by simpa using hj)
          refine ⟨t', ?_, h2⟩
          rw [← h1]
          show l.lay[j % l.lay.length]? = _
          congr 1
          rw [Nat.zero_add]
          have e : j = (j - cells.size) + cells.size / l.lay.length * l.lay.length := by have := hL.whole; omega
          conv => lhs; rw [e]
          rw [Nat.add_mul_mod_self_right]
      own := fun _ => by
        show w'.ownsRow B l.e l.lay.length v' _ _
        rw [hdiv]
        rw [← b3]
        simpa using hown'
      old := fun h => by simp only at h; rw [ho] at h; cases h }
  have hlist : ∀ q ∈ S2.lists, q.s < S2.nsym := fun q hq => by
    rcases Nat.lt_or_ge q.s S2.nsym with h | h
    · exact h
    · obtain ⟨_, _, hq⟩ := hr2.lists q hq
      have := hq.s; rw [hr2.newσ _ h] at this; cases this
  have hlists2 : S2.lists = S.lists := by
    have h1 : ∀ (T : St) (srt : Sort_) (op : SOp) (as : List SV), (known T srt op as).2.lists = T.lists := fun T srt op as => by
      unfold known; split <;> rfl
    have h2 : ∀ (T : St) (x : SV) (T' : St) (bs : List St), need T x true = some (T', bs) → T'.lists = T.lists := fun T x T' bs h => by
      unfold need at h
      split at h
      · rename_i b
        cases b with
        | false => cases h
        | true => simp only [beq_self_eq_true, cond_true, Option.some.injEq, Prod.mk.injEq] at h; rw [← h.1]
      · split at h
        · rename_i b _
          cases b with
          | false => cases h
          | true => simp only [beq_self_eq_true, cond_true, Option.some.injEq, Prod.mk.injEq] at h; rw [← h.1]
        · split at h
          · simp only [Option.some.injEq, Prod.mk.injEq] at h; rw [← h.1]
          · cases h
      · cases h
    rw [h2 _ _ _ _ hn2, h1]
    exact h1 _ _ _ _
  have hfin := m2.relist (l := l) (l' := { l with s := S2.nsym + 1, x := S2.nsym }) (v := vs) (v' := v') (w' := w') (by show l ∈ S2.lists; rw [hlists2]; exact hm) ho
    (hL.mono hE4).s hg (hblk.imp (fun h => h) .inl) ho hL' (fun q hq _ => by have := hlist q hq; simp only; omega)
  exact ⟨_, v', w', hE4, hfin, by simp only [SV.den]; exact Env.unk_self _ _ _, hrun⟩
end
end Go.Ev
namespace Go.Ev
open Go.RowKit (Below)
section
variable {B G : Nat} {w0 : Start} {E : Env} {S : St} {w : World} {P : Program}
def splitIdx (x : SV) : Nat → Nat → St → Option (List (Option Nat × St))
  | 0, _, S => some [(none, { S with bad := true })]
  | n + 1, j, S =>
    let c := known S .bool (.int .eql .i64) [x, .val (.int .i64 j)]
    match dec c.2 c.1 with
    | none => none
    | some l => splitAll l (splitIdx x n (j + 1)) j
where
  splitAll : List (Bool × St) → (St → Option (List (Option Nat × St))) → Nat → Option (List (Option Nat × St))
    | [], _, _ => some []
    | p :: r, f, j => match (bif p.1 then some [(some j, p.2)] else f p.2), splitAll r f j with
      | some a, some b => some (a ++ b)
      | _, _ => none
theorem splitAll_mem {f : St → Option (List (Option Nat × St))} {j : Nat} : ∀ {l : List (Bool × St)} {rs : List (Option Nat × St)}, splitIdx.splitAll l f j = some rs → ∀ p ∈ l, (p.1 = true → (some j, p.2) ∈ rs) ∧ (p.1 = false → ∃ q, f p.2 = some q ∧ ∀ y ∈ q, y ∈ rs)
  | [], rs, h, p, hp => by cases hp
  | a :: r, rs, h, p, hp => by
    simp only [splitIdx.splitAll] at h
    split at h
    · rename_i u v hu hv
      simp only [Option.some.injEq] at h; subst h
      rcases List.mem_cons.1 hp with rfl | hp
      · constructor
        · intro e
          rw [e] at hu
          simp only [cond_true, Option.some.injEq] at hu; subst hu
          exact List.mem_append_left _ List.mem_cons_self
        · intro e
          rw [e] at hu
          simp only [cond_false] at hu
          exact ⟨u, hu, fun y hy => List.mem_append_left _ hy⟩
      · have := splitAll_mem hv p hp
        refine ⟨fun e => List.mem_append_right _ (this.1 e), fun e => ?_⟩
        obtain ⟨q, h1, h2⟩ := this.2 e
        exact ⟨q, h1, fun y hy => List.mem_append_right _ (h2 y hy)⟩
    · cases h
theorem Rel.bad_set (hr : Rel B G w0 E S w) : Rel B G w0 E { S with bad := true } w := { hr with }
theorem splitIdx_ok {x : SV} {k : Int} : ∀ (n j : Nat) {S : St} {E : Env} {rs : List (Option Nat × St)}, Rel B G w0 E S w → x.den E = some (.int .i64 k) → splitIdx x n j S = some rs →
    ∃ p ∈ rs, ∃ F, E.le F ∧ Rel B G w0 F p.2 w ∧ ((∃ i : Nat, p.1 = some i ∧ k = i) ∨ (p.1 = none ∧ p.2.bad = true))
  | 0, j, S, E, rs, hr, hx, h => by
    simp only [splitIdx, Option.some.injEq] at h; subst h
    exact ⟨_, List.mem_cons_self, E, E.le_refl, hr.bad_set, .inr ⟨rfl, rfl⟩⟩
  | n + 1, j, S, E, rs, hr, hx, h => by
    simp only [splitIdx] at h
    split at h
    · cases h
    rename_i l hl
    obtain ⟨F, f1, f2, f3⟩ := known_ok hr (srt := .bool) (op := .int .eql .i64) (v := .bool (k == (j : Int))) (bound_int _ _) (denL_mk hx (denL_mk (x := .val (.int .i64 j)) (v := .int .i64 j) (by simp only [SV.den]) (r := []) rfl)) ⟨_, rfl⟩ (rel_int (by simp only [intV, if_true, ibin]))
    obtain ⟨p, hp, hv, hr2⟩ := dec_ok hl f2 f3
    have hm := splitAll_mem h p hp
    cases hb : p.1 with
    | true =>
      rw [hb] at hv
      simp only [Value.bool.injEq] at hv
      exact ⟨_, hm.1 hb, F, f1, hr2, .inl ⟨j, rfl, by simpa using hv⟩⟩
    | false =>
      obtain ⟨q, h1, h2⟩ := hm.2 hb
      obtain ⟨y, hy, F2, g1, g2, g3⟩ := splitIdx_ok n (j + 1) hr2 (SV.den_mono f1 _ _ hx) h1
      exact ⟨y, h2 y hy, F2, Env.le_trans f1 g1, g2, g3⟩
def splitAddrs (P : Program) (t : TypeId) (x : SV) : List (Option Nat × St) → Option (List (SV × St))
  | [] => some []
  | p :: r => match (match p.1 with
      | none => some (.val undef, p.2)
      | some j => match evIndexAddr P p.2 t x (.val (.int .i64 j)) with
        | some v => some (v, p.2)
        | none => none), splitAddrs P t x r with
    | some a, some b => some (a :: b)
    | _, _ => none
theorem splitAddrs_mem {t : TypeId} {x : SV} : ∀ {l : List (Option Nat × St)} {rs : List (SV × St)}, splitAddrs P t x l = some rs → ∀ p ∈ l, (p.1 = none → (.val undef, p.2) ∈ rs) ∧ (∀ j, p.1 = some j → ∃ v, evIndexAddr P p.2 t x (.val (.int .i64 j)) = some v ∧ (v, p.2) ∈ rs)
  | [], rs, h, p, hp => by cases hp
  | a :: r, rs, h, p, hp => by
    simp only [splitAddrs] at h
    split at h
    · rename_i u v hu hv
      simp only [Option.some.injEq] at h; subst h
      rcases List.mem_cons.1 hp with rfl | hp
      · constructor
        · intro e
          rw [e] at hu
          simp only [Option.some.injEq] at hu; subst hu
          exact List.mem_cons_self
        · intro j e
          rw [e] at hu
          simp only at hu
          split at hu
          · rename_i z hz
            simp only [Option.some.injEq] at hu; subst hu
            exact ⟨z, hz, List.mem_cons_self⟩
          · cases hu
      · have := splitAddrs_mem hv p hp
        refine ⟨fun e => List.mem_cons_of_mem _ (this.1 e), fun j e => ?_⟩
        obtain ⟨z, h1, h2⟩ := this.2 j e
        exact ⟨z, h1, List.mem_cons_of_mem _ h2⟩
    · cases h
def evSplitAddr (P : Program) (S : St) (t : TypeId) (x i : SV) : Option (List (SV × St)) :=
  match P.underlying t, norm S x, intOf S i with
  | some (.array len _), .ptr _ _, some (.i64, _, _) => bif Nat.blt 64 len then none else
    match splitIdx i len 0 S with
    | some l => splitAddrs P t x l
    | none => none
  | _, _, _ => none
theorem evSplitAddr_ok (hr : Rel B G w0 E S w) {t : TypeId} {x i : SV} {rs : List (SV × St)} {vx vi : Value} (h : evSplitAddr P S t x i = some rs) (hx : x.den E = some vx) (hi : i.den E = some vi) :
    DoesB B G w0 P E rs (Instr.indexAt t vx vi) w := by
  unfold evSplitAddr at h
  split at h
  case h_2 => cases h
  rename_i len e id off lo hi' hu hn hio
  cases hb : Nat.blt 64 len with
  | true => rw [hb] at h; cases h
  | false =>
  rw [hb] at h
  simp only [cond_false] at h
  split at h
  case h_2 => cases h
  rename_i l hl
  obtain ⟨k, rfl, _, _⟩ := intOf_ok hr.env hio hi
  obtain ⟨p, hp, F, f1, f2, f3⟩ := splitIdx_ok len 0 hr hi hl
  have hm := splitAddrs_mem h p hp
  rcases f3 with ⟨j, e1, rfl⟩ | ⟨e1, hbad⟩
  · obtain ⟨v, h1, h2⟩ := hm.2 j e1
    have := evIndexAddr_ok (P := P) f2.env h1 (SV.den_mono f1 _ _ hx) (vi := .int .i64 j) (by simp only [SV.den])
    obtain ⟨F2, u, w', g1, g2, g3, g4⟩ := this.does f2
    exact ⟨_, h2, .inr ⟨F2, u, w', Env.le_trans f1 g1, g2, g3, g4⟩⟩
  · exact ⟨_, hm.1 e1, .inl ⟨hbad, F, f1, f2⟩⟩
end
end Go.Ev
