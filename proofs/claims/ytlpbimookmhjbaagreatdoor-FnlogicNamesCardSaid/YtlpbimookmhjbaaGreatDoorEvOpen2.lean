/- Operations on unknown numbers, texts and truths: a new unknown, and a fact of what it is. -/
import Derived.Test.YtlpbimookmhjbaaGreatDoorEvFact
import Derived.Laws.Externs
namespace Go.Ev
open Go.RowKit (Below)

/-- A new unknown, of which is told what made it. -/
def freshS (S : St) (srt : Sort_) (op : SOp) (args : List SV) : SV × St :=
  (.sym S.nsym, { S with nsym := S.nsym + 1, sorts := (S.nsym, srt) :: S.sorts, facts := ⟨op, args, .sym S.nsym⟩ :: S.facts })

section
variable {B G : Nat} {w0 : Start} {E : Env} {S : St} {w : World} {P : Program}

theorem fresh_ok (hr : Rel B G w0 E S w) {srt : Sort_} {op : SOp} {args : List SV} {vs : List Value} {v : Value} (ha : SV.denL E args = some vs) (hs : srt.fits v) (hf : op.rel w0 vs v) :
    E.le (E.unk S.nsym v) ∧ Rel B G w0 (E.unk S.nsym v) (freshS S srt op args).2 w ∧ (freshS S srt op args).1.den (E.unk S.nsym v) = some v := by
  obtain ⟨k1, k2⟩ := hr.newSym v
  refine ⟨k1, ?_, by simp only [freshS, SV.den]; exact Env.unk_self _ _ _⟩
  exact
  { k2 with
    sorts := fun i s hi => by
      by_cases e : i = S.nsym
      · subst e
        simp only [freshS] at hi
        rw [find_cons_self] at hi; cases hi
        exact ⟨_, Env.unk_self _ _ _, hs⟩
      · simp only [freshS] at hi
        rw [find_cons_ne e] at hi
        exact k2.sorts i s hi
    facts := fun q hq => by
      simp only [freshS, List.mem_cons] at hq
      rcases hq with rfl | hq
      · exact ⟨vs, v, SV.denL_mono k1 _ _ ha, by simp only [SV.den]; exact Env.unk_self _ _ _, hf⟩
      · exact k2.facts q hq }

inductive KindS where
  | int (k : IntKind) | float (k : FloatKind) | str | bool

def kindS (S : St) : SV → Option KindS
  | .val (.int k _) => some (.int k)
  | .val (.float k _) => some (.float k)
  | .val (.string _) => some .str
  | .val (.bool _) => some .bool
  | .sym n => match find n S.sorts with
    | some (.int k) => some (.int k)
    | some (.intIn k _ _) => some (.int k)
    | some (.is (.int k _)) => some (.int k)
    | some (.float k) => some (.float k)
    | some (.is (.float k _)) => some (.float k)
    | some .nan64 => some (.float .f64)
    | some .str => some .str
    | some (.strNot _) => some .str
    | some (.is (.string _)) => some .str
    | some .bool => some .bool
    | some (.is (.bool _)) => some .bool
    | _ => none
  | _ => none

def KindS.fits : KindS → Value → Prop
  | .int k, v => ∃ n, v = .int k n
  | .float k, v => ∃ b, v = .float k b
  | .str, v => ∃ s, v = .string s
  | .bool, v => ∃ b, v = .bool b

theorem kindS_ok (hr : ERel E S) {x : SV} {k : KindS} {v : Value} (h : kindS S x = some k) (hx : x.den E = some v) : k.fits v := by
  unfold kindS at h
  split at h
  · simp only [SV.den, Option.some.injEq] at hx h; subst hx h; exact ⟨_, rfl⟩
  · simp only [SV.den, Option.some.injEq] at hx h; subst hx h; exact ⟨_, rfl⟩
  · simp only [SV.den, Option.some.injEq] at hx h; subst hx h; exact ⟨_, rfl⟩
  · simp only [SV.den, Option.some.injEq] at hx h; subst hx h; exact ⟨_, rfl⟩
  · rename_i n
    simp only [SV.den] at hx
    split at h <;> (first | (rename_i hf; simp only [Option.some.injEq] at h; subst h; obtain ⟨u, hu, hs⟩ := hr.sorts _ _ hf; rw [hu] at hx; cases hx) | cases h)
    · exact hs
    · obtain ⟨b, rfl, _⟩ := hs; exact ⟨_, rfl⟩
    · cases hs; exact ⟨_, rfl⟩
    · exact hs
    · cases hs; exact ⟨_, rfl⟩
    · obtain ⟨b, rfl, _⟩ := hs; exact ⟨_, rfl⟩
    · exact hs
    · obtain ⟨b, rfl, _⟩ := hs; exact ⟨_, rfl⟩
    · cases hs; exact ⟨_, rfl⟩
    · exact hs
    · cases hs; exact ⟨_, rfl⟩
  · cases h

def KindS.sort : KindS → Sort_
  | .int k => .int k
  | .float k => .float k
  | .str => .str
  | .bool => .bool

theorem KindS.sort_fits {k : KindS} {v : Value} (h : k.fits v) : k.sort.fits v := by cases k <;> exact h

/-- A new unknown, or the one that the same operation has made already. -/
def known (S : St) (srt : Sort_) (op : SOp) (args : List SV) : SV × St :=
  match lookFact op args S.facts with
  | some x => (x, S)
  | none => freshS S srt op args

/-- An operation whose answer is bound. -/
def Bound (op : SOp) : Prop := ∀ (w0 : Start) vs v u, op.rel w0 vs v → op.rel w0 vs u → v = u

theorem bound_fun {op : SOp} (h : ∀ (w0 : Start) vs v, op.rel w0 vs v = (sopFun op vs = some v)) : Bound op := fun w0 vs v u h1 h2 => by
  rw [h] at h1 h2
  rw [h1] at h2
  exact Option.some.inj h2

theorem known_ok (hr : Rel B G w0 E S w) {srt : Sort_} {op : SOp} {args : List SV} {vs : List Value} {v : Value} (hb : Bound op) (ha : SV.denL E args = some vs) (hs : srt.fits v) (hf : op.rel w0 vs v) :
    ∃ F, E.le F ∧ Rel B G w0 F (known S srt op args).2 w ∧ (known S srt op args).1.den F = some v := by
  unfold known
  split
  · rename_i x hx
    obtain ⟨u, h1, h2⟩ := fact_at hr hx ha
    rw [hb w0 vs u v h2 hf] at h1
    exact ⟨E, E.le_refl, hr, h1⟩
  · exact ⟨_, fresh_ok hr ha hs hf⟩

def isCmp : BinOp → Bool
  | .eql | .neq | .lss | .leq | .gtr | .geq => true
  | _ => false

def isArith : BinOp → Bool
  | .add | .sub | .mul | .and | .or | .xor | .andNot => true
  | _ => false

def isFar : BinOp → Bool
  | .add | .sub | .mul | .quo => true
  | _ => false

def isShift : BinOp → Bool
  | .shl | .shr => true
  | _ => false

/-- A state that is the user's to show that it cannot be. -/
def badS (S : St) : St := { S with bad := true }

/-- A truth, asked: goes on where it is 'want', is bad where not. -/
def need (S : St) (x : SV) (want : Bool) : Option (St × List St) :=
  match x with
  | .val (.bool b) => bif b == want then some (S, []) else none
  | .sym n => match find n S.pc with
    | some b => bif b == want then some (S, []) else none
    | none => match find n S.sorts with
      | some .bool => some ({ S with pc := (n, want) :: S.pc }, [{ S with pc := (n, !want) :: S.pc, bad := true }])
      | _ => none
  | _ => none

theorem Rel.badly (h : Rel B G w0 E S w) : Rel B G w0 E { S with bad := true } w := { h with }

theorem need_ok (hr : Rel B G w0 E S w) {x : SV} {want : Bool} {S' : St} {bads : List St} (h : need S x want = some (S', bads)) {v : Value} (hx : x.den E = some v) :
    (v = .bool want ∧ Rel B G w0 E S' w) ∨ ∃ T ∈ bads, T.bad = true ∧ Rel B G w0 E T w := by
  unfold need at h
  split at h
  · rename_i b
    cases hb : b == want with
    | false => rw [hb] at h; cases h
    | true =>
      rw [hb] at h
      simp only [cond_true, Option.some.injEq, Prod.mk.injEq] at h
      obtain ⟨rfl, rfl⟩ := h
      simp only [beq_iff_eq] at hb; subst hb
      simp only [SV.den, Option.some.injEq] at hx
      exact .inl ⟨hx.symm, hr⟩
  · rename_i n
    simp only [SV.den] at hx
    split at h
    · rename_i b hb
      cases hbw : b == want with
      | false => rw [hbw] at h; cases h
      | true =>
        rw [hbw] at h
        simp only [cond_true, Option.some.injEq, Prod.mk.injEq] at h
        obtain ⟨rfl, rfl⟩ := h
        simp only [beq_iff_eq] at hbw; subst hbw
        have := hr.pc n b (find_mem hb)
        rw [this] at hx; cases hx
        exact .inl ⟨rfl, hr⟩
    · split at h
      · rename_i hs
        simp only [Option.some.injEq, Prod.mk.injEq] at h
        obtain ⟨rfl, rfl⟩ := h
        obtain ⟨u, hu, b, rfl⟩ := hr.sorts _ _ hs
        rw [hu] at hx; cases hx
        by_cases hbw : b = want
        · subst hbw; exact .inl ⟨rfl, hr.withPc hu⟩
        · have : b = !want := by cases b <;> cases want <;> simp_all
          subst this
          exact .inr ⟨_, List.mem_cons_self, rfl, (hr.withPc hu).badly⟩
      · cases h
  · cases h

def bads (l : List St) : List (SV × St) := l.map fun T => (.val undef, T)

theorem need_bad {l : List St} {S' : St} {sv : SV} (h : ∃ T ∈ l, T.bad = true ∧ Rel B G w0 E T w) :
    ∃ p ∈ (sv, S') :: bads l, p.2.bad = true ∧ Rel B G w0 E p.2 w := by
  obtain ⟨T, h1, h2, h3⟩ := h
  exact ⟨(.val undef, T), List.mem_cons_of_mem _ (List.mem_map.2 ⟨T, h1, rfl⟩), h2, h3⟩

/-- What an operation does, or a bad outcome. -/
def DoesB (B G : Nat) (w0 : Start) (P : Program) (E : Env) (rs : List (SV × St)) (m : Sem Value) (w : World) : Prop :=
  ∃ p ∈ rs, (p.2.bad = true ∧ ∃ F, E.le F ∧ Rel B G w0 F p.2 w) ∨ Does B G w0 P E p.1 p.2 m w

theorem doesB_bad {E' : Env} (hE : E.le E') {l : List St} {S' : St} {sv : SV} {m : Sem Value} (h : ∃ T ∈ l, T.bad = true ∧ Rel B G w0 E' T w) : DoesB B G w0 P E ((sv, S') :: bads l) m w := by
  obtain ⟨p, h1, h2, h3⟩ := need_bad (sv := sv) (S' := S') h
  exact ⟨p, h1, .inl ⟨h2, E', hE, h3⟩⟩

/-! ### Two operands -/
def evOpenBin (P : Program) (S : St) (op : BinOp) (t : TypeId) (x y : SV) : Option (List (SV × St)) :=
  match kindS S x, kindS S y with
  | some (.int k), some (.int k') =>
    bif isShift op then
      (match y with
      | .val (.int _ (.ofNat _)) => some [known S (.int k) (.int op k) [x, y]]
      | .sym n =>
        let z := known S .bool (.int .lss k') [.sym n, .val (.int k' 0)]
        match need z.2 z.1 false with
        | some (S', l) => some (known S' (.int k) (.int op k) [x, .sym n] :: bads l)
        | none => none
      | _ => none)
    else bif decide (k = k') then
      (bif isCmp op then some [known S .bool (.int op k) [x, y]]
      else bif isArith op then some [known S (.int k) (.int op k) [x, y]]
      else match op, y with
        | .quo, .val (.int _ n) | .rem, .val (.int _ n) => bif decide (n = 0) then none else some [known S (.int k) (.int op k) [x, y]]
        | .quo, y | .rem, y =>
          let z := known S .bool (.int .eql k) [y, .val (.int k 0)]
          match need z.2 z.1 false with
          | some (S', l) => some (known S' (.int k) (.int op k) [x, y] :: bads l)
          | none => none
        | _, _ => none)
    else none
  | some (.float k), some (.float k') => bif decide (k = k') && decide (k = .f64) then
      (bif isCmp op then some [known S .bool (.fcmp op) [x, y]]
      else bif isFar op then some [freshS S (.float k) (.far op) [x, y]] else none)
    else none
  | some .str, some .str => bif isCmp op then some [known S .bool (.str op) [x, y]] else
      (match op with
      | .add => some [known S .str (.str .add) [x, y], ((.val undef, badS (freshS S .bool .strBig [x, y]).2))]
      | _ => none)
  | some .bool, some .bool => match P.underlying t with
    | some .bool => (match op with
      | .eql | .neq => some [known S .bool (.boo op) [x, y]]
      | _ => none)
    | _ => none
  | _, _ => none

theorem bound_int (op : BinOp) (k : IntKind) : Bound (.int op k) := bound_fun fun _ _ _ => rfl
theorem rel_int {w0 : Start} {op : BinOp} {k k' : IntKind} {a b : Int} {v : Value} (h : intV op k a k' b = some v) : (SOp.int op k).rel w0 [.int k a, .int k' b] v := by
  show (if k = k then intV op k a k' b else none) = some v
  rw [if_pos rfl]; exact h
theorem bound_fcmp (op : BinOp) : Bound (.fcmp op) := bound_fun fun _ _ _ => rfl
theorem bound_str (op : BinOp) : Bound (.str op) := bound_fun fun _ _ _ => rfl
theorem bound_boo (op : BinOp) : Bound (.boo op) := bound_fun fun _ _ _ => rfl
theorem bound_un (op : UnOp) : Bound (.un op) := bound_fun fun _ _ _ => rfl

theorem int_cmp_run {op : BinOp} (h : isCmp op = true) {t : TypeId} {k : IntKind} {a b : Int} {ox oy : Operand} :
    ∃ c, intV op k a k b = some (.bool c) ∧ ∀ w, (do eqGuard op t ox oy (.int k a) (.int k b); binOp op t (.int k a) (.int k b) : Sem Value).run P w = .ok (.bool c) w := by
  cases op <;> simp only [isCmp, Bool.false_eq_true] at h <;> refine ⟨_, by simp only [intV, if_true, ibin]; rfl, fun w => ?_⟩ <;> simp [eqGuard, binOp, Op.intCmp]

theorem int_arith_run {op : BinOp} (h : isArith op = true) {t : TypeId} {k : IntKind} {a b : Int} {ox oy : Operand} :
    ∃ c, intV op k a k b = some (.int k c) ∧ ∀ w, (do eqGuard op t ox oy (.int k a) (.int k b); binOp op t (.int k a) (.int k b) : Sem Value).run P w = .ok (.int k c) w := by
  cases op <;> simp only [isArith, Bool.false_eq_true] at h <;> refine ⟨_, by simp only [intV, if_true, ibin]; rfl, fun w => ?_⟩ <;> simp [eqGuard, binOp, Op.intArith, Op.intBits]

theorem int_div_run {op : BinOp} (h : op = .quo ∨ op = .rem) {t : TypeId} {k : IntKind} {a b : Int} (hb : b ≠ 0) {ox oy : Operand} :
    ∃ c, intV op k a k b = some (.int k c) ∧ ∀ w, (do eqGuard op t ox oy (.int k a) (.int k b); binOp op t (.int k a) (.int k b) : Sem Value).run P w = .ok (.int k c) w := by
  rcases h with rfl | rfl <;> refine ⟨_, by simp only [intV, if_true, ibin, hb, if_false]; rfl, fun w => ?_⟩ <;> simp [eqGuard, binOp, Op.intDiv, hb]

theorem int_shift_run {op : BinOp} (h : isShift op = true) {t : TypeId} {k k' : IntKind} {a : Int} {n : Nat} {ox oy : Operand} :
    ∃ c, intV op k a k' (.ofNat n) = some (.int k c) ∧ ∀ w, (do eqGuard op t ox oy (.int k a) (.int k' (.ofNat n)); binOp op t (.int k a) (.int k' (.ofNat n)) : Sem Value).run P w = .ok (.int k c) w := by
  have hn : ¬ (Int.ofNat n < 0) := by simp
  have hn' : ¬ ((n : Int) < 0) := by omega
  cases op <;> simp only [isShift, Bool.false_eq_true] at h <;> refine ⟨_, by simp only [intV, ishift, hn, if_false]; rfl, fun w => ?_⟩ <;> simp [eqGuard, binOp, Op.shift, hn']

theorem float_cmp_run {op : BinOp} (h : isCmp op = true) {t : TypeId} {k : FloatKind} {a b : Nat} {ox oy : Operand} :
    ∃ c, fcmpV op k a b = some (.bool c) ∧ ∀ w, (do eqGuard op t ox oy (.float k a) (.float k b); binOp op t (.float k a) (.float k b) : Sem Value).run P w = .ok (.bool c) w := by
  cases op <;> simp only [isCmp, Bool.false_eq_true] at h <;> refine ⟨_, by simp only [fcmpV]; rfl, fun w => ?_⟩ <;> simp [eqGuard, binOp, Op.floatCmp]

theorem str_cmp_run {op : BinOp} (h : isCmp op = true) {t : TypeId} {a b : ByteArray} {ox oy : Operand} :
    ∃ c, strV op a b = some (.bool c) ∧ ∀ w, (do eqGuard op t ox oy (.string a) (.string b); binOp op t (.string a) (.string b) : Sem Value).run P w = .ok (.bool c) w := by
  cases op <;> simp only [isCmp, Bool.false_eq_true] at h <;> refine ⟨_, by simp only [strV]; rfl, fun w => ?_⟩ <;> simp [eqGuard, binOp, Op.stringOp]

theorem far_run {op : BinOp} (h : isFar op = true) {t : TypeId} {a b : Nat} {ox oy : Operand} (w : World) :
    ∃ v w', (do eqGuard op t ox oy (.float .f64 a) (.float .f64 b); binOp op t (.float .f64 a) (.float .f64 b) : Sem Value).run P w = .ok v w' ∧ (w' = w ∨ w' = { w with drawn := w.drawn + 1 }) ∧
      farRel op [.float .f64 a, .float .f64 b] v ∧ ∃ c, v = .float .f64 c := by
  generalize hk : FloatKind.f64 = k
  have key : ∀ r, farV op k a b = some r → (binOp op t (.float k a) (.float k b) : Sem Value) = (match r with
      | some r => (pure (.float k r) : Sem Value)
      | none => do pure (.float k (← choose (.nanBits k a b)))) → ∃ v w', (do eqGuard op t ox oy (.float k a) (.float k b); binOp op t (.float k a) (.float k b) : Sem Value).run P w = .ok v w' ∧ (w' = w ∨ w' = { w with drawn := w.drawn + 1 }) ∧
      farRel op [.float k a, .float k b] v ∧ ∃ c, v = .float k c := fun r hr he => by
    have hg : eqGuard op t ox oy (.float k a) (.float k b) = pure () := by cases op <;> rfl
    rw [hg, he]
    cases r with
    | some r => subst hk; exact ⟨.float .f64 r, w, by simp, .inl rfl, ⟨_, hr, .inl ⟨r, rfl, rfl⟩⟩, r, rfl⟩
    | none =>
      subst hk
      exact ⟨.float .f64 ((Question.nanBits .f64 a b).cut (w.tape w.drawn (.nanBits .f64 a b))), { w with drawn := w.drawn + 1 }, by simp [Question.forced], .inr rfl, ⟨_, hr, .inr ⟨rfl, _, rfl, nan_answer _⟩⟩, _, rfl⟩
  cases op <;> simp only [isFar, Bool.false_eq_true] at h <;> refine key _ rfl ?_ <;> simp only [binOp, ne_eq, not_true_eq_false, if_false, Op.floatArith, pure_bind] <;> rfl

theorem doesB_one {sv : SV} {S' : St} {m : Sem Value} (h : Does B G w0 P E sv S' m w) : DoesB B G w0 P E [(sv, S')] m w := ⟨_, List.mem_cons_self, .inr h⟩

theorem known_does (hr : Rel B G w0 E S w) {srt : Sort_} {op : SOp} {args : List SV} {vs : List Value} {v : Value} {m : Sem Value} (hb : Bound op) (ha : SV.denL E args = some vs) (hs : srt.fits v) (hf : op.rel w0 vs v)
    (hm : m.run P w = .ok v w) : Does B G w0 P E (known S srt op args).1 (known S srt op args).2 m w := by
  obtain ⟨F, h1, h2, h3⟩ := known_ok hr hb ha hs hf
  exact ⟨F, v, w, h1, h2, h3, hm⟩

theorem eqIn_bool2 (d : Nat) {t : TypeId} (a b : Bool) (hu : P.underlying t = some TypeDesc.bool) (w : World) : (Op.equalIn (d + 1) t (.bool a) (.bool b)).run P w = .ok (a == b) w := by simp [Op.equalIn, run_underlying hu]

theorem evOpenBin_ok (hr : Rel B G w0 E S w) {op : BinOp} {t : TypeId} {x y : SV} {rs : List (SV × St)} {ox oy : Operand} {vx vy : Value} (h : evOpenBin P S op t x y = some rs) (hx : x.den E = some vx) (hy : y.den E = some vy) :
    DoesB B G w0 P E rs (do eqGuard op t ox oy vx vy; binOp op t vx vy) w := by
  have ha : SV.denL E [x, y] = some [vx, vy] := denL_mk hx (denL_mk hy (r := []) rfl)
  unfold evOpenBin at h
  split at h
  · rename_i k k' h1 h2
    obtain ⟨a, rfl⟩ := kindS_ok hr.env h1 hx
    obtain ⟨b, rfl⟩ := kindS_ok hr.env h2 hy
    cases hsh : isShift op with
    | true =>
      rw [hsh] at h
      simp only [cond_true] at h
      split at h
      · rename_i j n
        simp only [Option.some.injEq] at h; subst h
        simp only [SV.den, Option.some.injEq, Value.int.injEq] at hy
        obtain ⟨rfl, rfl⟩ := hy
        obtain ⟨c, e1, e2⟩ := int_shift_run (P := P) hsh (t := t) (k := k) (k' := j) (a := a) (n := n) (ox := ox) (oy := oy)
        exact doesB_one (known_does hr (bound_int op _) ha ⟨c, rfl⟩ (rel_int e1) (e2 w))
      · rename_i n
        split at h
        · rename_i S' l hn
          simp only [Option.some.injEq] at h; subst h
          have ha' : SV.denL E [.sym n, .val (.int k' 0)] = some [.int k' b, .int k' 0] := denL_mk hy (denL_mk (by simp only [SV.den]) (r := []) rfl)
          obtain ⟨F, f1, f2, f3⟩ := known_ok hr (srt := .bool) (op := .int .lss k') (v := .bool (b < 0)) (bound_int _ _) ha' ⟨_, rfl⟩ (rel_int (by simp only [intV, if_true, ibin]))
          rcases need_ok f2 hn f3 with ⟨e, hr'⟩ | hb
          · have hb0 : ¬ b < 0 := by simpa using e
            obtain ⟨m, rfl⟩ : ∃ m : Nat, b = Int.ofNat m := ⟨b.toNat, by simp only [Int.ofNat_eq_natCast]; omega⟩
            obtain ⟨c, e1, e2⟩ := int_shift_run (P := P) hsh (t := t) (k := k) (k' := k') (a := a) (n := m) (ox := ox) (oy := oy)
            obtain ⟨F', g1, g2, g3⟩ := known_ok hr' (srt := .int k) (bound_int op k) (SV.denL_mono f1 _ _ ha) ⟨c, rfl⟩ (rel_int e1)
            exact ⟨_, List.mem_cons_self, .inr ⟨F', _, w, Env.le_trans f1 g1, g2, g3, e2 w⟩⟩
          · exact doesB_bad f1 hb
        · cases h
      · cases h
    | false =>
    rw [hsh] at h
    cases hk : decide (k = k') with
    | false => rw [hk] at h; cases h
    | true =>
    rw [hk] at h
    simp only [decide_eq_true_eq] at hk; subst hk
    simp only [cond_true, cond_false] at h
    cases hc : isCmp op with
    | true =>
      rw [hc] at h
      simp only [cond_true, Option.some.injEq] at h; subst h
      obtain ⟨c, e1, e2⟩ := int_cmp_run (P := P) hc (t := t) (k := k) (a := a) (b := b) (ox := ox) (oy := oy)
      exact doesB_one (known_does hr (bound_int op _) ha ⟨c, rfl⟩ (rel_int e1) (e2 w))
    | false =>
    rw [hc] at h
    cases har : isArith op with
    | true =>
      rw [har] at h
      simp only [cond_true, cond_false, Option.some.injEq] at h; subst h
      obtain ⟨c, e1, e2⟩ := int_arith_run (P := P) har (t := t) (k := k) (a := a) (b := b) (ox := ox) (oy := oy)
      exact doesB_one (known_does hr (bound_int op _) ha ⟨c, rfl⟩ (rel_int e1) (e2 w))
    | false =>
    rw [har] at h
    simp only [cond_false] at h
    have lit : ∀ j (n : Int), y = .val (.int j n) → (op = .quo ∨ op = .rem) → (bif decide (n = 0) then none else some [known S (.int k) (.int op k) [x, y]]) = some rs → DoesB B G w0 P E rs (do eqGuard op t ox oy (.int k a) (.int k b); binOp op t (.int k a) (.int k b)) w := fun j n hy' hop h => by
      cases hn : decide (n = 0) with
      | true => rw [hn] at h; cases h
      | false =>
        rw [hn] at h
        simp only [cond_false, Option.some.injEq] at h; subst h
        simp only [decide_eq_false_iff_not] at hn
        subst hy'
        simp only [SV.den, Option.some.injEq, Value.int.injEq] at hy
        obtain ⟨rfl, rfl⟩ := hy
        obtain ⟨c, e1, e2⟩ := int_div_run (P := P) hop (t := t) (k := j) (a := a) hn (ox := ox) (oy := oy)
        exact doesB_one (known_does hr (bound_int op _) ha ⟨c, rfl⟩ (rel_int e1) (e2 w))
    have unk : (op = .quo ∨ op = .rem) → (match need (known S .bool (.int .eql k) [y, .val (.int k 0)]).2 (known S .bool (.int .eql k) [y, .val (.int k 0)]).1 false with
        | some (S', l) => some (known S' (.int k) (.int op k) [x, y] :: bads l)
        | none => none) = some rs → DoesB B G w0 P E rs (do eqGuard op t ox oy (.int k a) (.int k b); binOp op t (.int k a) (.int k b)) w := fun hop h => by
      split at h
      · rename_i S' l hn
        simp only [Option.some.injEq] at h; subst h
        have ha' : SV.denL E [y, .val (.int k 0)] = some [.int k b, .int k 0] := denL_mk hy (denL_mk (by simp only [SV.den]) (r := []) rfl)
        obtain ⟨F, f1, f2, f3⟩ := known_ok hr (srt := .bool) (op := .int .eql k) (v := .bool (b == 0)) (bound_int _ _) ha' ⟨_, rfl⟩ (rel_int (by simp only [intV, if_true, ibin]))
        rcases need_ok f2 hn f3 with ⟨e, hr'⟩ | hb
        · have hb0 : b ≠ 0 := by simpa using e
          obtain ⟨c, e1, e2⟩ := int_div_run (P := P) hop (t := t) (k := k) (a := a) hb0 (ox := ox) (oy := oy)
          obtain ⟨F', g1, g2, g3⟩ := known_ok hr' (srt := .int k) (bound_int op k) (SV.denL_mono f1 _ _ ha) ⟨c, rfl⟩ (rel_int e1)
          exact ⟨_, List.mem_cons_self, .inr ⟨F', _, w, Env.le_trans f1 g1, g2, g3, e2 w⟩⟩
        · exact doesB_bad f1 hb
      · cases h
    split at h
    · exact lit _ _ rfl (.inl rfl) h
    · exact lit _ _ rfl (.inr rfl) h
    · exact unk (.inl rfl) h
    · exact unk (.inr rfl) h
    · cases h
  · rename_i k k' h1 h2
    obtain ⟨a, rfl⟩ := kindS_ok hr.env h1 hx
    obtain ⟨b, rfl⟩ := kindS_ok hr.env h2 hy
    cases hk : decide (k = k') && decide (k = .f64) with
    | false => rw [hk] at h; cases h
    | true =>
    rw [hk] at h
    simp only [Bool.and_eq_true, decide_eq_true_eq] at hk
    obtain ⟨rfl, rfl⟩ := hk
    simp only [cond_true] at h
    cases hc : isCmp op with
    | true =>
      rw [hc] at h
      simp only [cond_true, Option.some.injEq] at h; subst h
      obtain ⟨c, e1, e2⟩ := float_cmp_run (P := P) hc (t := t) (k := .f64) (a := a) (b := b) (ox := ox) (oy := oy)
      exact doesB_one (known_does hr (bound_fcmp op) ha ⟨c, rfl⟩ e1 (e2 w))
    | false =>
    rw [hc] at h
    cases hf : isFar op with
    | false => rw [hf] at h; cases h
    | true =>
    rw [hf] at h
    simp only [cond_true, cond_false, Option.some.injEq] at h; subst h
    obtain ⟨v, w', e1, e2, e3, c, e4⟩ := far_run (P := P) hf (t := t) (a := a) (b := b) (ox := ox) (oy := oy) w
    have hr' : Rel B G w0 E S w' := by
      rcases e2 with rfl | rfl
      · exact hr
      · exact rel_drew hr
    obtain ⟨g1, g2, g3⟩ := fresh_ok hr' (srt := .float .f64) (op := .far op) ha (v := v) ⟨c, e4⟩ e3
    exact doesB_one ⟨_, v, w', g1, g2, g3, e1⟩
  · rename_i h1 h2
    obtain ⟨a, rfl⟩ := kindS_ok hr.env h1 hx
    obtain ⟨b, rfl⟩ := kindS_ok hr.env h2 hy
    cases hc : isCmp op with
    | true =>
      rw [hc] at h
      simp only [cond_true, Option.some.injEq] at h; subst h
      obtain ⟨c, e1, e2⟩ := str_cmp_run (P := P) hc (t := t) (a := a) (b := b) (ox := ox) (oy := oy)
      exact doesB_one (known_does hr (bound_str op) ha ⟨c, rfl⟩ e1 (e2 w))
    | false =>
    rw [hc] at h
    simp only [cond_false] at h
    split at h
    · simp only [Option.some.injEq] at h; subst h
      by_cases hbig : ((a.size + b.size : Nat) : Int) > IntKind.i64.max
      · obtain ⟨g1, g2, g3⟩ := fresh_ok hr (srt := .bool) (op := .strBig) ha (v := .bool true) ⟨true, rfl⟩ (by show sopFun .strBig _ = _; simp only [sopFun, hbig, if_true])
        exact ⟨_, List.mem_cons_of_mem _ List.mem_cons_self, .inl ⟨rfl, _, g1, g2.badly⟩⟩
      · refine ⟨_, List.mem_cons_self, .inr (known_does hr (bound_str _) ha ⟨_, rfl⟩ (v := .string (a ++ b)) (by show strV .add a b = _; simp only [strV, hbig, if_false]) ?_)⟩
        have hm : IntKind.i64.max = 9223372036854775807 := rfl
        have hle : (a.size : Int) + b.size ≤ 9223372036854775807 := by rw [hm] at hbig; omega
        simp [eqGuard, binOp, Op.stringOp, hle]
    · cases h
  · rename_i h1 h2
    obtain ⟨a, rfl⟩ := kindS_ok hr.env h1 hx
    obtain ⟨b, rfl⟩ := kindS_ok hr.env h2 hy
    split at h
    · rename_i hu
      have heq : ∀ w, (Op.equal t (.bool a) (.bool b)).run P w = .ok (a == b) w := fun w => by
        exact eqIn_bool2 9999 a b hu w
      split at h
      · simp only [Option.some.injEq] at h; subst h
        exact doesB_one (known_does hr (bound_boo _) ha ⟨_, rfl⟩ (v := .bool (a == b)) rfl (by simp [eqGuard, binOp, heq w]))
      · simp only [Option.some.injEq] at h; subst h
        exact doesB_one (known_does hr (bound_boo _) ha ⟨_, rfl⟩ (v := .bool (!(a == b))) rfl (by simp [eqGuard, binOp, heq w]))
      · cases h
    · cases h
  · cases h
end
end Go.Ev

namespace Go.Ev
open Go.RowKit (Below)

section
variable {B G : Nat} {w0 : Start} {E : Env} {S : St} {w : World} {P : Program}

def evOpenUn (S : St) (op : UnOp) (x : SV) : Option (SV × St) :=
  match op, kindS S x with
  | .neg, some (.int k) => some (known S (.int k) (.un .neg) [x])
  | .neg, some (.float k) => some (known S (.float k) (.un .neg) [x])
  | .not, some .bool => some (known S .bool (.un .not) [x])
  | _, _ => none

theorem evOpenUn_ok (hr : Rel B G w0 E S w) {op : UnOp} {x sv : SV} {S' : St} {vx : Value} (h : evOpenUn S op x = some (sv, S')) (hx : x.den E = some vx) : Does B G w0 P E sv S' (Op.unary op vx) w := by
  have ha : SV.denL E [x] = some [vx] := denL_mk hx (r := []) rfl
  unfold evOpenUn at h
  split at h
  · rename_i k hk
    obtain ⟨n, rfl⟩ := kindS_ok hr.env hk hx
    simp only [Option.some.injEq] at h
    have := known_does (P := P) (m := Op.unary .neg (.int k n)) hr (bound_un .neg) ha (srt := .int k) (v := .int k (k.wrap (0 - n))) ⟨_, rfl⟩ rfl (by simp [Op.unary, Op.intArith])
    rw [h] at this; exact this
  · rename_i k hk
    obtain ⟨n, rfl⟩ := kindS_ok hr.env hk hx
    simp only [Option.some.injEq] at h
    have := known_does (P := P) (m := Op.unary .neg (.float k n)) hr (bound_un .neg) ha (srt := .float k) (v := .float k (Op.negFloat k n)) ⟨_, rfl⟩ rfl (by simp [Op.unary])
    rw [h] at this; exact this
  · rename_i hk
    obtain ⟨n, rfl⟩ := kindS_ok hr.env hk hx
    simp only [Option.some.injEq] at h
    have := known_does (P := P) (m := Op.unary .not (.bool n)) hr (bound_un .not) ha (srt := .bool) (v := .bool !n) ⟨_, rfl⟩ rfl (by simp [Op.unary])
    rw [h] at this; exact this
  · cases h

theorem bound_i2i (k : IntKind) : Bound (.i2i k) := bound_fun fun _ _ _ => rfl
theorem bound_i2f (k : FloatKind) : Bound (.i2f k) := bound_fun fun _ _ _ => rfl

def evOpenConv (P : Program) (S : St) (src dst : TypeId) (x : SV) : Option (SV × St) :=
  match P.underlying src, P.underlying dst, kindS S x with
  | some _, some (.int k), some (.int _) => some (known S (.int k) (.i2i k) [x])
  | some _, some (.float k), some (.int _) => some (known S (.float k) (.i2f k) [x])
  | some _, some (.int k), some (.float .f64) => some (freshS S (.int k) (.f2i k) [x])
  | some _, some (.float k), some (.float k') => bif decide (k = k') then some (x, S) else none
  | some _, some .string, some .str => some (x, S)
  | _, _, _ => none

theorem f2i_run {b : Nat} {k : IntKind} (w : World) :
    ∃ v w', (Conv.floatToInt .f64 b k).run P w = .ok v w' ∧ (w' = w ∨ w' = { w with drawn := w.drawn + 1 }) ∧ f2iRel k [.float .f64 b] v ∧ ∃ n, v = .int k n := by
  have any : (∀ n, (FloatKind.f64.decode b).toInt .zero = some n → ¬ (k.min ≤ n ∧ n ≤ k.max)) → ∃ v w', (do pure (.int k (k.wrap (← choose (.floatToInt .f64 b k)))) : Sem Value).run P w = .ok v w' ∧ (w' = w ∨ w' = { w with drawn := w.drawn + 1 }) ∧ f2iRel k [.float .f64 b] v ∧ ∃ n, v = .int k n := fun h =>
    ⟨.int k (k.wrap ((Question.floatToInt .f64 b k).cut (w.tape w.drawn (.floatToInt .f64 b k)))), { w with drawn := w.drawn + 1 }, by simp [Question.forced], .inr rfl, .inr ⟨h, _, rfl⟩, _, rfl⟩
  unfold Conv.floatToInt
  simp only
  split
  · rename_i n hn
    split
    · rename_i hin
      exact ⟨.int k n, w, by simp, .inl rfl, .inl ⟨n, hn, hin.1, hin.2, rfl⟩, n, rfl⟩
    · rename_i hin
      exact any fun m hm => by rw [hn] at hm; cases hm; exact hin
  · rename_i hn
    exact any fun m hm => by rw [hn] at hm; cases hm

theorem evOpenConv_ok (hr : Rel B G w0 E S w) {src dst : TypeId} {x sv : SV} {S' : St} {vx : Value} (h : evOpenConv P S src dst x = some (sv, S')) (hx : x.den E = some vx) : Does B G w0 P E sv S' (convert src dst vx) w := by
  have ha : SV.denL E [x] = some [vx] := denL_mk hx (r := []) rfl
  unfold evOpenConv at h
  split at h
  · rename_i ds k ki hs hd hk
    obtain ⟨n, rfl⟩ := kindS_ok hr.env hk hx
    simp only [Option.some.injEq] at h
    have := known_does (P := P) (m := convert src dst (.int ki n)) hr (bound_i2i k) ha (srt := .int k) (v := .int k (k.wrap n)) ⟨_, rfl⟩ rfl (by simp [convert, run_underlying hs, run_underlying hd, Conv.intToInt])
    rw [h] at this; exact this
  · rename_i ds k ki hs hd hk
    obtain ⟨n, rfl⟩ := kindS_ok hr.env hk hx
    simp only [Option.some.injEq] at h
    have := known_does (P := P) (m := convert src dst (.int ki n)) hr (bound_i2f k) ha (srt := .float k) (v := .float k (k.nearest n)) ⟨_, rfl⟩ rfl (by simp [convert, run_underlying hs, run_underlying hd, Conv.intToFloat])
    rw [h] at this; exact this
  · rename_i ds k hs hd hk
    obtain ⟨b, rfl⟩ := kindS_ok hr.env hk hx
    simp only [Option.some.injEq] at h
    obtain ⟨v, w', e1, e2, e3, e4⟩ := f2i_run (P := P) (b := b) (k := k) w
    have hr' : Rel B G w0 E S w' := by
      rcases e2 with rfl | rfl
      · exact hr
      · exact rel_drew hr
    obtain ⟨g1, g2, g3⟩ := fresh_ok hr' (srt := .int k) (op := .f2i k) ha (v := v) e4 e3
    rw [h] at g2 g3
    exact ⟨_, v, w', g1, g2, g3, by simp [convert, run_underlying hs, run_underlying hd, e1]⟩
  · rename_i ds k k' hs hd hk
    obtain ⟨b, rfl⟩ := kindS_ok hr.env hk hx
    cases hkk : decide (k = k') with
    | false => rw [hkk] at h; cases h
    | true =>
      rw [hkk] at h
      simp only [decide_eq_true_eq] at hkk; subst hkk
      simp only [cond_true, Option.some.injEq, Prod.mk.injEq] at h
      obtain ⟨rfl, rfl⟩ := h
      exact ⟨E, _, w, E.le_refl, hr, hx, by simp [convert, run_underlying hs, run_underlying hd, Conv.floatToFloat]⟩
  · rename_i ds hs hd hk
    obtain ⟨b, rfl⟩ := kindS_ok hr.env hk hx
    simp only [Option.some.injEq, Prod.mk.injEq] at h
    obtain ⟨rfl, rfl⟩ := h
    exact ⟨E, _, w, E.le_refl, hr, hx, by cases ds <;> simp [convert, run_underlying hs, run_underlying hd]⟩
  · cases h

/-! ### Functions that the model has by itself -/
def ExtOp.sem : ExtOp → Array Value → Sem Value
  | .fbits => Extern.MathFloatBits.float64bits
  | .ffrom => Extern.MathFloatBits.float64frombits
  | .floor => Extern.MathFloor.toIntegral "math.archFloor" .down
  | .ceil => Extern.MathFloor.toIntegral "math.archCeil" .up
  | .trunc => Extern.MathFloor.toIntegral "math.archTrunc" .zero
  | .sqrt => Extern.MathSqrt.sqrt

/-- The function f is that one of the model's. -/
def ExtAt (P : Program) (f : Nat) (x : ExtOp) : Prop := ∀ (args : Array Value) (w : World), (callFunc f args).run P w = ((x.sem args).run P w).andThen fun v w' => .ok (.value v) w'

theorem extAt_of {f : Nat} {fn : Func} {x : ExtOp} (hf : P.funcs[f]? = some fn) (hname : (fn.name == "runtime.NumGoroutine") = false)
    (hb : fn.body.isNone = true) (hn : Extern.findNext fn = none) (he : Extern.find fn = some x.sem) : ExtAt P f x :=
  fun args w => run_callFunc_extern hf hname hb hn he args w

def extArg (S : St) (x : ExtOp) (a : SV) : Option Sort_ :=
  match x, kindS S a with
  | .fbits, some (.float .f64) => some (.int .u64)
  | .ffrom, some (.int .u64) => some (.float .f64)
  | .floor, some (.float .f64) => some (.float .f64)
  | .ceil, some (.float .f64) => some (.float .f64)
  | .trunc, some (.float .f64) => some (.float .f64)
  | .sqrt, some (.float .f64) => some (.float .f64)
  | _, _ => none

def isBits : ExtOp → Bool
  | .fbits | .ffrom => true
  | _ => false

def evExt (X : List (Nat × ExtOp)) (S : St) (f : Nat) (args : List SV) : Option (SV × St) :=
  match find f X, args with
  | some x, [a] => match extArg S x a with
    | some srt => bif isBits x then some (known S srt (.ext x) [a]) else some (freshS S srt (.ext x) [a])
    | none => none
  | _, _ => none

theorem bound_bits {x : ExtOp} (h : isBits x = true) : Bound (.ext x) := fun w0 vs v u h1 h2 => by
  cases x <;> simp only [isBits, Bool.false_eq_true] at h
  · match vs, h1, h2 with
    | [.float .f64 b], h1, h2 => exact h1.trans h2.symm
  · match vs, h1, h2 with
    | [.int .u64 b], h1, h2 => exact h1.trans h2.symm

theorem ext_run {x : ExtOp} {S : St} {a : SV} {srt : Sort_} {v : Value} (hr : ERel E S) (h : extArg S x a = some srt) (ha : a.den E = some v) (w : World) :
    ∃ u w', (x.sem #[v]).run P w = .ok u w' ∧ (w' = w ∨ w' = { w with drawn := w.drawn + 1 }) ∧ extRel x [v] u ∧ srt.fits u := by
  have integral : ∀ (name : String) (way : Ieee.Toward) (b : Nat), ∃ u w', (Extern.MathFloor.toIntegral name way #[.float .f64 b]).run P w = .ok u w' ∧ (w' = w ∨ w' = { w with drawn := w.drawn + 1 }) ∧ intgRel way b u := fun name way b => by
    have hu : Extern.MathFloor.toIntegral name way #[.float .f64 b] = (match FloatKind.f64.decode b with
      | .nan s t => if FloatKind.f64.format.quiet t = t then pure (.float .f64 b) else do
        let kept ← choose (.extern "math.Floor,Ceil,Trunc,RoundToEven.signallingNaN kept" 2)
        pure (.float .f64 (if kept == 1 then b else FloatKind.f64.encode (.nan s (FloatKind.f64.format.quiet t))))
      | d => pure (.float .f64 (FloatKind.f64.encode (d.integral way)))) := rfl
    rw [hu]
    split
    · rename_i s t hd
      split
      · exact ⟨_, w, by simp, .inl rfl, b, rfl, fun hn => absurd hd (hn s t)⟩
      · exact ⟨.float .f64 (if (Question.extern "math.Floor,Ceil,Trunc,RoundToEven.signallingNaN kept" 2).cut (w.tape w.drawn (.extern "math.Floor,Ceil,Trunc,RoundToEven.signallingNaN kept" 2)) == 1 then b else FloatKind.f64.encode (.nan s (FloatKind.f64.format.quiet t))), { w with drawn := w.drawn + 1 }, by simp [Question.forced], .inr rfl, _, rfl, fun hn => absurd hd (hn s t)⟩
    · exact ⟨_, w, by simp, .inl rfl, _, rfl, fun _ => rfl⟩
  unfold extArg at h
  split at h
  · rename_i hk
    simp only [Option.some.injEq] at h; subst h
    obtain ⟨b, rfl⟩ := kindS_ok hr hk ha
    exact ⟨.int .u64 b, w, rfl, .inl rfl, rfl, _, rfl⟩
  · rename_i hk
    simp only [Option.some.injEq] at h; subst h
    obtain ⟨b, rfl⟩ := kindS_ok hr hk ha
    exact ⟨.float .f64 b.toNat, w, rfl, .inl rfl, rfl, _, rfl⟩
  · rename_i hk
    simp only [Option.some.injEq] at h; subst h
    obtain ⟨b, rfl⟩ := kindS_ok hr hk ha
    obtain ⟨u, w', h1, h2, h3⟩ := integral "math.archFloor" .down b
    exact ⟨u, w', h1, h2, h3, h3.choose, h3.choose_spec.1⟩
  · rename_i hk
    simp only [Option.some.injEq] at h; subst h
    obtain ⟨b, rfl⟩ := kindS_ok hr hk ha
    obtain ⟨u, w', h1, h2, h3⟩ := integral "math.archCeil" .up b
    exact ⟨u, w', h1, h2, h3, h3.choose, h3.choose_spec.1⟩
  · rename_i hk
    simp only [Option.some.injEq] at h; subst h
    obtain ⟨b, rfl⟩ := kindS_ok hr hk ha
    obtain ⟨u, w', h1, h2, h3⟩ := integral "math.archTrunc" .zero b
    exact ⟨u, w', h1, h2, h3, h3.choose, h3.choose_spec.1⟩
  · rename_i hk
    simp only [Option.some.injEq] at h; subst h
    obtain ⟨b, rfl⟩ := kindS_ok hr hk ha
    have hu : ExtOp.sqrt.sem #[.float .f64 b] = (match FloatKind.f64.format.sqrt b with
      | some r => pure (.float .f64 r)
      | none => do pure (.float .f64 (← choose (.nanBits .f64 b b)))) := rfl
    rw [hu]
    split
    · rename_i r hs
      exact ⟨_, w, by simp, .inl rfl, ⟨r, rfl, fun r' h => by rw [hs] at h; exact Option.some.inj h⟩, r, rfl⟩
    · rename_i hs
      exact ⟨.float .f64 ((Question.nanBits .f64 b b).cut (w.tape w.drawn (.nanBits .f64 b b))), { w with drawn := w.drawn + 1 }, by simp [Question.forced], .inr rfl, ⟨_, rfl, fun r' h => by rw [hs] at h; cases h⟩, _, rfl⟩
  · cases h

theorem find_mem' {α : Type} {i : Nat} {l : List (Nat × α)} {x : α} (h : find i l = some x) : (i, x) ∈ l := find_mem h

theorem evExt_ok (hr : Rel B G w0 E S w) {X : List (Nat × ExtOp)} (hX : ∀ p ∈ X, ExtAt P p.1 p.2) {f : Nat} {args : List SV} {sv : SV} {S' : St} {vs : List Value} (h : evExt X S f args = some (sv, S')) (hv : SV.denL E args = some vs) :
    ∃ (F : Env) (v : Value) (w' : World), E.le F ∧ Rel B G w0 F S' w' ∧ sv.den F = some v ∧ (callFunc f vs.toArray).run P w = .ok (.value v) w' := by
  unfold evExt at h
  split at h
  · rename_i x a hx
    obtain ⟨v, l, ha, hl, rfl⟩ := denL_cons hv
    simp only [SV.denL, Option.some.injEq] at hl; subst hl
    split at h
    · rename_i srt hs
      obtain ⟨u, w', e1, e2, e3, e4⟩ := ext_run (P := P) hr.env hs ha w
      have hr' : Rel B G w0 E S w' := by
        rcases e2 with rfl | rfl
        · exact hr
        · exact rel_drew hr
      have hrun : (callFunc f [v].toArray).run P w = .ok (.value u) w' := by
        rw [hX _ (find_mem hx)]
        simp only [e1, Result.andThen_ok]
      cases hb : isBits x with
      | true =>
        rw [hb] at h
        simp only [cond_true, Option.some.injEq] at h
        obtain ⟨F, g1, g2, g3⟩ := known_ok hr' (bound_bits hb) hv e4 e3
        rw [h] at g2 g3
        exact ⟨F, u, w', g1, g2, g3, hrun⟩
      | false =>
        rw [hb] at h
        simp only [cond_false, Option.some.injEq] at h
        obtain ⟨g1, g2, g3⟩ := fresh_ok hr' (op := .ext x) hv e4 e3
        rw [h] at g2 g3
        exact ⟨_, u, w', g1, g2, g3, hrun⟩
    · cases h
  · cases h

/-! ### The length of a text, and its bytes -/
theorem bound_slen : Bound .slen := bound_fun fun _ _ _ => rfl
theorem bound_sidx : Bound .sidx := bound_fun fun _ _ _ => rfl

def evSLen (P : Program) (S : St) (t : TypeId) (x : SV) : Option (SV × St) :=
  match kindS S x, P.underlying t with
  | some .str, some .string => some (known S (.intIn .i64 (some 0) none) .slen [x])
  | _, _ => none

theorem evSLen_ok (hr : Rel B G w0 E S w) {t ty : TypeId} {x sv : SV} {S' : St} {vx : Value} (h : evSLen P S t x = some (sv, S')) (hx : x.den E = some vx) : Does B G w0 P E sv S' (Builtin.len_ #[t] ty #[vx]) w := by
  unfold evSLen at h
  split at h
  · rename_i hk hu
    obtain ⟨s, rfl⟩ := kindS_ok hr.env hk hx
    simp only [Option.some.injEq] at h
    have := known_does (P := P) (m := Builtin.len_ #[t] ty #[.string s]) hr bound_slen (denL_mk hx (r := []) rfl) (srt := .intIn .i64 (some 0) none) (v := .int .i64 s.size)
      ⟨_, rfl, fun a e => by cases e; omega, fun b e => by cases e⟩ rfl (by simp [Builtin.len_, run_underlying hu]; rfl)
    rw [h] at this; exact this
  · cases h
end
end Go.Ev
