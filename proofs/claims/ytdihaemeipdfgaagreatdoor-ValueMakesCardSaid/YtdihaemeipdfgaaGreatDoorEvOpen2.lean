/- Operations on one unknown number, text or truth; functions that the model has by itself. -/
import Derived.Test.YtdihaemeipdfgaaGreatDoorEvOpen
namespace Go.Ev
open Go.RowKit (Below)

section
variable {B G : Nat} {w0 : Start} {E : Env} {S : St} {w : World} {P : Program}

def evOpenUn (S : St) (op : UnOp) (x : SV) : Option (SV × St) :=
  match op, kindS S x with
  | .neg, some (.int k) => some (known S (.int k) (.un .neg) [x])
  | .neg, some (.float k) => some (known S (.float k) (.un .neg) [x])
  | .not, some .bool => some (known S .bool (.un .not) [x])
  | _, _ => none

theorem evOpenUn_ok (hr : Rel B G w0 E S w) {op : UnOp} {x sv : SV} {S' : St} {vx : Value} (h : evOpenUn S op x = some (sv, S')) (hx : x.den E = some vx) : Does B G w0 P E sv S' (Op.unary op vx) w := by
  have ha : SV.denL E [x] = some [vx] := denL_mk hx (r := []) rfl
  unfold evOpenUn at h
  split at h
  · rename_i k hk
    obtain ⟨n, rfl⟩ := kindS_ok hr.env hk hx
    simp only [Option.some.injEq] at h
    have := known_does (P := P) (m := Op.unary .neg (.int k n)) hr (bound_un .neg) ha (srt := .int k) (v := .int k (k.wrap (0 - n))) ⟨_, rfl⟩ rfl (by simp [Op.unary, Op.intArith])
    rw [h] at this; exact this
  · rename_i k hk
    obtain ⟨n, rfl⟩ := kindS_ok hr.env hk hx
    simp only [Option.some.injEq] at h
    have := known_does (P := P) (m := Op.unary .neg (.float k n)) hr (bound_un .neg) ha (srt := .float k) (v := .float k (Op.negFloat k n)) ⟨_, rfl⟩ rfl (by simp [Op.unary])
    rw [h] at this; exact this
  · rename_i hk
    obtain ⟨n, rfl⟩ := kindS_ok hr.env hk hx
    simp only [Option.some.injEq] at h
    have := known_does (P := P) (m := Op.unary .not (.bool n)) hr (bound_un .not) ha (srt := .bool) (v := .bool !n) ⟨_, rfl⟩ rfl (by simp [Op.unary])
    rw [h] at this; exact this
  · cases h

theorem bound_i2i (k : IntKind) : Bound (.i2i k) := bound_fun fun _ _ _ => rfl
theorem bound_i2f (k : FloatKind) : Bound (.i2f k) := bound_fun fun _ _ _ => rfl

def evOpenConv (P : Program) (S : St) (src dst : TypeId) (x : SV) : Option (SV × St) :=
  match P.underlying src, P.underlying dst, kindS S x with
  | some _, some (.int k), some (.int _) => some (known S (.int k) (.i2i k) [x])
  | some _, some (.float k), some (.int _) => some (known S (.float k) (.i2f k) [x])
  | some _, some (.int k), some (.float .f64) => some (freshS S (.int k) (.f2i k) [x])
  | some _, some (.float k), some (.float k') => bif decide (k = k') then some (x, S) else none
  | some _, some .string, some .str => some (x, S)
  | _, _, _ => none

theorem f2i_run {b : Nat} {k : IntKind} (w : World) :
    ∃ v w', (Conv.floatToInt .f64 b k).run P w = .ok v w' ∧ (w' = w ∨ w' = { w with drawn := w.drawn + 1 }) ∧ f2iRel k [.float .f64 b] v ∧ ∃ n, v = .int k n := by
  have any : (∀ n, (FloatKind.f64.decode b).toInt .zero = some n → ¬ (k.min ≤ n ∧ n ≤ k.max)) → ∃ v w', (do pure (.int k (k.wrap (← choose (.floatToInt .f64 b k)))) : Sem Value).run P w = .ok v w' ∧ (w' = w ∨ w' = { w with drawn := w.drawn + 1 }) ∧ f2iRel k [.float .f64 b] v ∧ ∃ n, v = .int k n := fun h =>
    ⟨.int k (k.wrap ((Question.floatToInt .f64 b k).cut (w.tape w.drawn (.floatToInt .f64 b k)))), { w with drawn := w.drawn + 1 }, by simp [Question.forced], .inr rfl, .inr ⟨h, _, rfl⟩, _, rfl⟩
  unfold Conv.floatToInt
  simp only
  split
  · rename_i n hn
    split
    · rename_i hin
      exact ⟨.int k n, w, by simp, .inl rfl, .inl ⟨n, hn, hin.1, hin.2, rfl⟩, n, rfl⟩
    · rename_i hin
      exact any fun m hm => by rw [hn] at hm; cases hm; exact hin
  · rename_i hn
    exact any fun m hm => by rw [hn] at hm; cases hm

theorem evOpenConv_ok (hr : Rel B G w0 E S w) {src dst : TypeId} {x sv : SV} {S' : St} {vx : Value} (h : evOpenConv P S src dst x = some (sv, S')) (hx : x.den E = some vx) : Does B G w0 P E sv S' (convert src dst vx) w := by
  have ha : SV.denL E [x] = some [vx] := denL_mk hx (r := []) rfl
  unfold evOpenConv at h
  split at h
  · rename_i ds k ki hs hd hk
    obtain ⟨n, rfl⟩ := kindS_ok hr.env hk hx
    simp only [Option.some.injEq] at h
    have := known_does (P := P) (m := convert src dst (.int ki n)) hr (bound_i2i k) ha (srt := .int k) (v := .int k (k.wrap n)) ⟨_, rfl⟩ rfl (by simp [convert, run_underlying hs, run_underlying hd, Conv.intToInt])
    rw [h] at this; exact this
  · rename_i ds k ki hs hd hk
    obtain ⟨n, rfl⟩ := kindS_ok hr.env hk hx
    simp only [Option.some.injEq] at h
    have := known_does (P := P) (m := convert src dst (.int ki n)) hr (bound_i2f k) ha (srt := .float k) (v := .float k (k.nearest n)) ⟨_, rfl⟩ rfl (by simp [convert, run_underlying hs, run_underlying hd, Conv.intToFloat])
    rw [h] at this; exact this
  · rename_i ds k hs hd hk
    obtain ⟨b, rfl⟩ := kindS_ok hr.env hk hx
    simp only [Option.some.injEq] at h
    obtain ⟨v, w', e1, e2, e3, e4⟩ := f2i_run (P := P) (b := b) (k := k) w
    have hr' : Rel B G w0 E S w' := by
      rcases e2 with rfl | rfl
      · exact hr
      · exact rel_drew hr
    obtain ⟨g1, g2, g3⟩ := fresh_ok hr' (srt := .int k) (op := .f2i k) ha (v := v) e4 e3
    rw [h] at g2 g3
    exact ⟨_, v, w', g1, g2, g3, by simp [convert, run_underlying hs, run_underlying hd, e1]⟩
  · rename_i ds k k' hs hd hk
    obtain ⟨b, rfl⟩ := kindS_ok hr.env hk hx
    cases hkk : decide (k = k') with
    | false => rw [hkk] at h; cases h
    | true =>
      rw [hkk] at h
      simp only [decide_eq_true_eq] at hkk; subst hkk
      simp only [cond_true, Option.some.injEq, Prod.mk.injEq] at h
      obtain ⟨rfl, rfl⟩ := h
      exact ⟨E, _, w, E.le_refl, hr, hx, by simp [convert, run_underlying hs, run_underlying hd, Conv.floatToFloat]⟩
  · rename_i ds hs hd hk
    obtain ⟨b, rfl⟩ := kindS_ok hr.env hk hx
    simp only [Option.some.injEq, Prod.mk.injEq] at h
    obtain ⟨rfl, rfl⟩ := h
    exact ⟨E, _, w, E.le_refl, hr, hx, by cases ds <;> simp [convert, run_underlying hs, run_underlying hd]⟩
  · cases h

/-! ### Functions that the model has by itself -/
def ExtOp.sem : ExtOp → Array Value → Sem Value
  | .fbits => Extern.MathFloatBits.float64bits
  | .ffrom => Extern.MathFloatBits.float64frombits
  | .floor => Extern.MathFloor.toIntegral "math.archFloor" .down
  | .ceil => Extern.MathFloor.toIntegral "math.archCeil" .up
  | .trunc => Extern.MathFloor.toIntegral "math.archTrunc" .zero
  | .sqrt => Extern.MathSqrt.sqrt

/-- The function f is that one of the model's. -/
def ExtAt (P : Program) (f : Nat) (x : ExtOp) : Prop := ∀ (args : Array Value) (w : World), (callFunc f args).run P w = ((x.sem args).run P w).andThen fun v w' => .ok (.value v) w'

theorem extAt_of {f : Nat} {fn : Func} {x : ExtOp} (hf : P.funcs[f]? = some fn) (hname : (fn.name == "runtime.NumGoroutine") = false)
    (hb : fn.body.isNone = true) (hn : Extern.findNext fn = none) (he : Extern.find fn = some x.sem) : ExtAt P f x :=
  fun args w => run_callFunc_extern hf hname hb hn he args w

def extArg (S : St) (x : ExtOp) (a : SV) : Option Sort_ :=
  match x, kindS S a with
  | .fbits, some (.float .f64) => some (.int .u64)
  | .ffrom, some (.int .u64) => some (.float .f64)
  | .floor, some (.float .f64) => some (.float .f64)
  | .ceil, some (.float .f64) => some (.float .f64)
  | .trunc, some (.float .f64) => some (.float .f64)
  | .sqrt, some (.float .f64) => some (.float .f64)
  | _, _ => none

def isBits : ExtOp → Bool
  | .fbits | .ffrom => true
  | _ => false

def evExt (X : List (Nat × ExtOp)) (S : St) (f : Nat) (args : List SV) : Option (SV × St) :=
  match find f X, args with
  | some x, [a] => match extArg S x a with
    | some srt => bif isBits x then some (known S srt (.ext x) [a]) else some (freshS S srt (.ext x) [a])
    | none => none
  | _, _ => none

theorem bound_bits {x : ExtOp} (h : isBits x = true) : Bound (.ext x) := fun w0 vs v u h1 h2 => by
  cases x <;> simp only [isBits, Bool.false_eq_true] at h
  · match vs, h1, h2 with
    | [.float .f64 b], h1, h2 => exact h1.trans h2.symm
  · match vs, h1, h2 with
    | [.int .u64 b], h1, h2 => exact h1.trans h2.symm

theorem ext_run {x : ExtOp} {S : St} {a : SV} {srt : Sort_} {v : Value} (hr : ERel E S) (h : extArg S x a = some srt) (ha : a.den E = some v) (w : World) :
    ∃ u w', (x.sem #[v]).run P w = .ok u w' ∧ (w' = w ∨ w' = { w with drawn := w.drawn + 1 }) ∧ extRel x [v] u ∧ srt.fits u := by
  have integral : ∀ (name : String) (way : Ieee.Toward) (b : Nat), ∃ u w', (Extern.MathFloor.toIntegral name way #[.float .f64 b]).run P w = .ok u w' ∧ (w' = w ∨ w' = { w with drawn := w.drawn + 1 }) ∧ intgRel way b u := fun name way b => by
    have hu : Extern.MathFloor.toIntegral name way #[.float .f64 b] = (match FloatKind.f64.decode b with
      | .nan s t => if FloatKind.f64.format.quiet t = t then pure (.float .f64 b) else do
        let kept ← choose (.extern "math.Floor,Ceil,Trunc,RoundToEven.signallingNaN kept" 2)
        pure (.float .f64 (if kept == 1 then b else FloatKind.f64.encode (.nan s (FloatKind.f64.format.quiet t))))
      | d => pure (.float .f64 (FloatKind.f64.encode (d.integral way)))) := rfl
    rw [hu]
    split
    · rename_i s t hd
      split
      · exact ⟨_, w, by simp, .inl rfl, b, rfl, fun hn => absurd hd (hn s t)⟩
      · exact ⟨.float .f64 (if (Question.extern "math.Floor,Ceil,Trunc,RoundToEven.signallingNaN kept" 2).cut (w.tape w.drawn (.extern "math.Floor,Ceil,Trunc,RoundToEven.signallingNaN kept" 2)) == 1 then b else FloatKind.f64.encode (.nan s (FloatKind.f64.format.quiet t))), { w with drawn := w.drawn + 1 }, by simp [Question.forced], .inr rfl, _, rfl, fun hn => absurd hd (hn s t)⟩
    · exact ⟨_, w, by simp, .inl rfl, _, rfl, fun _ => rfl⟩
  unfold extArg at h
  split at h
  · rename_i hk
    simp only [Option.some.injEq] at h; subst h
    obtain ⟨b, rfl⟩ := kindS_ok hr hk ha
    exact ⟨.int .u64 b, w, rfl, .inl rfl, rfl, _, rfl⟩
  · rename_i hk
    simp only [Option.some.injEq] at h; subst h
    obtain ⟨b, rfl⟩ := kindS_ok hr hk ha
    exact ⟨.float .f64 b.toNat, w, rfl, .inl rfl, rfl, _, rfl⟩
  · rename_i hk
    simp only [Option.some.injEq] at h; subst h
    obtain ⟨b, rfl⟩ := kindS_ok hr hk ha
    obtain ⟨u, w', h1, h2, h3⟩ := integral "math.archFloor" .down b
    exact ⟨u, w', h1, h2, h3, h3.choose, h3.choose_spec.1⟩
  · rename_i hk
    simp only [Option.some.injEq] at h; subst h
    obtain ⟨b, rfl⟩ := kindS_ok hr hk ha
    obtain ⟨u, w', h1, h2, h3⟩ := integral "math.archCeil" .up b
    exact ⟨u, w', h1, h2, h3, h3.choose, h3.choose_spec.1⟩
  · rename_i hk
    simp only [Option.some.injEq] at h; subst h
    obtain ⟨b, rfl⟩ := kindS_ok hr hk ha
    obtain ⟨u, w', h1, h2, h3⟩ := integral "math.archTrunc" .zero b
    exact ⟨u, w', h1, h2, h3, h3.choose, h3.choose_spec.1⟩
  · rename_i hk
    simp only [Option.some.injEq] at h; subst h
    obtain ⟨b, rfl⟩ := kindS_ok hr hk ha
    have hu : ExtOp.sqrt.sem #[.float .f64 b] = (match FloatKind.f64.format.sqrt b with
      | some r => pure (.float .f64 r)
      | none => do pure (.float .f64 (← choose (.nanBits .f64 b b)))) := rfl
    rw [hu]
    split
    · rename_i r hs
      exact ⟨_, w, by simp, .inl rfl, ⟨r, rfl, fun r' h => by rw [hs] at h; exact Option.some.inj h⟩, r, rfl⟩
    · rename_i hs
      exact ⟨.float .f64 ((Question.nanBits .f64 b b).cut (w.tape w.drawn (.nanBits .f64 b b))), { w with drawn := w.drawn + 1 }, by simp [Question.forced], .inr rfl, ⟨_, rfl, fun r' h => by rw [hs] at h; cases h⟩, _, rfl⟩
  · cases h

theorem find_mem' {α : Type} {i : Nat} {l : List (Nat × α)} {x : α} (h : find i l = some x) : (i, x) ∈ l := find_mem h

theorem evExt_ok (hr : Rel B G w0 E S w) {X : List (Nat × ExtOp)} (hX : ∀ p ∈ X, ExtAt P p.1 p.2) {f : Nat} {args : List SV} {sv : SV} {S' : St} {vs : List Value} (h : evExt X S f args = some (sv, S')) (hv : SV.denL E args = some vs) :
    ∃ (F : Env) (v : Value) (w' : World), E.le F ∧ Rel B G w0 F S' w' ∧ sv.den F = some v ∧ (callFunc f vs.toArray).run P w = .ok (.value v) w' := by
  unfold evExt at h
  split at h
  · rename_i x a hx
    obtain ⟨v, l, ha, hl, rfl⟩ := denL_cons hv
    simp only [SV.denL, Option.some.injEq] at hl; subst hl
    split at h
    · rename_i srt hs
      obtain ⟨u, w', e1, e2, e3, e4⟩ := ext_run (P := P) hr.env hs ha w
      have hr' : Rel B G w0 E S w' := by
        rcases e2 with rfl | rfl
        · exact hr
        · exact rel_drew hr
      have hrun : (callFunc f [v].toArray).run P w = .ok (.value u) w' := by
        rw [hX _ (find_mem hx)]
        simp only [e1, Result.andThen_ok]
      cases hb : isBits x with
      | true =>
        rw [hb] at h
        simp only [cond_true, Option.some.injEq] at h
        obtain ⟨F, g1, g2, g3⟩ := known_ok hr' (bound_bits hb) hv e4 e3
        rw [h] at g2 g3
        exact ⟨F, u, w', g1, g2, g3, hrun⟩
      | false =>
        rw [hb] at h
        simp only [cond_false, Option.some.injEq] at h
        obtain ⟨g1, g2, g3⟩ := fresh_ok hr' (op := .ext x) hv e4 e3
        rw [h] at g2 g3
        exact ⟨_, u, w', g1, g2, g3, hrun⟩
    · cases h
  · cases h

/-! ### The length of a text, and its bytes -/
theorem bound_slen : Bound .slen := bound_fun fun _ _ _ => rfl
theorem bound_sidx : Bound .sidx := bound_fun fun _ _ _ => rfl

def evSLen (P : Program) (S : St) (t : TypeId) (x : SV) : Option (SV × St) :=
  match kindS S x, P.underlying t with
  | some .str, some .string => some (known S (.intIn .i64 (some 0) none) .slen [x])
  | _, _ => none

theorem evSLen_ok (hr : Rel B G w0 E S w) {t ty : TypeId} {x sv : SV} {S' : St} {vx : Value} (h : evSLen P S t x = some (sv, S')) (hx : x.den E = some vx) : Does B G w0 P E sv S' (Builtin.len_ #[t] ty #[vx]) w := by
  unfold evSLen at h
  split at h
  · rename_i hk hu
    obtain ⟨s, rfl⟩ := kindS_ok hr.env hk hx
    simp only [Option.some.injEq] at h
    have := known_does (P := P) (m := Builtin.len_ #[t] ty #[.string s]) hr bound_slen (denL_mk hx (r := []) rfl) (srt := .intIn .i64 (some 0) none) (v := .int .i64 s.size)
      ⟨_, rfl, fun a e => by cases e; omega, fun b e => by cases e⟩ rfl (by simp [Builtin.len_, run_underlying hu]; rfl)
    rw [h] at this; exact this
  · cases h
end
end Go.Ev
